/- Contracts of the functions that the law reaches. -/
import Derived.Test.YtijdbfbeobflnaaPw
import Derived.Test.YtijdbfbeobflnaaPma
import Derived.Test.YtijdbfbeobflnaaProg
import Derived.KernelRfl
set_option linter.unusedVariables false
set_option linter.unusedSimpArgs false
namespace Go.Proofs.Ytijdbfbeobflnaa
open Go

def s_l1In_C (f : FuncId) (ds : List D) : Orc := .no
def s_l1In_A (x : Int) (a : Int) (b : Int) : Ann := .none
def s_l1In_P (x : Int) (a : Int) (b : Int) : Prop :=
  ((decide (x ≥ a)) = true → (decide (x ≥ a)) = true) ∧ ((decide (x ≥ a)) = true → (decide (x ≥ a)) = true) ∧ (true = true) ∧ (((decide (x ≥ a)) = true → (decide (x ≥ a)) = true)) ∧ (((decide (x ≥ a)) = false → true = true)) ∧ (((cond (decide (x ≥ a)) (decide (x ≤ b)) false) = (inB x a b)))
theorem s_l1In_vc (x : Int) (a : Int) (b : Int)   : s_l1In_P x a b := by
  unfold s_l1In_P
  refine ⟨id, id, rfl, id, fun _ => rfl, ?_⟩
  · first | omega | rfl | (intro hg; simp only [nrmT] at hg; omega) | (intro g1 g2; simp [g1, g2]; done) | (intro g1; simp at g1 ⊢; simp [g1]; done) | (simp only [nrmT] at *; omega) | (simp at * <;> omega) | (simp_all <;> omega) | (simp_all; done) | (simp [inB]; omega) | (simp only [inB]; by_cases h : a ≤ x <;> simp_all)
theorem s_l1In_pc (x : Int) (a : Int) (b : Int)  : PC Try.prog 104 [.int .i64 x, .int .i64 a, .int .i64 b] (.one (.d (.bool (inB x a b)))) :=
  pc_wf @Try.call104 fun _ => pc_by (by kernel_rfl) Try.func104 @Try.call104 (by kernel_rfl) s_l1In_C (s_l1In_A x a b) (by kernel_rfl) (s_l1In_vc x a b) (by kernel_rfl)
def s_l1In_orc : List D → Orc := orcN [none, none, none] fun ds => match ds with
  | [.int .i64 x, .int .i64 a, .int .i64 b] => some (.one (.d (.bool (inB x a b))))
  | _ => none
def i_between_C (f : FuncId) (ds : List D) : Orc := .no
def i_between_A (x : Int) (a : Int) (b : Int) : Ann := .none
def i_between_P (x : Int) (a : Int) (b : Int) : Prop :=
  ((decide (x ≥ a)) = true → (decide (x ≥ a)) = true) ∧ ((decide (x ≥ a)) = true → (decide (x ≥ a)) = true) ∧ (true = true) ∧ (((decide (x ≥ a)) = true → (decide (x ≥ a)) = true)) ∧ (((decide (x ≥ a)) = false → true = true)) ∧ (((cond (decide (x ≥ a)) (decide (x ≤ b)) false) = (inB x a b)))
theorem i_between_vc (x : Int) (a : Int) (b : Int)   : i_between_P x a b := by
  unfold i_between_P
  refine ⟨id, id, rfl, id, fun _ => rfl, ?_⟩
  · first | omega | rfl | (intro hg; simp only [nrmT] at hg; omega) | (intro g1 g2; simp [g1, g2]; done) | (intro g1; simp at g1 ⊢; simp [g1]; done) | (simp only [nrmT] at *; omega) | (simp at * <;> omega) | (simp_all <;> omega) | (simp_all; done) | (simp [inB]; omega) | (simp only [inB]; by_cases h : a ≤ x <;> simp_all)
theorem i_between_pc (x : Int) (a : Int) (b : Int)  : PC Try.prog 107 [.int .i64 x, .int .i64 a, .int .i64 b] (.one (.d (.bool (inB x a b)))) :=
  pc_wf @Try.call107 fun _ => pc_by (by kernel_rfl) Try.func107 @Try.call107 (by kernel_rfl) i_between_C (i_between_A x a b) (by kernel_rfl) (i_between_vc x a b) (by kernel_rfl)
def i_between_orc : List D → Orc := orcN [none, none, none] fun ds => match ds with
  | [.int .i64 x, .int .i64 a, .int .i64 b] => some (.one (.d (.bool (inB x a b))))
  | _ => none
def sz1 (n : Nat) (left : Int) : Int := if left - n < 0 then -1 else left - n
def szTo (xss : List (List Int)) (left : Int) (k : Nat) : Int := foldTo (fun l k => if l < 0 then l else sz1 (xss.getD k []).length l) left k
def szRows (xss : List (List Int)) (left : Int) : Int := if left - xss.length < 0 then -1 else szTo xss (left - xss.length) xss.length
theorem szTo_stuck {xss : List (List Int)} {left : Int} {k : Nat} (h : szTo xss left k < 0) : ∀ n, k ≤ n → szTo xss left n = szTo xss left k
  | 0, hk => by have : k = 0 := by omega
                rw [this]
  | n + 1, hk => by
    by_cases e : k = n + 1
    · rw [e]
    · have h2 := szTo_stuck h n (by omega)
      show (if szTo xss left n < 0 then szTo xss left n else _) = _
      rw [h2, if_pos h]
theorem szTo_step {xss : List (List Int)} {left : Int} {i : Int} (h0 : 0 ≤ i) (h : 0 ≤ szTo xss left i.toNat) : szTo xss left (i + 1).toNat = sz1 (xss.getD i.toNat []).length (szTo xss left i.toNat) := by
  have e : (i + 1).toNat = i.toNat + 1 := by omega
  rw [e]
  show (if szTo xss left i.toNat < 0 then _ else _) = _
  rw [if_neg (by omega)]
  rfl
theorem szTo_bound {xss : List (List Int)} {left : Int} : ∀ k, k ≤ xss.length → 0 ≤ szTo xss left k → szTo xss left k ≤ left ∧ ∀ j, j < k → ((xss.getD j []).length : Int) ≤ left
  | 0, _, _ => ⟨Int.le_refl _, fun j hj => by omega⟩
  | k + 1, hk, h => by
    have e : szTo xss left (k + 1) = if szTo xss left k < 0 then szTo xss left k else sz1 (xss.getD k []).length (szTo xss left k) := rfl
    rw [e] at h ⊢
    by_cases h2 : szTo xss left k < 0
    · rw [if_pos h2] at h; omega
    · rw [if_neg h2] at h ⊢
      obtain ⟨h3, h4⟩ := szTo_bound (xss := xss) (left := left) k (by omega) (by omega)
      unfold sz1 at h ⊢
      by_cases h5 : szTo xss left k - ((xss.getD k []).length : Int) < 0
      · rw [if_pos h5] at h; omega
      · rw [if_neg h5] at h ⊢
        refine ⟨by omega, fun j hj => ?_⟩
        by_cases ej : j = k
        · rw [ej]; omega
        · exact h4 j (by omega)
theorem szRows_bound {xss : List (List Int)} {left : Int} (h : 0 ≤ szRows xss left) : szRows xss left ≤ left ∧ (xss.length : Int) ≤ left ∧ ∀ xs ∈ xss, (xs.length : Int) ≤ left := by
  unfold szRows at h ⊢
  by_cases h2 : left - (xss.length : Int) < 0
  · rw [if_pos h2] at h; omega
  · rw [if_neg h2] at h ⊢
    obtain ⟨h3, h4⟩ := szTo_bound _ (Nat.le_refl _) h
    refine ⟨by omega, by omega, fun xs hx => ?_⟩
    obtain ⟨k, hk, rfl⟩ := List.mem_iff_getElem.1 hx
    have := h4 k hk
    simp [hk] at this
    omega
theorem sz1_neg {n : Nat} {left : Int} (h : sz1 n left < 0) : sz1 n left = -1 := by
  unfold sz1 at *
  by_cases c : left - (n : Int) < 0
  · rw [if_pos c]
  · rw [if_neg c] at h; omega
theorem sz1_bound {n : Nat} {left : Int} (h : 0 ≤ sz1 n left) : sz1 n left ≤ left ∧ (n : Int) ≤ left := by
  unfold sz1 at *
  split at h <;> simp_all <;> omega
def l_szIntS_C (f : FuncId) (ds : List D) : Orc := .no
def l_szIntS_A (xs : List Int) (left : Int) : Ann := .none
def l_szIntS_P (xs : List Int) (left : Int) : Prop :=
  (-9223372036854775808 ≤ (left - (xs.length : Int)) ∧ (left - (xs.length : Int)) ≤ 9223372036854775807) ∧ (((decide ((left - (xs.length : Int)) < 0)) = true → ((((-1) : Int) = (sz1 xs.length left)))) ∧ ((decide ((left - (xs.length : Int)) < 0)) = false → (((left - (xs.length : Int)) = (sz1 xs.length left)))))
theorem l_szIntS_vc (xs : List Int) (left : Int) (hl : 0 ≤ left ∧ left ≤ 1048576) (w_xs : (xs.length : Int) ≤ 9223372036854775807) : l_szIntS_P xs left := by
  unfold l_szIntS_P
  refine ⟨?_, ?_, ?_⟩
  · first | omega | rfl | (intro hg; simp only [nrmT] at hg; omega) | (intro g1 g2; simp [g1, g2]; done) | (intro g1; simp at g1 ⊢; simp [g1]; done) | (simp only [nrmT] at *; omega) | (simp at * <;> omega) | (simp_all <;> omega) | (simp_all; done)
  · intro b1
    try simp only [nrmT] at b1
    unfold sz1; split <;> omega
  · intro b2
    try simp only [nrmT] at b2
    unfold sz1; split <;> omega
theorem l_szIntS_pc (xs : List Int) (left : Int) (hl : 0 ≤ left ∧ left ≤ 1048576) : PC Try.prog 98 [.sl (.ints xs), .int .i64 left] (.one (.d (.int .i64 (sz1 xs.length left)))) :=
  pc_wf @Try.call98 fun hw => pc_by (by kernel_rfl) Try.func98 @Try.call98 (by kernel_rfl) l_szIntS_C (l_szIntS_A xs left) (by kernel_rfl) (l_szIntS_vc xs left hl hw.1) (by kernel_rfl)
def l_szIntS_orc : List D → Orc := orcN [some .ints, none] fun ds => match ds with
  | [.sl (.ints xs), .int .i64 left] => some (.one (.d (.int .i64 (sz1 xs.length left))))
  | _ => none
abbrev l_szIntSS_JJ0 (xss : List (List Int)) (left : Int) (left1 : Int) (i : Int) : Prop := (0 ≤ i) ∧ (i ≤ (xss.length : Int)) ∧ (left1 = szTo xss (left - xss.length) i.toNat) ∧ (0 ≤ left1 ∧ left1 ≤ 1048576) ∧ (0 ≤ left - (xss.length : Int))
abbrev l_szIntSS_mJ0 (xss : List (List Int)) (left : Int) (left1 : Int) (i : Int) : Nat := (xss.length - i).toNat
def l_szIntSS_C (f : FuncId) (ds : List D) : Orc := bif Nat.beq f 98 then l_szIntS_orc ds else .no
def l_szIntSS_A (xss : List (List Int)) (left : Int) : Ann := .two (.none) (.two (.none) (.two (.none) (.two (.two (.none) (.loop (cut2 (fun (left1 : Int) (i : Int) => l_szIntSS_JJ0 xss left left1 i) (fun (left1 : Int) (i : Int) => [(0, .d false (.sl (.rows xss))), (1, .d true (.int .i64 left1)), (5, .d true (.int .i64 i))]) (fun (left1 : Int) (i : Int) => [])) (fun g => l_szIntSS_mJ0 xss left g.1 g.2) (fun _ => .none))) (.none))))
def l_szIntSS_P (xss : List (List Int)) (left : Int) : Prop :=
  (-9223372036854775808 ≤ (left - (xss.length : Int)) ∧ (left - (xss.length : Int)) ≤ 9223372036854775807) ∧ (((decide ((left - (xss.length : Int)) < 0)) = true → ((((-1) : Int) = (szRows xss left)))) ∧ ((decide ((left - (xss.length : Int)) < 0)) = false → ((∃ left1' : Int, ∃ i' : Int, (l_szIntSS_JJ0 xss left left1' i') ∧ (xss = xss) ∧ ((left - (xss.length : Int)) = left1') ∧ ((0 : Int) = i')) ∧ (∀ left1 : Int, ∀ i : Int, (l_szIntSS_JJ0 xss left left1 i) → (((decide (i < (xss.length : Int))) = true → ((0 : Int) ≤ i) ∧ ((i : Int) < xss.length) ∧ (i.toNat < xss.length) ∧ (PC Try.prog 98 [.sl (.ints (xss.getD i.toNat [])), .int .i64 left1] (.one (.d (.int .i64 (sz1 (xss.getD i.toNat []).length left1))))) ∧ (((decide ((sz1 (xss.getD i.toNat []).length left1) < 0)) = true → ((((-1) : Int) = (szRows xss left)))) ∧ ((decide ((sz1 (xss.getD i.toNat []).length left1) < 0)) = false → (-9223372036854775808 ≤ (i + 1) ∧ (i + 1) ≤ 9223372036854775807) ∧ (∃ left1' : Int, ∃ i' : Int, (l_szIntSS_JJ0 xss left left1' i') ∧ (l_szIntSS_mJ0 xss left left1' i' < l_szIntSS_mJ0 xss left left1 i) ∧ (xss = xss) ∧ ((sz1 (xss.getD i.toNat []).length left1) = left1') ∧ ((i + 1) = i'))))) ∧ ((decide (i < (xss.length : Int))) = false → ((left1 = (szRows xss left)))))))))
theorem l_szIntSS_vc (xss : List (List Int)) (left : Int) (hl : 0 ≤ left ∧ left ≤ 1048576) (w_xss : (xss.length : Int) ≤ 9223372036854775807) (v_xss : ∀ x9 ∈ xss, (x9.length : Int) ≤ 9223372036854775807) : l_szIntSS_P xss left := by
  unfold l_szIntSS_P
  refine ⟨?_, ?_, ?_⟩
  · first | omega | rfl | (intro hg; simp only [nrmT] at hg; omega) | (intro g1 g2; simp [g1, g2]; done) | (intro g1; simp at g1 ⊢; simp [g1]; done) | (simp only [nrmT] at *; omega) | (simp at * <;> omega) | (simp_all <;> omega) | (simp_all; done)
  · intro b1
    try simp only [nrmT] at b1
    unfold szRows; rw [if_pos (by omega)]
  · intro b2
    try simp only [nrmT] at b2
    refine ⟨?_, ?_⟩
    · refine ⟨(left - (xss.length : Int)), 0, ?_⟩
      refine ⟨?_, rfl, rfl, rfl⟩
      · refine ⟨?_, ?_, ?_, ?_, ?_⟩
        · first | omega | rfl | (intro hg; simp only [nrmT] at hg; omega) | (intro g1 g2; simp [g1, g2]; done) | (intro g1; simp at g1 ⊢; simp [g1]; done) | (simp only [nrmT] at *; omega) | (simp at * <;> omega) | (simp_all <;> omega) | (simp_all; done)
        · first | omega | rfl | (intro hg; simp only [nrmT] at hg; omega) | (intro g1 g2; simp [g1, g2]; done) | (intro g1; simp at g1 ⊢; simp [g1]; done) | (simp only [nrmT] at *; omega) | (simp at * <;> omega) | (simp_all <;> omega) | (simp_all; done)
        · first | omega | rfl | (intro hg; simp only [nrmT] at hg; omega) | (intro g1 g2; simp [g1, g2]; done) | (intro g1; simp at g1 ⊢; simp [g1]; done) | (simp only [nrmT] at *; omega) | (simp at * <;> omega) | (simp_all <;> omega) | (simp_all; done)
        · first | omega | rfl | (intro hg; simp only [nrmT] at hg; omega) | (intro g1 g2; simp [g1, g2]; done) | (intro g1; simp at g1 ⊢; simp [g1]; done) | (simp only [nrmT] at *; omega) | (simp at * <;> omega) | (simp_all <;> omega) | (simp_all; done)
        · first | omega | rfl | (intro hg; simp only [nrmT] at hg; omega) | (intro g1 g2; simp [g1, g2]; done) | (intro g1; simp at g1 ⊢; simp [g1]; done) | (simp only [nrmT] at *; omega) | (simp at * <;> omega) | (simp_all <;> omega) | (simp_all; done)
    · intro left1 i hJ
      obtain ⟨h1, h2, h3, h4, h5⟩ := hJ
      refine ⟨?_, ?_⟩
      · intro b3
        try simp only [nrmT] at b3
        refine ⟨?_, ?_, ?_, ?_, ?_, ?_⟩
        · first | omega | rfl | (intro hg; simp only [nrmT] at hg; omega) | (intro g1 g2; simp [g1, g2]; done) | (intro g1; simp at g1 ⊢; simp [g1]; done) | (simp only [nrmT] at *; omega) | (simp at * <;> omega) | (simp_all <;> omega) | (simp_all; done)
        · first | omega | rfl | (intro hg; simp only [nrmT] at hg; omega) | (intro g1 g2; simp [g1, g2]; done) | (intro g1; simp at g1 ⊢; simp [g1]; done) | (simp only [nrmT] at *; omega) | (simp at * <;> omega) | (simp_all <;> omega) | (simp_all; done)
        · first | omega | rfl | (intro hg; simp only [nrmT] at hg; omega) | (intro g1 g2; simp [g1, g2]; done) | (intro g1; simp at g1 ⊢; simp [g1]; done) | (simp only [nrmT] at *; omega) | (simp at * <;> omega) | (simp_all <;> omega) | (simp_all; done)
        · refine l_szIntS_pc (xss.getD i.toNat []) left1 ?_
          · first | omega | rfl | (intro hg; simp only [nrmT] at hg; omega) | (intro g1 g2; simp [g1, g2]; done) | (intro g1; simp at g1 ⊢; simp [g1]; done) | (simp only [nrmT] at *; omega) | (simp at * <;> omega) | (simp_all <;> omega) | (simp_all; done)
        · intro b4
          try simp only [nrmT] at b4
          have e := szTo_step (xss := xss) (left := left - xss.length) h1 (by omega)
          rw [← h3] at e
          have e2 := szTo_stuck (k := (i + 1).toNat) (by rw [e]; exact b4) xss.length (by omega)
          unfold szRows
          rw [if_neg (by omega), e2, e]
          exact (sz1_neg b4).symm
        · intro b5
          try simp only [nrmT] at b5
          refine ⟨?_, ?_⟩
          · first | omega | rfl | (intro hg; simp only [nrmT] at hg; omega) | (intro g1 g2; simp [g1, g2]; done) | (intro g1; simp at g1 ⊢; simp [g1]; done) | (simp only [nrmT] at *; omega) | (simp at * <;> omega) | (simp_all <;> omega) | (simp_all; done)
          · refine ⟨(sz1 (xss.getD i.toNat []).length left1), (i + 1), ?_⟩
            refine ⟨?_, ?_, rfl, rfl, rfl⟩
            · refine ⟨?_, ?_, ?_, ?_, ?_⟩
              · first | omega | rfl | (intro hg; simp only [nrmT] at hg; omega) | (intro g1 g2; simp [g1, g2]; done) | (intro g1; simp at g1 ⊢; simp [g1]; done) | (simp only [nrmT] at *; omega) | (simp at * <;> omega) | (simp_all <;> omega) | (simp_all; done)
              · first | omega | rfl | (intro hg; simp only [nrmT] at hg; omega) | (intro g1 g2; simp [g1, g2]; done) | (intro g1; simp at g1 ⊢; simp [g1]; done) | (simp only [nrmT] at *; omega) | (simp at * <;> omega) | (simp_all <;> omega) | (simp_all; done)
              · rw [h3, szTo_step h1 (by omega)]
              · have := sz1_bound (n := (xss.getD i.toNat []).length) (left := left1) (by omega)
                omega
              · first | omega | rfl | (intro hg; simp only [nrmT] at hg; omega) | (intro g1 g2; simp [g1, g2]; done) | (intro g1; simp at g1 ⊢; simp [g1]; done) | (simp only [nrmT] at *; omega) | (simp at * <;> omega) | (simp_all <;> omega) | (simp_all; done)
            · first | (show _ < _; omega) | (simp only [l_szIntSS_mJ0]; omega) | (simp only [l_szIntSS_mJ0] at *; simp at *; omega)
      · intro b6
        try simp only [nrmT] at b6
        unfold szRows
        rw [if_neg (by omega), h3]
        have : i.toNat = xss.length := by omega
        rw [this]
theorem l_szIntSS_pc (xss : List (List Int)) (left : Int) (hl : 0 ≤ left ∧ left ≤ 1048576) : PC Try.prog 65 [.sl (.rows xss), .int .i64 left] (.one (.d (.int .i64 (szRows xss left)))) :=
  pc_wf @Try.call65 fun hw => pc_by (by kernel_rfl) Try.func65 @Try.call65 (by kernel_rfl) l_szIntSS_C (l_szIntSS_A xss left) (by kernel_rfl) (l_szIntSS_vc xss left hl hw.1.1 hw.1.2) (by kernel_rfl)
def l_szIntSS_orc : List D → Orc := orcN [some .rows, none] fun ds => match ds with
  | [.sl (.rows xss), .int .i64 left] => some (.one (.d (.int .i64 (szRows xss left))))
  | _ => none
def risingP (xs : List Int) (lo hi : Int) (k : Nat) : Bool := inB (xs.getD k 0) lo hi && (decide (k = 0) || decide (xs.getD (k - 1) 0 < xs.getD k 0))
def rising (xs : List Int) (lo hi : Int) : Bool := allTo (risingP xs lo hi) xs.length
theorem rising_step {xs : List Int} {lo hi i : Int} (h0 : 0 ≤ i) {c : Bool} (hc : (cond (!(inB (xs.getD i.toNat 0) lo hi)) true (cond (decide (i > 0)) (decide (xs.getD (i - 1).toNat 0 ≥ xs.getD i.toNat 0)) false)) = c) :
    risingP xs lo hi i.toNat = !c := by
  subst hc
  have e : (i - 1).toNat = i.toNat - 1 := by omega
  unfold risingP
  rw [e]
  cases inB (xs.getD i.toNat 0) lo hi
  · rfl
  · by_cases h : i > 0
    · have h2 : ¬ i.toNat = 0 := by omega
      simp [h, h2]
      by_cases h3 : xs[i.toNat - 1]?.getD 0 < xs[i.toNat]?.getD 0
      · simp [h3]
      · simp [h3]; omega
    · have h2 : i.toNat = 0 := by omega
      simp [h, h2]
abbrev s_l1Rising_JJ0 (xs : List Int) (lo : Int) (hi : Int) (i : Int) : Prop := (0 ≤ i) ∧ (i ≤ (xs.length : Int)) ∧ (allTo (risingP xs lo hi) i.toNat = true)
abbrev s_l1Rising_mJ0 (xs : List Int) (lo : Int) (hi : Int) (i : Int) : Nat := (xs.length - i).toNat
def s_l1Rising_C (f : FuncId) (ds : List D) : Orc := bif Nat.beq f 104 then s_l1In_orc ds else .no
def s_l1Rising_A (xs : List Int) (lo : Int) (hi : Int) : Ann := .two (.none) (.two (.two (.none) (.loop (cut1 (fun (i : Int) => s_l1Rising_JJ0 xs lo hi i) (fun (i : Int) => [(0, .d false (.sl (.ints xs))), (1, .d false (.int .i64 lo)), (2, .d false (.int .i64 hi)), (7, .d true (.int .i64 i))]) (fun (i : Int) => [])) (fun g => s_l1Rising_mJ0 xs lo hi g) (fun _ => .none))) (.none))
def s_l1Rising_P (xs : List Int) (lo : Int) (hi : Int) : Prop :=
  ((∃ i' : Int, (s_l1Rising_JJ0 xs lo hi i') ∧ (xs = xs) ∧ (lo = lo) ∧ (hi = hi) ∧ ((0 : Int) = i')) ∧ (∀ i : Int, (s_l1Rising_JJ0 xs lo hi i) → (((decide (i < (xs.length : Int))) = true → (true = true) ∧ ((0 : Int) ≤ i) ∧ ((i : Int) < xs.length) ∧ (i.toNat < xs.length) ∧ (PC Try.prog 104 [.int .i64 (xs.getD i.toNat 0), .int .i64 lo, .int .i64 hi] (.one (.d (.bool (inB (xs.getD i.toNat 0) lo hi))))) ∧ ((!(!(inB (xs.getD i.toNat 0) lo hi))) = true → (!(!(inB (xs.getD i.toNat 0) lo hi))) = true) ∧ ((!(!(inB (xs.getD i.toNat 0) lo hi))) = true → (!(!(inB (xs.getD i.toNat 0) lo hi))) = true) ∧ (((!(!(inB (xs.getD i.toNat 0) lo hi))) && (decide (i > 0))) = true → ((!(!(inB (xs.getD i.toNat 0) lo hi))) && (decide (i > 0))) = true) ∧ ((((!(!(inB (xs.getD i.toNat 0) lo hi))) && (decide (i > 0))) = true → -9223372036854775808 ≤ (i - 1) ∧ (i - 1) ≤ 9223372036854775807)) ∧ (((!(!(inB (xs.getD i.toNat 0) lo hi))) && (decide (i > 0))) = true → ((!(!(inB (xs.getD i.toNat 0) lo hi))) && (decide (i > 0))) = true) ∧ (((!(!(inB (xs.getD i.toNat 0) lo hi))) && (decide (i > 0))) = true → ((!(!(inB (xs.getD i.toNat 0) lo hi))) && (decide (i > 0))) = true) ∧ ((((!(!(inB (xs.getD i.toNat 0) lo hi))) && (decide (i > 0))) = true → (0 : Int) ≤ (i - 1))) ∧ ((((!(!(inB (xs.getD i.toNat 0) lo hi))) && (decide (i > 0))) = true → ((i - 1) : Int) < xs.length)) ∧ (((!(!(inB (xs.getD i.toNat 0) lo hi))) && (decide (i > 0))) = true → ((!(!(inB (xs.getD i.toNat 0) lo hi))) && (decide (i > 0))) = true) ∧ ((((!(!(inB (xs.getD i.toNat 0) lo hi))) && (decide (i > 0))) = true → (i - 1).toNat < xs.length)) ∧ (((!(!(inB (xs.getD i.toNat 0) lo hi))) && (decide (i > 0))) = true → ((!(!(inB (xs.getD i.toNat 0) lo hi))) && (decide (i > 0))) = true) ∧ (((!(!(inB (xs.getD i.toNat 0) lo hi))) && (decide (i > 0))) = true → ((!(!(inB (xs.getD i.toNat 0) lo hi))) && (decide (i > 0))) = true) ∧ ((((!(!(inB (xs.getD i.toNat 0) lo hi))) && (decide (i > 0))) = true → (0 : Int) ≤ i)) ∧ ((((!(!(inB (xs.getD i.toNat 0) lo hi))) && (decide (i > 0))) = true → (i : Int) < xs.length)) ∧ (((!(!(inB (xs.getD i.toNat 0) lo hi))) && (decide (i > 0))) = true → ((!(!(inB (xs.getD i.toNat 0) lo hi))) && (decide (i > 0))) = true) ∧ ((((!(!(inB (xs.getD i.toNat 0) lo hi))) && (decide (i > 0))) = true → i.toNat < xs.length)) ∧ (((!(!(inB (xs.getD i.toNat 0) lo hi))) && (decide (i > 0))) = true → ((!(!(inB (xs.getD i.toNat 0) lo hi))) && (decide (i > 0))) = true) ∧ (((!(!(inB (xs.getD i.toNat 0) lo hi))) && (decide (i > 0))) = true → ((!(!(inB (xs.getD i.toNat 0) lo hi))) && (decide (i > 0))) = true) ∧ (((!(!(inB (xs.getD i.toNat 0) lo hi))) = true → (!(!(inB (xs.getD i.toNat 0) lo hi))) = true)) ∧ (((!(!(inB (xs.getD i.toNat 0) lo hi))) = true → (decide (i > 0)) = true → ((!(!(inB (xs.getD i.toNat 0) lo hi))) && (decide (i > 0))) = true)) ∧ (((!(!(inB (xs.getD i.toNat 0) lo hi))) = true → (decide (i > 0)) = false → true = true)) ∧ (true = true) ∧ (((!(inB (xs.getD i.toNat 0) lo hi)) = true → true = true)) ∧ (((!(inB (xs.getD i.toNat 0) lo hi)) = false → (!(!(inB (xs.getD i.toNat 0) lo hi))) = true)) ∧ (((cond (!(inB (xs.getD i.toNat 0) lo hi)) true (cond (decide (i > 0)) (decide ((xs.getD ((i - 1).toNat) 0) ≥ (xs.getD i.toNat 0))) false)) = true → ((false = (rising xs lo hi)))) ∧ ((cond (!(inB (xs.getD i.toNat 0) lo hi)) true (cond (decide (i > 0)) (decide ((xs.getD ((i - 1).toNat) 0) ≥ (xs.getD i.toNat 0))) false)) = false → (-9223372036854775808 ≤ (i + 1) ∧ (i + 1) ≤ 9223372036854775807) ∧ (∃ i' : Int, (s_l1Rising_JJ0 xs lo hi i') ∧ (s_l1Rising_mJ0 xs lo hi i' < s_l1Rising_mJ0 xs lo hi i) ∧ (xs = xs) ∧ (lo = lo) ∧ (hi = hi) ∧ ((i + 1) = i'))))) ∧ ((decide (i < (xs.length : Int))) = false → ((true = (rising xs lo hi)))))))
theorem s_l1Rising_vc (xs : List Int) (lo : Int) (hi : Int)  (w_xs : (xs.length : Int) ≤ 9223372036854775807) : s_l1Rising_P xs lo hi := by
  unfold s_l1Rising_P
  refine ⟨?_, ?_⟩
  · refine ⟨0, ?_⟩
    refine ⟨?_, rfl, rfl, rfl, rfl⟩
    · refine ⟨?_, ?_, ?_⟩
      · first | omega | rfl | (intro hg; simp only [nrmT] at hg; omega) | (intro g1 g2; simp [g1, g2]; done) | (intro g1; simp at g1 ⊢; simp [g1]; done) | (simp only [nrmT] at *; omega) | (simp at * <;> omega) | (simp_all <;> omega) | (simp_all; done)
      · first | omega | rfl | (intro hg; simp only [nrmT] at hg; omega) | (intro g1 g2; simp [g1, g2]; done) | (intro g1; simp at g1 ⊢; simp [g1]; done) | (simp only [nrmT] at *; omega) | (simp at * <;> omega) | (simp_all <;> omega) | (simp_all; done)
      · first | omega | rfl | (intro hg; simp only [nrmT] at hg; omega) | (intro g1 g2; simp [g1, g2]; done) | (intro g1; simp at g1 ⊢; simp [g1]; done) | (simp only [nrmT] at *; omega) | (simp at * <;> omega) | (simp_all <;> omega) | (simp_all; done)
  · intro i hJ
    obtain ⟨h1, h2, h3⟩ := hJ
    refine ⟨?_, ?_⟩
    · intro b1
      try simp only [nrmT] at b1
      refine ⟨rfl, ?_, ?_, ?_, s_l1In_pc (xs.getD i.toNat 0) lo hi, id, id, id, ?_, id, id, ?_, ?_, id, ?_, id, id, ?_, ?_, id, ?_, id, id, id, ?_, fun _ _ => rfl, rfl, fun _ => rfl, ?_, ?_, ?_⟩
      · first | omega | rfl | (intro hg; simp only [nrmT] at hg; omega) | (intro g1 g2; simp [g1, g2]; done) | (intro g1; simp at g1 ⊢; simp [g1]; done) | (simp only [nrmT] at *; omega) | (simp at * <;> omega) | (simp_all <;> omega) | (simp_all; done)
      · first | omega | rfl | (intro hg; simp only [nrmT] at hg; omega) | (intro g1 g2; simp [g1, g2]; done) | (intro g1; simp at g1 ⊢; simp [g1]; done) | (simp only [nrmT] at *; omega) | (simp at * <;> omega) | (simp_all <;> omega) | (simp_all; done)
      · first | omega | rfl | (intro hg; simp only [nrmT] at hg; omega) | (intro g1 g2; simp [g1, g2]; done) | (intro g1; simp at g1 ⊢; simp [g1]; done) | (simp only [nrmT] at *; omega) | (simp at * <;> omega) | (simp_all <;> omega) | (simp_all; done)
      · first | omega | rfl | (intro hg; simp only [nrmT] at hg; omega) | (intro g1 g2; simp [g1, g2]; done) | (intro g1; simp at g1 ⊢; simp [g1]; done) | (simp only [nrmT] at *; omega) | (simp at * <;> omega) | (simp_all <;> omega) | (simp_all; done)
      · first | omega | rfl | (intro hg; simp only [nrmT] at hg; omega) | (intro g1 g2; simp [g1, g2]; done) | (intro g1; simp at g1 ⊢; simp [g1]; done) | (simp only [nrmT] at *; omega) | (simp at * <;> omega) | (simp_all <;> omega) | (simp_all; done)
      · first | omega | rfl | (intro hg; simp only [nrmT] at hg; omega) | (intro g1 g2; simp [g1, g2]; done) | (intro g1; simp at g1 ⊢; simp [g1]; done) | (simp only [nrmT] at *; omega) | (simp at * <;> omega) | (simp_all <;> omega) | (simp_all; done)
      · first | omega | rfl | (intro hg; simp only [nrmT] at hg; omega) | (intro g1 g2; simp [g1, g2]; done) | (intro g1; simp at g1 ⊢; simp [g1]; done) | (simp only [nrmT] at *; omega) | (simp at * <;> omega) | (simp_all <;> omega) | (simp_all; done)
      · first | omega | rfl | (intro hg; simp only [nrmT] at hg; omega) | (intro g1 g2; simp [g1, g2]; done) | (intro g1; simp at g1 ⊢; simp [g1]; done) | (simp only [nrmT] at *; omega) | (simp at * <;> omega) | (simp_all <;> omega) | (simp_all; done)
      · first | omega | rfl | (intro hg; simp only [nrmT] at hg; omega) | (intro g1 g2; simp [g1, g2]; done) | (intro g1; simp at g1 ⊢; simp [g1]; done) | (simp only [nrmT] at *; omega) | (simp at * <;> omega) | (simp_all <;> omega) | (simp_all; done)
      · first | omega | rfl | (intro hg; simp only [nrmT] at hg; omega) | (intro g1 g2; simp [g1, g2]; done) | (intro g1; simp at g1 ⊢; simp [g1]; done) | (simp only [nrmT] at *; omega) | (simp at * <;> omega) | (simp_all <;> omega) | (simp_all; done)
      · first | omega | rfl | (intro hg; simp only [nrmT] at hg; omega) | (intro g1 g2; simp [g1, g2]; done) | (intro g1; simp at g1 ⊢; simp [g1]; done) | (simp only [nrmT] at *; omega) | (simp at * <;> omega) | (simp_all <;> omega) | (simp_all; done)
      · first | omega | rfl | (intro hg; simp only [nrmT] at hg; omega) | (intro g1 g2; simp [g1, g2]; done) | (intro g1; simp at g1 ⊢; simp [g1]; done) | (simp only [nrmT] at *; omega) | (simp at * <;> omega) | (simp_all <;> omega) | (simp_all; done)
      · intro b2
        have e := rising_step h1 b2
        exact (allTo_falseI h1 (by omega) e).symm
      · intro b3
        refine ⟨?_, ?_⟩
        · first | omega | rfl | (intro hg; simp only [nrmT] at hg; omega) | (intro g1 g2; simp [g1, g2]; done) | (intro g1; simp at g1 ⊢; simp [g1]; done) | (simp only [nrmT] at *; omega) | (simp at * <;> omega) | (simp_all <;> omega) | (simp_all; done)
        · refine ⟨(i + 1), ?_⟩
          refine ⟨?_, ?_, rfl, rfl, rfl, rfl⟩
          · refine ⟨?_, ?_, ?_⟩
            · first | omega | rfl | (intro hg; simp only [nrmT] at hg; omega) | (intro g1 g2; simp [g1, g2]; done) | (intro g1; simp at g1 ⊢; simp [g1]; done) | (simp only [nrmT] at *; omega) | (simp at * <;> omega) | (simp_all <;> omega) | (simp_all; done)
            · first | omega | rfl | (intro hg; simp only [nrmT] at hg; omega) | (intro g1 g2; simp [g1, g2]; done) | (intro g1; simp at g1 ⊢; simp [g1]; done) | (simp only [nrmT] at *; omega) | (simp at * <;> omega) | (simp_all <;> omega) | (simp_all; done)
            · have e := rising_step h1 b3
              exact allTo_step h1 h3 e
          · first | (show _ < _; omega) | (simp only [s_l1Rising_mJ0]; omega) | (simp only [s_l1Rising_mJ0] at *; simp at *; omega)
    · intro b4
      try simp only [nrmT] at b4
      have e : i.toNat = xs.length := by omega
      rw [e] at h3
      exact h3.symm
theorem s_l1Rising_pc (xs : List Int) (lo : Int) (hi : Int)  : PC Try.prog 200 [.sl (.ints xs), .int .i64 lo, .int .i64 hi] (.one (.d (.bool (rising xs lo hi)))) :=
  pc_wf @Try.call200 fun hw => pc_by (by kernel_rfl) Try.func200 @Try.call200 (by kernel_rfl) s_l1Rising_C (s_l1Rising_A xs lo hi) (by kernel_rfl) (s_l1Rising_vc xs lo hi hw.1) (by kernel_rfl)
def s_l1Rising_orc : List D → Orc := orcN [some .ints, none, none] fun ds => match ds with
  | [.sl (.ints xs), .int .i64 lo, .int .i64 hi] => some (.one (.d (.bool (rising xs lo hi))))
  | _ => none
abbrev i_isRising_JJ0 (xs : List Int) (below : Int) (i : Int) : Prop := (0 ≤ i) ∧ (i ≤ (xs.length : Int)) ∧ (allTo (risingP xs 0 (below - 1)) i.toNat = true)
abbrev i_isRising_mJ0 (xs : List Int) (below : Int) (i : Int) : Nat := (xs.length - i).toNat
def i_isRising_C (f : FuncId) (ds : List D) : Orc := bif Nat.beq f 107 then i_between_orc ds else .no
def i_isRising_A (xs : List Int) (below : Int) : Ann := .two (.none) (.two (.two (.none) (.loop (cut1 (fun (i : Int) => i_isRising_JJ0 xs below i) (fun (i : Int) => [(0, .d false (.sl (.ints xs))), (1, .d false (.int .i64 below)), (7, .d false (.sl (.ints xs))), (8, .d true (.int .i64 (xs.length : Int))), (9, .d true (.int .i64 i))]) (fun (i : Int) => [])) (fun g => i_isRising_mJ0 xs below g) (fun _ => .none))) (.none))
def i_isRising_P (xs : List Int) (below : Int) : Prop :=
  ((∃ i' : Int, (i_isRising_JJ0 xs below i') ∧ (xs = xs) ∧ (below = below) ∧ (xs = xs) ∧ ((xs.length : Int) = (xs.length : Int)) ∧ ((0 : Int) = i')) ∧ (∀ i : Int, (i_isRising_JJ0 xs below i) → (((decide (i < (xs.length : Int))) = true → ((0 : Int) ≤ i) ∧ ((i : Int) < xs.length) ∧ (i.toNat < xs.length) ∧ (-9223372036854775808 ≤ (below - 1) ∧ (below - 1) ≤ 9223372036854775807) ∧ (PC Try.prog 107 [.int .i64 (xs.getD i.toNat 0), .int .i64 0, .int .i64 (below - 1)] (.one (.d (.bool (inB (xs.getD i.toNat 0) 0 (below - 1)))))) ∧ ((!(!(inB (xs.getD i.toNat 0) 0 (below - 1)))) = true → (!(!(inB (xs.getD i.toNat 0) 0 (below - 1)))) = true) ∧ ((!(!(inB (xs.getD i.toNat 0) 0 (below - 1)))) = true → (!(!(inB (xs.getD i.toNat 0) 0 (below - 1)))) = true) ∧ (((!(!(inB (xs.getD i.toNat 0) 0 (below - 1)))) && (decide (i > 0))) = true → ((!(!(inB (xs.getD i.toNat 0) 0 (below - 1)))) && (decide (i > 0))) = true) ∧ ((((!(!(inB (xs.getD i.toNat 0) 0 (below - 1)))) && (decide (i > 0))) = true → -9223372036854775808 ≤ (i - 1) ∧ (i - 1) ≤ 9223372036854775807)) ∧ (((!(!(inB (xs.getD i.toNat 0) 0 (below - 1)))) && (decide (i > 0))) = true → ((!(!(inB (xs.getD i.toNat 0) 0 (below - 1)))) && (decide (i > 0))) = true) ∧ (((!(!(inB (xs.getD i.toNat 0) 0 (below - 1)))) && (decide (i > 0))) = true → ((!(!(inB (xs.getD i.toNat 0) 0 (below - 1)))) && (decide (i > 0))) = true) ∧ ((((!(!(inB (xs.getD i.toNat 0) 0 (below - 1)))) && (decide (i > 0))) = true → (0 : Int) ≤ (i - 1))) ∧ ((((!(!(inB (xs.getD i.toNat 0) 0 (below - 1)))) && (decide (i > 0))) = true → ((i - 1) : Int) < xs.length)) ∧ (((!(!(inB (xs.getD i.toNat 0) 0 (below - 1)))) && (decide (i > 0))) = true → ((!(!(inB (xs.getD i.toNat 0) 0 (below - 1)))) && (decide (i > 0))) = true) ∧ ((((!(!(inB (xs.getD i.toNat 0) 0 (below - 1)))) && (decide (i > 0))) = true → (i - 1).toNat < xs.length)) ∧ (((!(!(inB (xs.getD i.toNat 0) 0 (below - 1)))) && (decide (i > 0))) = true → ((!(!(inB (xs.getD i.toNat 0) 0 (below - 1)))) && (decide (i > 0))) = true) ∧ (((!(!(inB (xs.getD i.toNat 0) 0 (below - 1)))) && (decide (i > 0))) = true → ((!(!(inB (xs.getD i.toNat 0) 0 (below - 1)))) && (decide (i > 0))) = true) ∧ (((!(!(inB (xs.getD i.toNat 0) 0 (below - 1)))) = true → (!(!(inB (xs.getD i.toNat 0) 0 (below - 1)))) = true)) ∧ (((!(!(inB (xs.getD i.toNat 0) 0 (below - 1)))) = true → (decide (i > 0)) = true → ((!(!(inB (xs.getD i.toNat 0) 0 (below - 1)))) && (decide (i > 0))) = true)) ∧ (((!(!(inB (xs.getD i.toNat 0) 0 (below - 1)))) = true → (decide (i > 0)) = false → true = true)) ∧ (true = true) ∧ (((!(inB (xs.getD i.toNat 0) 0 (below - 1))) = true → true = true)) ∧ (((!(inB (xs.getD i.toNat 0) 0 (below - 1))) = false → (!(!(inB (xs.getD i.toNat 0) 0 (below - 1)))) = true)) ∧ (((cond (!(inB (xs.getD i.toNat 0) 0 (below - 1))) true (cond (decide (i > 0)) (decide ((xs.getD i.toNat 0) ≤ (xs.getD ((i - 1).toNat) 0))) false)) = true → ((false = (rising xs 0 (below - 1))))) ∧ ((cond (!(inB (xs.getD i.toNat 0) 0 (below - 1))) true (cond (decide (i > 0)) (decide ((xs.getD i.toNat 0) ≤ (xs.getD ((i - 1).toNat) 0))) false)) = false → (-9223372036854775808 ≤ (i + 1) ∧ (i + 1) ≤ 9223372036854775807) ∧ (∃ i' : Int, (i_isRising_JJ0 xs below i') ∧ (i_isRising_mJ0 xs below i' < i_isRising_mJ0 xs below i) ∧ (xs = xs) ∧ (below = below) ∧ (xs = xs) ∧ ((xs.length : Int) = (xs.length : Int)) ∧ ((i + 1) = i'))))) ∧ ((decide (i < (xs.length : Int))) = false → ((true = (rising xs 0 (below - 1))))))))
theorem i_isRising_vc (xs : List Int) (below : Int) (hb : -9223372036854775808 < below ∧ below ≤ 9223372036854775807) (w_xs : (xs.length : Int) ≤ 9223372036854775807) : i_isRising_P xs below := by
  unfold i_isRising_P
  refine ⟨?_, ?_⟩
  · refine ⟨0, ?_⟩
    refine ⟨?_, rfl, rfl, rfl, rfl, rfl⟩
    · refine ⟨?_, ?_, ?_⟩
      · first | omega | rfl | (intro hg; simp only [nrmT] at hg; omega) | (intro g1 g2; simp [g1, g2]; done) | (intro g1; simp at g1 ⊢; simp [g1]; done) | (simp only [nrmT] at *; omega) | (simp at * <;> omega) | (simp_all <;> omega) | (simp_all; done)
      · first | omega | rfl | (intro hg; simp only [nrmT] at hg; omega) | (intro g1 g2; simp [g1, g2]; done) | (intro g1; simp at g1 ⊢; simp [g1]; done) | (simp only [nrmT] at *; omega) | (simp at * <;> omega) | (simp_all <;> omega) | (simp_all; done)
      · first | omega | rfl | (intro hg; simp only [nrmT] at hg; omega) | (intro g1 g2; simp [g1, g2]; done) | (intro g1; simp at g1 ⊢; simp [g1]; done) | (simp only [nrmT] at *; omega) | (simp at * <;> omega) | (simp_all <;> omega) | (simp_all; done)
  · intro i hJ
    obtain ⟨h1, h2, h3⟩ := hJ
    refine ⟨?_, ?_⟩
    · intro b1
      try simp only [nrmT] at b1
      refine ⟨?_, ?_, ?_, ?_, i_between_pc (xs.getD i.toNat 0) 0 (below - 1), id, id, id, ?_, id, id, ?_, ?_, id, ?_, id, id, id, ?_, fun _ _ => rfl, rfl, fun _ => rfl, ?_, ?_, ?_⟩
      · first | omega | rfl | (intro hg; simp only [nrmT] at hg; omega) | (intro g1 g2; simp [g1, g2]; done) | (intro g1; simp at g1 ⊢; simp [g1]; done) | (simp only [nrmT] at *; omega) | (simp at * <;> omega) | (simp_all <;> omega) | (simp_all; done)
      · first | omega | rfl | (intro hg; simp only [nrmT] at hg; omega) | (intro g1 g2; simp [g1, g2]; done) | (intro g1; simp at g1 ⊢; simp [g1]; done) | (simp only [nrmT] at *; omega) | (simp at * <;> omega) | (simp_all <;> omega) | (simp_all; done)
      · first | omega | rfl | (intro hg; simp only [nrmT] at hg; omega) | (intro g1 g2; simp [g1, g2]; done) | (intro g1; simp at g1 ⊢; simp [g1]; done) | (simp only [nrmT] at *; omega) | (simp at * <;> omega) | (simp_all <;> omega) | (simp_all; done)
      · first | omega | rfl | (intro hg; simp only [nrmT] at hg; omega) | (intro g1 g2; simp [g1, g2]; done) | (intro g1; simp at g1 ⊢; simp [g1]; done) | (simp only [nrmT] at *; omega) | (simp at * <;> omega) | (simp_all <;> omega) | (simp_all; done)
      · first | omega | rfl | (intro hg; simp only [nrmT] at hg; omega) | (intro g1 g2; simp [g1, g2]; done) | (intro g1; simp at g1 ⊢; simp [g1]; done) | (simp only [nrmT] at *; omega) | (simp at * <;> omega) | (simp_all <;> omega) | (simp_all; done)
      · first | omega | rfl | (intro hg; simp only [nrmT] at hg; omega) | (intro g1 g2; simp [g1, g2]; done) | (intro g1; simp at g1 ⊢; simp [g1]; done) | (simp only [nrmT] at *; omega) | (simp at * <;> omega) | (simp_all <;> omega) | (simp_all; done)
      · first | omega | rfl | (intro hg; simp only [nrmT] at hg; omega) | (intro g1 g2; simp [g1, g2]; done) | (intro g1; simp at g1 ⊢; simp [g1]; done) | (simp only [nrmT] at *; omega) | (simp at * <;> omega) | (simp_all <;> omega) | (simp_all; done)
      · first | omega | rfl | (intro hg; simp only [nrmT] at hg; omega) | (intro g1 g2; simp [g1, g2]; done) | (intro g1; simp at g1 ⊢; simp [g1]; done) | (simp only [nrmT] at *; omega) | (simp at * <;> omega) | (simp_all <;> omega) | (simp_all; done)
      · first | omega | rfl | (intro hg; simp only [nrmT] at hg; omega) | (intro g1 g2; simp [g1, g2]; done) | (intro g1; simp at g1 ⊢; simp [g1]; done) | (simp only [nrmT] at *; omega) | (simp at * <;> omega) | (simp_all <;> omega) | (simp_all; done)
      · first | omega | rfl | (intro hg; simp only [nrmT] at hg; omega) | (intro g1 g2; simp [g1, g2]; done) | (intro g1; simp at g1 ⊢; simp [g1]; done) | (simp only [nrmT] at *; omega) | (simp at * <;> omega) | (simp_all <;> omega) | (simp_all; done)
      · intro b2
        have e := rising_step h1 b2
        exact (allTo_falseI h1 (by omega) e).symm
      · intro b3
        refine ⟨?_, ?_⟩
        · first | omega | rfl | (intro hg; simp only [nrmT] at hg; omega) | (intro g1 g2; simp [g1, g2]; done) | (intro g1; simp at g1 ⊢; simp [g1]; done) | (simp only [nrmT] at *; omega) | (simp at * <;> omega) | (simp_all <;> omega) | (simp_all; done)
        · refine ⟨(i + 1), ?_⟩
          refine ⟨?_, ?_, rfl, rfl, rfl, rfl, rfl⟩
          · refine ⟨?_, ?_, ?_⟩
            · first | omega | rfl | (intro hg; simp only [nrmT] at hg; omega) | (intro g1 g2; simp [g1, g2]; done) | (intro g1; simp at g1 ⊢; simp [g1]; done) | (simp only [nrmT] at *; omega) | (simp at * <;> omega) | (simp_all <;> omega) | (simp_all; done)
            · first | omega | rfl | (intro hg; simp only [nrmT] at hg; omega) | (intro g1 g2; simp [g1, g2]; done) | (intro g1; simp at g1 ⊢; simp [g1]; done) | (simp only [nrmT] at *; omega) | (simp at * <;> omega) | (simp_all <;> omega) | (simp_all; done)
            · have e := rising_step h1 b3
              exact allTo_step h1 h3 e
          · first | (show _ < _; omega) | (simp only [i_isRising_mJ0]; omega) | (simp only [i_isRising_mJ0] at *; simp at *; omega)
    · intro b4
      try simp only [nrmT] at b4
      have e : i.toNat = xs.length := by omega
      rw [e] at h3
      exact h3.symm
theorem i_isRising_pc (xs : List Int) (below : Int) (hb : -9223372036854775808 < below ∧ below ≤ 9223372036854775807) : PC Try.prog 161 [.sl (.ints xs), .int .i64 below] (.one (.d (.bool (rising xs 0 (below - 1))))) :=
  pc_wf @Try.call161 fun hw => pc_by (by kernel_rfl) Try.func161 @Try.call161 (by kernel_rfl) i_isRising_C (i_isRising_A xs below) (by kernel_rfl) (i_isRising_vc xs below hb hw.1) (by kernel_rfl)
def i_isRising_orc : List D → Orc := orcN [some .ints, none] fun ds => match ds with
  | [.sl (.ints xs), .int .i64 below] => some (.one (.d (.bool (rising xs 0 (below - 1)))))
  | _ => none
theorem len_beq (m n : Nat) : ((m : Int) == (n : Int)) = decide (m = n) := by
  rw [Bool.eq_iff_iff]; simp only [beq_iff_eq, decide_eq_true_eq]; omega
theorem len_le (m n : Nat) : decide ((m : Int) ≤ (n : Int)) = decide (m ≤ n) := by
  rw [Bool.eq_iff_iff]; simp only [decide_eq_true_eq]; omega
theorem all_end {α : Type} {p : α → Bool} {d : α} {xs : List α} {i : Int} (h2 : (xs.length : Int) ≤ i) (h2' : i ≤ (xs.length : Int)) (h3 : allTo (fun k => p (xs.getD k d)) i.toNat = true) : xs.all p = true := by
  have e : i.toNat = xs.length := by omega
  rw [e, allTo_list] at h3; exact h3
theorem all_no {α : Type} {p : α → Bool} {d : α} {xs : List α} {i : Int} (h0 : 0 ≤ i) (h : i < (xs.length : Int)) (h3 : p (xs.getD i.toNat d) = false) : xs.all p = false := by
  rw [← allTo_list (d := d)]; exact allTo_falseI h0 h h3
abbrev s_l6Sets_JJ0 (size : Int) (xss : List (List Int)) (i : Int) : Prop := (0 ≤ i) ∧ (i ≤ (xss.length : Int)) ∧ (allTo (fun k => rising (xss.getD k []) 0 (size - 1)) i.toNat = true)
abbrev s_l6Sets_mJ0 (size : Int) (xss : List (List Int)) (i : Int) : Nat := (xss.length - i).toNat
def s_l6Sets_C (f : FuncId) (ds : List D) : Orc := bif Nat.beq f 200 then s_l1Rising_orc ds else .no
def s_l6Sets_A (size : Int) (xss : List (List Int)) : Ann := .two (.none) (.two (.two (.none) (.loop (cut1 (fun (i : Int) => s_l6Sets_JJ0 size xss i) (fun (i : Int) => [(0, .d false (.int .i64 size)), (1, .d false (.sl (.rows xss))), (5, .d true (.int .i64 i))]) (fun (i : Int) => [])) (fun g => s_l6Sets_mJ0 size xss g) (fun _ => .none))) (.none))
def s_l6Sets_P (size : Int) (xss : List (List Int)) : Prop :=
  ((∃ i' : Int, (s_l6Sets_JJ0 size xss i') ∧ (size = size) ∧ (xss = xss) ∧ ((0 : Int) = i')) ∧ (∀ i : Int, (s_l6Sets_JJ0 size xss i) → (((decide (i < (xss.length : Int))) = true → ((0 : Int) ≤ i) ∧ ((i : Int) < xss.length) ∧ (i.toNat < xss.length) ∧ (-9223372036854775808 ≤ (size - 1) ∧ (size - 1) ≤ 9223372036854775807) ∧ (PC Try.prog 200 [.sl (.ints (xss.getD i.toNat [])), .int .i64 0, .int .i64 (size - 1)] (.one (.d (.bool (rising (xss.getD i.toNat []) 0 (size - 1)))))) ∧ (((!(rising (xss.getD i.toNat []) 0 (size - 1))) = true → ((false = (xss.all (fun xs => rising xs 0 (size - 1)) && decide (xss.length ≤ 8))))) ∧ ((!(rising (xss.getD i.toNat []) 0 (size - 1))) = false → (-9223372036854775808 ≤ (i + 1) ∧ (i + 1) ≤ 9223372036854775807) ∧ (∃ i' : Int, (s_l6Sets_JJ0 size xss i') ∧ (s_l6Sets_mJ0 size xss i' < s_l6Sets_mJ0 size xss i) ∧ (size = size) ∧ (xss = xss) ∧ ((i + 1) = i'))))) ∧ ((decide (i < (xss.length : Int))) = false → (((decide ((xss.length : Int) ≤ 8)) = (xss.all (fun xs => rising xs 0 (size - 1)) && decide (xss.length ≤ 8))))))))
theorem s_l6Sets_vc (size : Int) (xss : List (List Int)) (hb : 0 ≤ size ∧ size ≤ 8) (w_xss : (xss.length : Int) ≤ 9223372036854775807) (v_xss : ∀ x9 ∈ xss, (x9.length : Int) ≤ 9223372036854775807) : s_l6Sets_P size xss := by
  unfold s_l6Sets_P
  refine ⟨?_, ?_⟩
  · refine ⟨0, ?_⟩
    refine ⟨?_, rfl, rfl, rfl⟩
    · refine ⟨?_, ?_, ?_⟩
      · first | omega | rfl | (intro hg; simp only [nrmT] at hg; omega) | (intro g1 g2; simp [g1, g2]; done) | (intro g1; simp at g1 ⊢; simp [g1]; done) | (simp only [nrmT] at *; omega) | (simp at * <;> omega) | (simp_all <;> omega) | (simp_all; done)
      · first | omega | rfl | (intro hg; simp only [nrmT] at hg; omega) | (intro g1 g2; simp [g1, g2]; done) | (intro g1; simp at g1 ⊢; simp [g1]; done) | (simp only [nrmT] at *; omega) | (simp at * <;> omega) | (simp_all <;> omega) | (simp_all; done)
      · first | omega | rfl | (intro hg; simp only [nrmT] at hg; omega) | (intro g1 g2; simp [g1, g2]; done) | (intro g1; simp at g1 ⊢; simp [g1]; done) | (simp only [nrmT] at *; omega) | (simp at * <;> omega) | (simp_all <;> omega) | (simp_all; done)
  · intro i hJ
    obtain ⟨h1, h2, h3⟩ := hJ
    refine ⟨?_, ?_⟩
    · intro b1
      try simp only [nrmT] at b1
      refine ⟨?_, ?_, ?_, ?_, s_l1Rising_pc (xss.getD i.toNat []) 0 (size - 1), ?_, ?_⟩
      · first | omega | rfl | (intro hg; simp only [nrmT] at hg; omega) | (intro g1 g2; simp [g1, g2]; done) | (intro g1; simp at g1 ⊢; simp [g1]; done) | (simp only [nrmT] at *; omega) | (simp at * <;> omega) | (simp_all <;> omega) | (simp_all; done)
      · first | omega | rfl | (intro hg; simp only [nrmT] at hg; omega) | (intro g1 g2; simp [g1, g2]; done) | (intro g1; simp at g1 ⊢; simp [g1]; done) | (simp only [nrmT] at *; omega) | (simp at * <;> omega) | (simp_all <;> omega) | (simp_all; done)
      · first | omega | rfl | (intro hg; simp only [nrmT] at hg; omega) | (intro g1 g2; simp [g1, g2]; done) | (intro g1; simp at g1 ⊢; simp [g1]; done) | (simp only [nrmT] at *; omega) | (simp at * <;> omega) | (simp_all <;> omega) | (simp_all; done)
      · first | omega | rfl | (intro hg; simp only [nrmT] at hg; omega) | (intro g1 g2; simp [g1, g2]; done) | (intro g1; simp at g1 ⊢; simp [g1]; done) | (simp only [nrmT] at *; omega) | (simp at * <;> omega) | (simp_all <;> omega) | (simp_all; done)
      · intro b2
        try simp only [nrmT] at b2
        rw [all_no (d := []) h1 (by omega) b2]; rfl
      · intro b3
        try simp only [nrmT] at b3
        refine ⟨?_, ?_⟩
        · first | omega | rfl | (intro hg; simp only [nrmT] at hg; omega) | (intro g1 g2; simp [g1, g2]; done) | (intro g1; simp at g1 ⊢; simp [g1]; done) | (simp only [nrmT] at *; omega) | (simp at * <;> omega) | (simp_all <;> omega) | (simp_all; done)
        · refine ⟨(i + 1), ?_⟩
          refine ⟨?_, ?_, rfl, rfl, rfl⟩
          · refine ⟨?_, ?_, ?_⟩
            · first | omega | rfl | (intro hg; simp only [nrmT] at hg; omega) | (intro g1 g2; simp [g1, g2]; done) | (intro g1; simp at g1 ⊢; simp [g1]; done) | (simp only [nrmT] at *; omega) | (simp at * <;> omega) | (simp_all <;> omega) | (simp_all; done)
            · first | omega | rfl | (intro hg; simp only [nrmT] at hg; omega) | (intro g1 g2; simp [g1, g2]; done) | (intro g1; simp at g1 ⊢; simp [g1]; done) | (simp only [nrmT] at *; omega) | (simp at * <;> omega) | (simp_all <;> omega) | (simp_all; done)
            · exact allTo_step h1 h3 b3
          · first | (show _ < _; omega) | (simp only [s_l6Sets_mJ0]; omega) | (simp only [s_l6Sets_mJ0] at *; simp at *; omega)
    · intro b4
      try simp only [nrmT] at b4
      rw [all_end (p := fun xs => rising xs 0 (size - 1)) (d := []) (by omega) h2 h3, Bool.true_and]; exact len_le _ 8
theorem s_l6Sets_pc (size : Int) (xss : List (List Int)) (hb : 0 ≤ size ∧ size ≤ 8) : PC Try.prog 175 [.int .i64 size, .sl (.rows xss)] (.one (.d (.bool (xss.all (fun xs => rising xs 0 (size - 1)) && decide (xss.length ≤ 8))))) :=
  pc_wf @Try.call175 fun hw => pc_by (by kernel_rfl) Try.func175 @Try.call175 (by kernel_rfl) s_l6Sets_C (s_l6Sets_A size xss) (by kernel_rfl) (s_l6Sets_vc size xss hb hw.2.1.1 hw.2.1.2) (by kernel_rfl)
def s_l6Sets_orc : List D → Orc := orcN [none, some .rows] fun ds => match ds with
  | [.int .i64 size, .sl (.rows xss)] => some (.one (.d (.bool (xss.all (fun xs => rising xs 0 (size - 1)) && decide (xss.length ≤ 8)))))
  | _ => none
def goodSys (size : Int) (sets : List (List Int)) (costs : List Int) : Bool :=
  inB size 0 8 && decide (sets.length ≤ 8) && decide (costs.length = sets.length) && costs.all (fun x => inB x 1 99) && sets.all (fun xs => rising xs 0 (size - 1))
theorem inB_le {x lo hi : Int} (h : inB x lo hi = true) : lo ≤ x ∧ x ≤ hi := of_decide_eq_true h
abbrev s_l6Good_JJ0 (Size : Int) (Sets : List (List Int)) (Costs : List Int) (i : Int) : Prop := (0 ≤ i) ∧ (i ≤ (Costs.length : Int)) ∧ (allTo (fun k => inB (Costs.getD k 0) 1 99) i.toNat = true)
abbrev s_l6Good_mJ0 (Size : Int) (Sets : List (List Int)) (Costs : List Int) (i : Int) : Nat := (Costs.length - i).toNat
def s_l6Good_C (f : FuncId) (ds : List D) : Orc := bif Nat.beq f 104 then s_l1In_orc ds else bif Nat.beq f 175 then s_l6Sets_orc ds else .no
def s_l6Good_A (Size : Int) (Sets : List (List Int)) (Costs : List Int) : Ann := .two (.none) (.two (.two (.none) (.loop (cut1 (fun (i : Int) => s_l6Good_JJ0 Size Sets Costs i) (fun (i : Int) => [(1, .ptr 1 0), (3, .d true (.int .i64 i))]) (fun (i : Int) => [(1, .box 50 [.d false (.int .i64 Size), .d false (.sl (.rows Sets)), .d false (.sl (.ints Costs))])])) (fun g => s_l6Good_mJ0 Size Sets Costs g) (fun _ => .none))) (.none))
def s_l6Good_P (Size : Int) (Sets : List (List Int)) (Costs : List Int) : Prop :=
  ((∃ i' : Int, (s_l6Good_JJ0 Size Sets Costs i') ∧ ((0 : Int) = i') ∧ (Size = Size) ∧ (Sets = Sets) ∧ (Costs = Costs)) ∧ (∀ i : Int, (s_l6Good_JJ0 Size Sets Costs i) → (((decide (i < (Costs.length : Int))) = true → ((0 : Int) ≤ i) ∧ ((i : Int) < Costs.length) ∧ (i.toNat < Costs.length) ∧ (PC Try.prog 104 [.int .i64 (Costs.getD i.toNat 0), .int .i64 1, .int .i64 99] (.one (.d (.bool (inB (Costs.getD i.toNat 0) 1 99))))) ∧ (((!(inB (Costs.getD i.toNat 0) 1 99)) = true → ((false = (goodSys Size Sets Costs)))) ∧ ((!(inB (Costs.getD i.toNat 0) 1 99)) = false → (-9223372036854775808 ≤ (i + 1) ∧ (i + 1) ≤ 9223372036854775807) ∧ (∃ i' : Int, (s_l6Good_JJ0 Size Sets Costs i') ∧ (s_l6Good_mJ0 Size Sets Costs i' < s_l6Good_mJ0 Size Sets Costs i) ∧ ((i + 1) = i') ∧ (Size = Size) ∧ (Sets = Sets) ∧ (Costs = Costs))))) ∧ ((decide (i < (Costs.length : Int))) = false → (PC Try.prog 104 [.int .i64 Size, .int .i64 0, .int .i64 8] (.one (.d (.bool (inB Size 0 8))))) ∧ ((inB Size 0 8) = true → (inB Size 0 8) = true) ∧ ((inB Size 0 8) = true → (inB Size 0 8) = true) ∧ ((inB Size 0 8) = true → (inB Size 0 8) = true) ∧ ((inB Size 0 8) = true → (inB Size 0 8) = true) ∧ ((inB Size 0 8) = true → PC Try.prog 175 [.int .i64 Size, .sl (.rows Sets)] (.one (.d (.bool (Sets.all (fun xs => rising xs 0 (Size - 1)) && decide (Sets.length ≤ 8)))))) ∧ (true = true) ∧ (((inB Size 0 8) = true → (inB Size 0 8) = true)) ∧ (((inB Size 0 8) = false → true = true)) ∧ ((cond (inB Size 0 8) (Sets.all (fun xs => rising xs 0 (Size - 1)) && decide (Sets.length ≤ 8)) false) = true → (cond (inB Size 0 8) (Sets.all (fun xs => rising xs 0 (Size - 1)) && decide (Sets.length ≤ 8)) false) = true) ∧ ((cond (inB Size 0 8) (Sets.all (fun xs => rising xs 0 (Size - 1)) && decide (Sets.length ≤ 8)) false) = true → (cond (inB Size 0 8) (Sets.all (fun xs => rising xs 0 (Size - 1)) && decide (Sets.length ≤ 8)) false) = true) ∧ ((cond (inB Size 0 8) (Sets.all (fun xs => rising xs 0 (Size - 1)) && decide (Sets.length ≤ 8)) false) = true → (cond (inB Size 0 8) (Sets.all (fun xs => rising xs 0 (Size - 1)) && decide (Sets.length ≤ 8)) false) = true) ∧ ((cond (inB Size 0 8) (Sets.all (fun xs => rising xs 0 (Size - 1)) && decide (Sets.length ≤ 8)) false) = true → (cond (inB Size 0 8) (Sets.all (fun xs => rising xs 0 (Size - 1)) && decide (Sets.length ≤ 8)) false) = true) ∧ ((cond (inB Size 0 8) (Sets.all (fun xs => rising xs 0 (Size - 1)) && decide (Sets.length ≤ 8)) false) = true → (cond (inB Size 0 8) (Sets.all (fun xs => rising xs 0 (Size - 1)) && decide (Sets.length ≤ 8)) false) = true) ∧ ((cond (inB Size 0 8) (Sets.all (fun xs => rising xs 0 (Size - 1)) && decide (Sets.length ≤ 8)) false) = true → (cond (inB Size 0 8) (Sets.all (fun xs => rising xs 0 (Size - 1)) && decide (Sets.length ≤ 8)) false) = true) ∧ (true = true) ∧ (((cond (inB Size 0 8) (Sets.all (fun xs => rising xs 0 (Size - 1)) && decide (Sets.length ≤ 8)) false) = true → (cond (inB Size 0 8) (Sets.all (fun xs => rising xs 0 (Size - 1)) && decide (Sets.length ≤ 8)) false) = true)) ∧ (((cond (inB Size 0 8) (Sets.all (fun xs => rising xs 0 (Size - 1)) && decide (Sets.length ≤ 8)) false) = false → true = true)) ∧ (((cond (cond (inB Size 0 8) (Sets.all (fun xs => rising xs 0 (Size - 1)) && decide (Sets.length ≤ 8)) false) ((Costs.length : Int) == (Sets.length : Int)) false) = (goodSys Size Sets Costs)))))))
theorem s_l6Good_vc (Size : Int) (Sets : List (List Int)) (Costs : List Int)  (w_Sets : (Sets.length : Int) ≤ 9223372036854775807) (v_Sets : ∀ x9 ∈ Sets, (x9.length : Int) ≤ 9223372036854775807) (w_Costs : (Costs.length : Int) ≤ 9223372036854775807) : s_l6Good_P Size Sets Costs := by
  unfold s_l6Good_P
  refine ⟨?_, ?_⟩
  · refine ⟨0, ?_⟩
    refine ⟨?_, rfl, rfl, rfl, rfl⟩
    · refine ⟨?_, ?_, ?_⟩
      · first | omega | rfl | (intro hg; simp only [nrmT] at hg; omega) | (intro g1 g2; simp [g1, g2]; done) | (intro g1; simp at g1 ⊢; simp [g1]; done) | (simp only [nrmT] at *; omega) | (simp at * <;> omega) | (simp_all <;> omega) | (simp_all; done)
      · first | omega | rfl | (intro hg; simp only [nrmT] at hg; omega) | (intro g1 g2; simp [g1, g2]; done) | (intro g1; simp at g1 ⊢; simp [g1]; done) | (simp only [nrmT] at *; omega) | (simp at * <;> omega) | (simp_all <;> omega) | (simp_all; done)
      · first | omega | rfl | (intro hg; simp only [nrmT] at hg; omega) | (intro g1 g2; simp [g1, g2]; done) | (intro g1; simp at g1 ⊢; simp [g1]; done) | (simp only [nrmT] at *; omega) | (simp at * <;> omega) | (simp_all <;> omega) | (simp_all; done)
  · intro i hJ
    obtain ⟨h1, h2, h3⟩ := hJ
    refine ⟨?_, ?_⟩
    · intro b1
      try simp only [nrmT] at b1
      refine ⟨?_, ?_, ?_, s_l1In_pc (Costs.getD i.toNat 0) 1 99, ?_, ?_⟩
      · first | omega | rfl | (intro hg; simp only [nrmT] at hg; omega) | (intro g1 g2; simp [g1, g2]; done) | (intro g1; simp at g1 ⊢; simp [g1]; done) | (simp only [nrmT] at *; omega) | (simp at * <;> omega) | (simp_all <;> omega) | (simp_all; done)
      · first | omega | rfl | (intro hg; simp only [nrmT] at hg; omega) | (intro g1 g2; simp [g1, g2]; done) | (intro g1; simp at g1 ⊢; simp [g1]; done) | (simp only [nrmT] at *; omega) | (simp at * <;> omega) | (simp_all <;> omega) | (simp_all; done)
      · first | omega | rfl | (intro hg; simp only [nrmT] at hg; omega) | (intro g1 g2; simp [g1, g2]; done) | (intro g1; simp at g1 ⊢; simp [g1]; done) | (simp only [nrmT] at *; omega) | (simp at * <;> omega) | (simp_all <;> omega) | (simp_all; done)
      · intro b2
        try simp only [nrmT] at b2
        unfold goodSys
        rw [all_no (p := fun x => inB x 1 99) (d := 0) h1 (by omega) b2]
        simp
      · intro b3
        try simp only [nrmT] at b3
        refine ⟨?_, ?_⟩
        · first | omega | rfl | (intro hg; simp only [nrmT] at hg; omega) | (intro g1 g2; simp [g1, g2]; done) | (intro g1; simp at g1 ⊢; simp [g1]; done) | (simp only [nrmT] at *; omega) | (simp at * <;> omega) | (simp_all <;> omega) | (simp_all; done)
        · refine ⟨(i + 1), ?_⟩
          refine ⟨?_, ?_, rfl, rfl, rfl, rfl⟩
          · refine ⟨?_, ?_, ?_⟩
            · first | omega | rfl | (intro hg; simp only [nrmT] at hg; omega) | (intro g1 g2; simp [g1, g2]; done) | (intro g1; simp at g1 ⊢; simp [g1]; done) | (simp only [nrmT] at *; omega) | (simp at * <;> omega) | (simp_all <;> omega) | (simp_all; done)
            · first | omega | rfl | (intro hg; simp only [nrmT] at hg; omega) | (intro g1 g2; simp [g1, g2]; done) | (intro g1; simp at g1 ⊢; simp [g1]; done) | (simp only [nrmT] at *; omega) | (simp at * <;> omega) | (simp_all <;> omega) | (simp_all; done)
            · exact allTo_step h1 h3 b3
          · first | (show _ < _; omega) | (simp only [s_l6Good_mJ0]; omega) | (simp only [s_l6Good_mJ0] at *; simp at *; omega)
    · intro b4
      try simp only [nrmT] at b4
      refine ⟨s_l1In_pc Size 0 8, id, id, id, id, ?_, rfl, id, fun _ => rfl, id, id, id, id, id, id, rfl, id, fun _ => rfl, ?_⟩
      · intro hg
        refine s_l6Sets_pc Size Sets ?_
        · exact inB_le hg
      · unfold goodSys
        rw [all_end (p := fun x => inB x 1 99) (d := 0) (by omega) h2 h3, len_beq]
        cases inB Size 0 8 <;> cases decide (Sets.length ≤ 8) <;> cases Sets.all (fun xs => rising xs 0 (Size - 1)) <;> cases decide (Costs.length = Sets.length) <;> rfl
theorem s_l6Good_pc (Size : Int) (Sets : List (List Int)) (Costs : List Int)  : PC Try.prog 117 [.agg [.int .i64 Size, .sl (.rows Sets), .sl (.ints Costs)]] (.one (.d (.bool (goodSys Size Sets Costs)))) :=
  pc_wf @Try.call117 fun hw => pc_by (by kernel_rfl) Try.func117 @Try.call117 (by kernel_rfl) s_l6Good_C (s_l6Good_A Size Sets Costs) (by kernel_rfl) (s_l6Good_vc Size Sets Costs hw.1.2.1.1 hw.1.2.1.2 hw.1.2.2.1) (by kernel_rfl)
def s_l6Good_orc : List D → Orc := orcN [none] fun ds => match ds with
  | [.agg [.int .i64 Size, .sl (.rows Sets), .sl (.ints Costs)]] => some (.one (.d (.bool (goodSys Size Sets Costs))))
  | _ => none
def i_areBetween_1_C (f : FuncId) (ds : List D) : Orc := bif Nat.beq f 107 then i_between_orc ds else .no
def i_areBetween_1_A (x : Int) (lo : Int) (hi : Int) : Ann := .none
def i_areBetween_1_P (x : Int) (lo : Int) (hi : Int) : Prop :=
  (PC Try.prog 107 [.int .i64 x, .int .i64 lo, .int .i64 hi] (.one (.d (.bool (inB x lo hi))))) ∧ (((!(inB x lo hi)) = (!(inB x lo hi))))
theorem i_areBetween_1_vc (x : Int) (lo : Int) (hi : Int)   : i_areBetween_1_P x lo hi := by
  unfold i_areBetween_1_P
  refine ⟨i_between_pc x lo hi, rfl⟩
theorem i_areBetween_1_pc (x : Int) (lo : Int) (hi : Int)  : PC Try.prog 201 [.int .i64 x, .bx [.int .i64 lo] 0, .bx [.int .i64 hi] 0] (.one (.d (.bool (!(inB x lo hi))))) :=
  pc_wf @Try.call201 fun _ => pc_by (by kernel_rfl) Try.func201 @Try.call201 (by kernel_rfl) i_areBetween_1_C (i_areBetween_1_A x lo hi) (by kernel_rfl) (i_areBetween_1_vc x lo hi) (by kernel_rfl)
def i_areBetween_1_orc : List D → Orc := orcN [none, none, none] fun ds => match ds with
  | [.int .i64 x, .bx [.int .i64 lo] 0, .bx [.int .i64 hi] 0] => some (.one (.d (.bool (!(inB x lo hi)))))
  | _ => none
abbrev slices_IndexFunc_int_int_aB_JJ0 (xs : List Int) (lo : Int) (hi : Int) (i : Int) : Prop := (0 ≤ i) ∧ (i ≤ (xs.length : Int)) ∧ (∀ k, k < i.toNat → (fun x => !(inB x lo hi)) (xs.getD k 0) = false)
abbrev slices_IndexFunc_int_int_aB_mJ0 (xs : List Int) (lo : Int) (hi : Int) (i : Int) : Nat := (xs.length - i).toNat
def slices_IndexFunc_int_int_aB_C (f : FuncId) (ds : List D) : Orc := bif Nat.beq f 201 then i_areBetween_1_orc ds else .no
def slices_IndexFunc_int_int_aB_A (xs : List Int) (lo : Int) (hi : Int) : Ann := .two (.none) (.two (.two (.none) (.loop (cut1 (fun (i : Int) => slices_IndexFunc_int_int_aB_JJ0 xs lo hi i) (fun (i : Int) => [(0, .d false (.sl (.ints xs))), (1, .d false (.fn 201 [.bx [.int .i64 lo] 0, .bx [.int .i64 hi] 0])), (7, .d true (.int .i64 (xs.length : Int))), (8, .d true (.int .i64 i))]) (fun (i : Int) => [])) (fun g => slices_IndexFunc_int_int_aB_mJ0 xs lo hi g) (fun _ => .none))) (.none))
def slices_IndexFunc_int_int_aB_P (xs : List Int) (lo : Int) (hi : Int) : Prop :=
  ((∃ i' : Int, (slices_IndexFunc_int_int_aB_JJ0 xs lo hi i') ∧ (xs = xs) ∧ ((.fn 201 [.bx [.int .i64 lo] 0, .bx [.int .i64 hi] 0] : D) = (.fn 201 [.bx [.int .i64 lo] 0, .bx [.int .i64 hi] 0] : D)) ∧ ((xs.length : Int) = (xs.length : Int)) ∧ ((0 : Int) = i')) ∧ (∀ i : Int, (slices_IndexFunc_int_int_aB_JJ0 xs lo hi i) → (((decide (i < (xs.length : Int))) = true → ((0 : Int) ≤ i) ∧ ((i : Int) < xs.length) ∧ (i.toNat < xs.length) ∧ (PC Try.prog 201 [.int .i64 (xs.getD i.toNat 0), .bx [.int .i64 lo] 0, .bx [.int .i64 hi] 0] (.one (.d (.bool (!(inB (xs.getD i.toNat 0) lo hi)))))) ∧ (((!(inB (xs.getD i.toNat 0) lo hi)) = true → ((i = (idxI (fun x => !(inB x lo hi)) xs)))) ∧ ((!(inB (xs.getD i.toNat 0) lo hi)) = false → (-9223372036854775808 ≤ (i + 1) ∧ (i + 1) ≤ 9223372036854775807) ∧ (∃ i' : Int, (slices_IndexFunc_int_int_aB_JJ0 xs lo hi i') ∧ (slices_IndexFunc_int_int_aB_mJ0 xs lo hi i' < slices_IndexFunc_int_int_aB_mJ0 xs lo hi i) ∧ (xs = xs) ∧ ((.fn 201 [.bx [.int .i64 lo] 0, .bx [.int .i64 hi] 0] : D) = (.fn 201 [.bx [.int .i64 lo] 0, .bx [.int .i64 hi] 0] : D)) ∧ ((xs.length : Int) = (xs.length : Int)) ∧ ((i + 1) = i'))))) ∧ ((decide (i < (xs.length : Int))) = false → ((((-1) : Int) = (idxI (fun x => !(inB x lo hi)) xs)))))))
theorem slices_IndexFunc_int_int_aB_vc (xs : List Int) (lo : Int) (hi : Int)  (w_xs : (xs.length : Int) ≤ 9223372036854775807) : slices_IndexFunc_int_int_aB_P xs lo hi := by
  unfold slices_IndexFunc_int_int_aB_P
  refine ⟨?_, ?_⟩
  · refine ⟨0, ?_⟩
    refine ⟨?_, rfl, rfl, rfl, rfl⟩
    · refine ⟨?_, ?_, ?_⟩
      · first | omega | rfl | (intro hg; simp only [nrmT] at hg; omega) | (intro g1 g2; simp [g1, g2]; done) | (intro g1; simp at g1 ⊢; simp [g1]; done) | (simp only [nrmT] at *; omega) | (simp at * <;> omega) | (simp_all <;> omega) | (simp_all; done)
      · first | omega | rfl | (intro hg; simp only [nrmT] at hg; omega) | (intro g1 g2; simp [g1, g2]; done) | (intro g1; simp at g1 ⊢; simp [g1]; done) | (simp only [nrmT] at *; omega) | (simp at * <;> omega) | (simp_all <;> omega) | (simp_all; done)
      · first | omega | rfl | (intro hg; simp only [nrmT] at hg; omega) | (intro g1 g2; simp [g1, g2]; done) | (intro g1; simp at g1 ⊢; simp [g1]; done) | (simp only [nrmT] at *; omega) | (simp at * <;> omega) | (simp_all <;> omega) | (simp_all; done)
  · intro i hJ
    obtain ⟨h1, h2, h3⟩ := hJ
    refine ⟨?_, ?_⟩
    · intro b1
      try simp only [nrmT] at b1
      refine ⟨?_, ?_, ?_, i_areBetween_1_pc (xs.getD i.toNat 0) lo hi, ?_, ?_⟩
      · first | omega | rfl | (intro hg; simp only [nrmT] at hg; omega) | (intro g1 g2; simp [g1, g2]; done) | (intro g1; simp at g1 ⊢; simp [g1]; done) | (simp only [nrmT] at *; omega) | (simp at * <;> omega) | (simp_all <;> omega) | (simp_all; done)
      · first | omega | rfl | (intro hg; simp only [nrmT] at hg; omega) | (intro g1 g2; simp [g1, g2]; done) | (intro g1; simp at g1 ⊢; simp [g1]; done) | (simp only [nrmT] at *; omega) | (simp at * <;> omega) | (simp_all <;> omega) | (simp_all; done)
      · first | omega | rfl | (intro hg; simp only [nrmT] at hg; omega) | (intro g1 g2; simp [g1, g2]; done) | (intro g1; simp at g1 ⊢; simp [g1]; done) | (simp only [nrmT] at *; omega) | (simp at * <;> omega) | (simp_all <;> omega) | (simp_all; done)
      · intro b2
        try simp only [nrmT] at b2
        exact idx_found (p := fun x => !(inB x lo hi)) h1 b1 h3 (by simpa using b2)
      · intro b3
        try simp only [nrmT] at b3
        refine ⟨?_, ?_⟩
        · first | omega | rfl | (intro hg; simp only [nrmT] at hg; omega) | (intro g1 g2; simp [g1, g2]; done) | (intro g1; simp at g1 ⊢; simp [g1]; done) | (simp only [nrmT] at *; omega) | (simp at * <;> omega) | (simp_all <;> omega) | (simp_all; done)
        · refine ⟨(i + 1), ?_⟩
          refine ⟨?_, ?_, rfl, rfl, rfl, rfl⟩
          · refine ⟨?_, ?_, ?_⟩
            · first | omega | rfl | (intro hg; simp only [nrmT] at hg; omega) | (intro g1 g2; simp [g1, g2]; done) | (intro g1; simp at g1 ⊢; simp [g1]; done) | (simp only [nrmT] at *; omega) | (simp at * <;> omega) | (simp_all <;> omega) | (simp_all; done)
            · first | omega | rfl | (intro hg; simp only [nrmT] at hg; omega) | (intro g1 g2; simp [g1, g2]; done) | (intro g1; simp at g1 ⊢; simp [g1]; done) | (simp only [nrmT] at *; omega) | (simp at * <;> omega) | (simp_all <;> omega) | (simp_all; done)
            · exact idx_step (p := fun x => !(inB x lo hi)) h1 h3 (by simpa using b3)
          · first | (show _ < _; omega) | (simp only [slices_IndexFunc_int_int_aB_mJ0]; omega) | (simp only [slices_IndexFunc_int_int_aB_mJ0] at *; simp at *; omega)
    · intro b4
      try simp only [nrmT] at b4
      exact (idx_none (by omega) h3).symm
theorem slices_IndexFunc_int_int_aB_pc (xs : List Int) (lo : Int) (hi : Int)  : PC Try.prog 164 [.sl (.ints xs), .fn 201 [.bx [.int .i64 lo] 0, .bx [.int .i64 hi] 0]] (.one (.d (.int .i64 (idxI (fun x => !(inB x lo hi)) xs)))) :=
  pc_wf @Try.call164 fun hw => pc_by (by kernel_rfl) Try.func164 @Try.call164 (by kernel_rfl) slices_IndexFunc_int_int_aB_C (slices_IndexFunc_int_int_aB_A xs lo hi) (by kernel_rfl) (slices_IndexFunc_int_int_aB_vc xs lo hi hw.1) (by kernel_rfl)
def slices_IndexFunc_int_int_aB_orc : List D → Orc := orcN [some .ints, none] fun ds => match ds with
  | [.sl (.ints xs), .fn f0 [.bx [.int .i64 lo] 0, .bx [.int .i64 hi] 0]] => bif Nat.beq f0 201 then some (.one (.d (.int .i64 (idxI (fun x => !(inB x lo hi)) xs)))) else none
  | _ => none
def slices_ContainsFunc_int_int_aB_C (f : FuncId) (ds : List D) : Orc := bif Nat.beq f 164 then slices_IndexFunc_int_int_aB_orc ds else .no
def slices_ContainsFunc_int_int_aB_A (xs : List Int) (lo : Int) (hi : Int) : Ann := .none
def slices_ContainsFunc_int_int_aB_P (xs : List Int) (lo : Int) (hi : Int) : Prop :=
  (PC Try.prog 164 [.sl (.ints xs), .fn 201 [.bx [.int .i64 lo] 0, .bx [.int .i64 hi] 0]] (.one (.d (.int .i64 (idxI (fun x => !(inB x lo hi)) xs))))) ∧ (((decide ((idxI (fun x => !(inB x lo hi)) xs) ≥ 0)) = (xs.any (fun x => !(inB x lo hi)))))
theorem slices_ContainsFunc_int_int_aB_vc (xs : List Int) (lo : Int) (hi : Int)  (w_xs : (xs.length : Int) ≤ 9223372036854775807) : slices_ContainsFunc_int_int_aB_P xs lo hi := by
  unfold slices_ContainsFunc_int_int_aB_P
  refine ⟨slices_IndexFunc_int_int_aB_pc xs lo hi, ?_⟩
  · exact idx_any _ _
theorem slices_ContainsFunc_int_int_aB_pc (xs : List Int) (lo : Int) (hi : Int)  : PC Try.prog 96 [.sl (.ints xs), .fn 201 [.bx [.int .i64 lo] 0, .bx [.int .i64 hi] 0]] (.one (.d (.bool (xs.any (fun x => !(inB x lo hi)))))) :=
  pc_wf @Try.call96 fun hw => pc_by (by kernel_rfl) Try.func96 @Try.call96 (by kernel_rfl) slices_ContainsFunc_int_int_aB_C (slices_ContainsFunc_int_int_aB_A xs lo hi) (by kernel_rfl) (slices_ContainsFunc_int_int_aB_vc xs lo hi hw.1) (by kernel_rfl)
def slices_ContainsFunc_int_int_aB_orc : List D → Orc := orcN [some .ints, none] fun ds => match ds with
  | [.sl (.ints xs), .fn f0 [.bx [.int .i64 lo] 0, .bx [.int .i64 hi] 0]] => bif Nat.beq f0 201 then some (.one (.d (.bool (xs.any (fun x => !(inB x lo hi)))))) else none
  | _ => none
def i_areBetween_C (f : FuncId) (ds : List D) : Orc := bif Nat.beq f 96 then slices_ContainsFunc_int_int_aB_orc ds else .no
def i_areBetween_A (xs : List Int) (lo : Int) (hi : Int) : Ann := .none
def i_areBetween_P (xs : List Int) (lo : Int) (hi : Int) : Prop :=
  (PC Try.prog 96 [.sl (.ints xs), .fn 201 [.bx [.int .i64 lo] 0, .bx [.int .i64 hi] 0]] (.one (.d (.bool (xs.any (fun x => !(inB x lo hi))))))) ∧ (((!(xs.any (fun x => !(inB x lo hi)))) = (xs.all (fun x => inB x lo hi))))
theorem i_areBetween_vc (xs : List Int) (lo : Int) (hi : Int)  (w_xs : (xs.length : Int) ≤ 9223372036854775807) : i_areBetween_P xs lo hi := by
  unfold i_areBetween_P
  refine ⟨slices_ContainsFunc_int_int_aB_pc xs lo hi, ?_⟩
  · exact any_not _ _
theorem i_areBetween_pc (xs : List Int) (lo : Int) (hi : Int)  : PC Try.prog 162 [.sl (.ints xs), .int .i64 lo, .int .i64 hi] (.one (.d (.bool (xs.all (fun x => inB x lo hi))))) :=
  pc_wf @Try.call162 fun hw => pc_by (by kernel_rfl) Try.func162 @Try.call162 (by kernel_rfl) i_areBetween_C (i_areBetween_A xs lo hi) (by kernel_rfl) (i_areBetween_vc xs lo hi hw.1) (by kernel_rfl)
def i_areBetween_orc : List D → Orc := orcN [some .ints, none, none] fun ds => match ds with
  | [.sl (.ints xs), .int .i64 lo, .int .i64 hi] => some (.one (.d (.bool (xs.all (fun x => inB x lo hi)))))
  | _ => none
def i_IsSystem_1_C (f : FuncId) (ds : List D) : Orc := bif Nat.beq f 161 then i_isRising_orc ds else .no
def i_IsSystem_1_A (xs : List Int) (Size : Int) (Sets : List (List Int)) (Costs : List Int) : Ann := .none
def i_IsSystem_1_P (xs : List Int) (Size : Int) (Sets : List (List Int)) (Costs : List Int) : Prop :=
  (PC Try.prog 161 [.sl (.ints xs), .int .i64 Size] (.one (.d (.bool (rising xs 0 (Size - 1)))))) ∧ (((!(rising xs 0 (Size - 1))) = (!(rising xs 0 (Size - 1)))))
theorem i_IsSystem_1_vc (xs : List Int) (Size : Int) (Sets : List (List Int)) (Costs : List Int) (hb : -9223372036854775808 < Size ∧ Size ≤ 9223372036854775807) (w_xs : (xs.length : Int) ≤ 9223372036854775807) (w_Sets : (Sets.length : Int) ≤ 9223372036854775807) (v_Sets : ∀ x9 ∈ Sets, (x9.length : Int) ≤ 9223372036854775807) (w_Costs : (Costs.length : Int) ≤ 9223372036854775807) : i_IsSystem_1_P xs Size Sets Costs := by
  unfold i_IsSystem_1_P
  refine ⟨?_, rfl⟩
  · refine i_isRising_pc xs Size ?_
    · first | omega | rfl | (intro hg; simp only [nrmT] at hg; omega) | (intro g1 g2; simp [g1, g2]; done) | (intro g1; simp at g1 ⊢; simp [g1]; done) | (simp only [nrmT] at *; omega) | (simp at * <;> omega) | (simp_all <;> omega) | (simp_all; done)
theorem i_IsSystem_1_pc (xs : List Int) (Size : Int) (Sets : List (List Int)) (Costs : List Int) (hb : -9223372036854775808 < Size ∧ Size ≤ 9223372036854775807) : PC Try.prog 176 [.sl (.ints xs), .bx [.int .i64 Size, .sl (.rows Sets), .sl (.ints Costs)] 0] (.one (.d (.bool (!(rising xs 0 (Size - 1)))))) :=
  pc_wf @Try.call176 fun hw => pc_by (by kernel_rfl) Try.func176 @Try.call176 (by kernel_rfl) i_IsSystem_1_C (i_IsSystem_1_A xs Size Sets Costs) (by kernel_rfl) (i_IsSystem_1_vc xs Size Sets Costs hb hw.1 hw.2.1.2.1.1 hw.2.1.2.1.2 hw.2.1.2.2.1) (by kernel_rfl)
def i_IsSystem_1_orc : List D → Orc := orcN [some .ints, none] fun ds => match ds with
  | [.sl (.ints xs), .bx [.int .i64 Size, .sl (.rows Sets), .sl (.ints Costs)] 0] => some (.one (.d (.bool (!(rising xs 0 (Size - 1))))))
  | _ => none
abbrev slices_IndexFunc_int_int_iS_JJ0 (xs : List (List Int)) (Size : Int) (Sets : List (List Int)) (Costs : List Int) (i : Int) : Prop := (0 ≤ i) ∧ (i ≤ (xs.length : Int)) ∧ (∀ k, k < i.toNat → (fun x => !(rising x 0 (Size - 1))) (xs.getD k []) = false)
abbrev slices_IndexFunc_int_int_iS_mJ0 (xs : List (List Int)) (Size : Int) (Sets : List (List Int)) (Costs : List Int) (i : Int) : Nat := (xs.length - i).toNat
def slices_IndexFunc_int_int_iS_C (f : FuncId) (ds : List D) : Orc := bif Nat.beq f 176 then i_IsSystem_1_orc ds else .no
def slices_IndexFunc_int_int_iS_A (xs : List (List Int)) (Size : Int) (Sets : List (List Int)) (Costs : List Int) : Ann := .two (.none) (.two (.two (.none) (.loop (cut1 (fun (i : Int) => slices_IndexFunc_int_int_iS_JJ0 xs Size Sets Costs i) (fun (i : Int) => [(0, .d false (.sl (.rows xs))), (1, .d false (.fn 176 [.bx [.int .i64 Size, .sl (.rows Sets), .sl (.ints Costs)] 0])), (7, .d true (.int .i64 (xs.length : Int))), (8, .d true (.int .i64 i))]) (fun (i : Int) => [])) (fun g => slices_IndexFunc_int_int_iS_mJ0 xs Size Sets Costs g) (fun _ => .none))) (.none))
def slices_IndexFunc_int_int_iS_P (xs : List (List Int)) (Size : Int) (Sets : List (List Int)) (Costs : List Int) : Prop :=
  ((∃ i' : Int, (slices_IndexFunc_int_int_iS_JJ0 xs Size Sets Costs i') ∧ (xs = xs) ∧ ((.fn 176 [.bx [.int .i64 Size, .sl (.rows Sets), .sl (.ints Costs)] 0] : D) = (.fn 176 [.bx [.int .i64 Size, .sl (.rows Sets), .sl (.ints Costs)] 0] : D)) ∧ ((xs.length : Int) = (xs.length : Int)) ∧ ((0 : Int) = i')) ∧ (∀ i : Int, (slices_IndexFunc_int_int_iS_JJ0 xs Size Sets Costs i) → (((decide (i < (xs.length : Int))) = true → ((0 : Int) ≤ i) ∧ ((i : Int) < xs.length) ∧ (i.toNat < xs.length) ∧ (PC Try.prog 176 [.sl (.ints (xs.getD i.toNat [])), .bx [.int .i64 Size, .sl (.rows Sets), .sl (.ints Costs)] 0] (.one (.d (.bool (!(rising (xs.getD i.toNat []) 0 (Size - 1))))))) ∧ (((!(rising (xs.getD i.toNat []) 0 (Size - 1))) = true → ((i = (idxI (fun x => !(rising x 0 (Size - 1))) xs)))) ∧ ((!(rising (xs.getD i.toNat []) 0 (Size - 1))) = false → (-9223372036854775808 ≤ (i + 1) ∧ (i + 1) ≤ 9223372036854775807) ∧ (∃ i' : Int, (slices_IndexFunc_int_int_iS_JJ0 xs Size Sets Costs i') ∧ (slices_IndexFunc_int_int_iS_mJ0 xs Size Sets Costs i' < slices_IndexFunc_int_int_iS_mJ0 xs Size Sets Costs i) ∧ (xs = xs) ∧ ((.fn 176 [.bx [.int .i64 Size, .sl (.rows Sets), .sl (.ints Costs)] 0] : D) = (.fn 176 [.bx [.int .i64 Size, .sl (.rows Sets), .sl (.ints Costs)] 0] : D)) ∧ ((xs.length : Int) = (xs.length : Int)) ∧ ((i + 1) = i'))))) ∧ ((decide (i < (xs.length : Int))) = false → ((((-1) : Int) = (idxI (fun x => !(rising x 0 (Size - 1))) xs)))))))
theorem slices_IndexFunc_int_int_iS_vc (xs : List (List Int)) (Size : Int) (Sets : List (List Int)) (Costs : List Int) (hb : -9223372036854775808 < Size ∧ Size ≤ 9223372036854775807) (w_xs : (xs.length : Int) ≤ 9223372036854775807) (v_xs : ∀ x9 ∈ xs, (x9.length : Int) ≤ 9223372036854775807) (w_Sets : (Sets.length : Int) ≤ 9223372036854775807) (v_Sets : ∀ x9 ∈ Sets, (x9.length : Int) ≤ 9223372036854775807) (w_Costs : (Costs.length : Int) ≤ 9223372036854775807) : slices_IndexFunc_int_int_iS_P xs Size Sets Costs := by
  unfold slices_IndexFunc_int_int_iS_P
  refine ⟨?_, ?_⟩
  · refine ⟨0, ?_⟩
    refine ⟨?_, rfl, rfl, rfl, rfl⟩
    · refine ⟨?_, ?_, ?_⟩
      · first | omega | rfl | (intro hg; simp only [nrmT] at hg; omega) | (intro g1 g2; simp [g1, g2]; done) | (intro g1; simp at g1 ⊢; simp [g1]; done) | (simp only [nrmT] at *; omega) | (simp at * <;> omega) | (simp_all <;> omega) | (simp_all; done)
      · first | omega | rfl | (intro hg; simp only [nrmT] at hg; omega) | (intro g1 g2; simp [g1, g2]; done) | (intro g1; simp at g1 ⊢; simp [g1]; done) | (simp only [nrmT] at *; omega) | (simp at * <;> omega) | (simp_all <;> omega) | (simp_all; done)
      · first | omega | rfl | (intro hg; simp only [nrmT] at hg; omega) | (intro g1 g2; simp [g1, g2]; done) | (intro g1; simp at g1 ⊢; simp [g1]; done) | (simp only [nrmT] at *; omega) | (simp at * <;> omega) | (simp_all <;> omega) | (simp_all; done)
  · intro i hJ
    obtain ⟨h1, h2, h3⟩ := hJ
    refine ⟨?_, ?_⟩
    · intro b1
      try simp only [nrmT] at b1
      refine ⟨?_, ?_, ?_, ?_, ?_, ?_⟩
      · first | omega | rfl | (intro hg; simp only [nrmT] at hg; omega) | (intro g1 g2; simp [g1, g2]; done) | (intro g1; simp at g1 ⊢; simp [g1]; done) | (simp only [nrmT] at *; omega) | (simp at * <;> omega) | (simp_all <;> omega) | (simp_all; done)
      · first | omega | rfl | (intro hg; simp only [nrmT] at hg; omega) | (intro g1 g2; simp [g1, g2]; done) | (intro g1; simp at g1 ⊢; simp [g1]; done) | (simp only [nrmT] at *; omega) | (simp at * <;> omega) | (simp_all <;> omega) | (simp_all; done)
      · first | omega | rfl | (intro hg; simp only [nrmT] at hg; omega) | (intro g1 g2; simp [g1, g2]; done) | (intro g1; simp at g1 ⊢; simp [g1]; done) | (simp only [nrmT] at *; omega) | (simp at * <;> omega) | (simp_all <;> omega) | (simp_all; done)
      · refine i_IsSystem_1_pc (xs.getD i.toNat []) Size Sets Costs ?_
        · first | omega | rfl | (intro hg; simp only [nrmT] at hg; omega) | (intro g1 g2; simp [g1, g2]; done) | (intro g1; simp at g1 ⊢; simp [g1]; done) | (simp only [nrmT] at *; omega) | (simp at * <;> omega) | (simp_all <;> omega) | (simp_all; done)
      · intro b2
        try simp only [nrmT] at b2
        exact idx_found (p := fun x => !(rising x 0 (Size - 1))) h1 b1 h3 (by simpa using b2)
      · intro b3
        try simp only [nrmT] at b3
        refine ⟨?_, ?_⟩
        · first | omega | rfl | (intro hg; simp only [nrmT] at hg; omega) | (intro g1 g2; simp [g1, g2]; done) | (intro g1; simp at g1 ⊢; simp [g1]; done) | (simp only [nrmT] at *; omega) | (simp at * <;> omega) | (simp_all <;> omega) | (simp_all; done)
        · refine ⟨(i + 1), ?_⟩
          refine ⟨?_, ?_, rfl, rfl, rfl, rfl⟩
          · refine ⟨?_, ?_, ?_⟩
            · first | omega | rfl | (intro hg; simp only [nrmT] at hg; omega) | (intro g1 g2; simp [g1, g2]; done) | (intro g1; simp at g1 ⊢; simp [g1]; done) | (simp only [nrmT] at *; omega) | (simp at * <;> omega) | (simp_all <;> omega) | (simp_all; done)
            · first | omega | rfl | (intro hg; simp only [nrmT] at hg; omega) | (intro g1 g2; simp [g1, g2]; done) | (intro g1; simp at g1 ⊢; simp [g1]; done) | (simp only [nrmT] at *; omega) | (simp at * <;> omega) | (simp_all <;> omega) | (simp_all; done)
            · exact idx_step (p := fun x => !(rising x 0 (Size - 1))) h1 h3 (by simpa using b3)
          · first | (show _ < _; omega) | (simp only [slices_IndexFunc_int_int_iS_mJ0]; omega) | (simp only [slices_IndexFunc_int_int_iS_mJ0] at *; simp at *; omega)
    · intro b4
      try simp only [nrmT] at b4
      exact (idx_none (by omega) h3).symm
theorem slices_IndexFunc_int_int_iS_pc (xs : List (List Int)) (Size : Int) (Sets : List (List Int)) (Costs : List Int) (hb : -9223372036854775808 < Size ∧ Size ≤ 9223372036854775807) : PC Try.prog 204 [.sl (.rows xs), .fn 176 [.bx [.int .i64 Size, .sl (.rows Sets), .sl (.ints Costs)] 0]] (.one (.d (.int .i64 (idxI (fun x => !(rising x 0 (Size - 1))) xs)))) :=
  pc_wf @Try.call204 fun hw => pc_by (by kernel_rfl) Try.func204 @Try.call204 (by kernel_rfl) slices_IndexFunc_int_int_iS_C (slices_IndexFunc_int_int_iS_A xs Size Sets Costs) (by kernel_rfl) (slices_IndexFunc_int_int_iS_vc xs Size Sets Costs hb hw.1.1 hw.1.2 hw.2.1.1.2.1.1 hw.2.1.1.2.1.2 hw.2.1.1.2.2.1) (by kernel_rfl)
def slices_IndexFunc_int_int_iS_orc : List D → Orc := orcN [some .rows, none] fun ds => match ds with
  | [.sl (.rows xs), .fn f0 [.bx [.int .i64 Size, .sl (.rows Sets), .sl (.ints Costs)] 0]] => bif Nat.beq f0 176 then some (.one (.d (.int .i64 (idxI (fun x => !(rising x 0 (Size - 1))) xs)))) else none
  | _ => none
def slices_ContainsFunc_int_int_iS_C (f : FuncId) (ds : List D) : Orc := bif Nat.beq f 204 then slices_IndexFunc_int_int_iS_orc ds else .no
def slices_ContainsFunc_int_int_iS_A (xs : List (List Int)) (Size : Int) (Sets : List (List Int)) (Costs : List Int) : Ann := .none
def slices_ContainsFunc_int_int_iS_P (xs : List (List Int)) (Size : Int) (Sets : List (List Int)) (Costs : List Int) : Prop :=
  (PC Try.prog 204 [.sl (.rows xs), .fn 176 [.bx [.int .i64 Size, .sl (.rows Sets), .sl (.ints Costs)] 0]] (.one (.d (.int .i64 (idxI (fun x => !(rising x 0 (Size - 1))) xs))))) ∧ (((decide ((idxI (fun x => !(rising x 0 (Size - 1))) xs) ≥ 0)) = (xs.any (fun x => !(rising x 0 (Size - 1))))))
theorem slices_ContainsFunc_int_int_iS_vc (xs : List (List Int)) (Size : Int) (Sets : List (List Int)) (Costs : List Int) (hb : -9223372036854775808 < Size ∧ Size ≤ 9223372036854775807) (w_xs : (xs.length : Int) ≤ 9223372036854775807) (v_xs : ∀ x9 ∈ xs, (x9.length : Int) ≤ 9223372036854775807) (w_Sets : (Sets.length : Int) ≤ 9223372036854775807) (v_Sets : ∀ x9 ∈ Sets, (x9.length : Int) ≤ 9223372036854775807) (w_Costs : (Costs.length : Int) ≤ 9223372036854775807) : slices_ContainsFunc_int_int_iS_P xs Size Sets Costs := by
  unfold slices_ContainsFunc_int_int_iS_P
  refine ⟨?_, ?_⟩
  · refine slices_IndexFunc_int_int_iS_pc xs Size Sets Costs ?_
    · first | omega | rfl | (intro hg; simp only [nrmT] at hg; omega) | (intro g1 g2; simp [g1, g2]; done) | (intro g1; simp at g1 ⊢; simp [g1]; done) | (simp only [nrmT] at *; omega) | (simp at * <;> omega) | (simp_all <;> omega) | (simp_all; done)
  · exact idx_any _ _
theorem slices_ContainsFunc_int_int_iS_pc (xs : List (List Int)) (Size : Int) (Sets : List (List Int)) (Costs : List Int) (hb : -9223372036854775808 < Size ∧ Size ≤ 9223372036854775807) : PC Try.prog 170 [.sl (.rows xs), .fn 176 [.bx [.int .i64 Size, .sl (.rows Sets), .sl (.ints Costs)] 0]] (.one (.d (.bool (xs.any (fun x => !(rising x 0 (Size - 1))))))) :=
  pc_wf @Try.call170 fun hw => pc_by (by kernel_rfl) Try.func170 @Try.call170 (by kernel_rfl) slices_ContainsFunc_int_int_iS_C (slices_ContainsFunc_int_int_iS_A xs Size Sets Costs) (by kernel_rfl) (slices_ContainsFunc_int_int_iS_vc xs Size Sets Costs hb hw.1.1 hw.1.2 hw.2.1.1.2.1.1 hw.2.1.1.2.1.2 hw.2.1.1.2.2.1) (by kernel_rfl)
def slices_ContainsFunc_int_int_iS_orc : List D → Orc := orcN [some .rows, none] fun ds => match ds with
  | [.sl (.rows xs), .fn f0 [.bx [.int .i64 Size, .sl (.rows Sets), .sl (.ints Costs)] 0]] => bif Nat.beq f0 176 then some (.one (.d (.bool (xs.any (fun x => !(rising x 0 (Size - 1))))))) else none
  | _ => none
def i_IsSystem_C (f : FuncId) (ds : List D) : Orc := bif Nat.beq f 107 then i_between_orc ds else bif Nat.beq f 162 then i_areBetween_orc ds else bif Nat.beq f 170 then slices_ContainsFunc_int_int_iS_orc ds else .no
def i_IsSystem_A (Size : Int) (Sets : List (List Int)) (Costs : List Int) : Ann := .none
def i_IsSystem_P (Size : Int) (Sets : List (List Int)) (Costs : List Int) : Prop :=
  (PC Try.prog 107 [.int .i64 Size, .int .i64 0, .int .i64 8] (.one (.d (.bool (inB Size 0 8))))) ∧ ((inB Size 0 8) = true → (inB Size 0 8) = true) ∧ ((inB Size 0 8) = true → (inB Size 0 8) = true) ∧ ((inB Size 0 8) = true → (inB Size 0 8) = true) ∧ (true = true) ∧ (((inB Size 0 8) = true → (inB Size 0 8) = true)) ∧ (((inB Size 0 8) = false → true = true)) ∧ ((cond (inB Size 0 8) (decide ((Sets.length : Int) ≤ 8)) false) = true → (cond (inB Size 0 8) (decide ((Sets.length : Int) ≤ 8)) false) = true) ∧ ((cond (inB Size 0 8) (decide ((Sets.length : Int) ≤ 8)) false) = true → (cond (inB Size 0 8) (decide ((Sets.length : Int) ≤ 8)) false) = true) ∧ ((cond (inB Size 0 8) (decide ((Sets.length : Int) ≤ 8)) false) = true → (cond (inB Size 0 8) (decide ((Sets.length : Int) ≤ 8)) false) = true) ∧ ((cond (inB Size 0 8) (decide ((Sets.length : Int) ≤ 8)) false) = true → (cond (inB Size 0 8) (decide ((Sets.length : Int) ≤ 8)) false) = true) ∧ ((cond (inB Size 0 8) (decide ((Sets.length : Int) ≤ 8)) false) = true → (cond (inB Size 0 8) (decide ((Sets.length : Int) ≤ 8)) false) = true) ∧ ((cond (inB Size 0 8) (decide ((Sets.length : Int) ≤ 8)) false) = true → (cond (inB Size 0 8) (decide ((Sets.length : Int) ≤ 8)) false) = true) ∧ (true = true) ∧ (((cond (inB Size 0 8) (decide ((Sets.length : Int) ≤ 8)) false) = true → (cond (inB Size 0 8) (decide ((Sets.length : Int) ≤ 8)) false) = true)) ∧ (((cond (inB Size 0 8) (decide ((Sets.length : Int) ≤ 8)) false) = false → true = true)) ∧ ((cond (cond (inB Size 0 8) (decide ((Sets.length : Int) ≤ 8)) false) ((Costs.length : Int) == (Sets.length : Int)) false) = true → (cond (cond (inB Size 0 8) (decide ((Sets.length : Int) ≤ 8)) false) ((Costs.length : Int) == (Sets.length : Int)) false) = true) ∧ ((cond (cond (inB Size 0 8) (decide ((Sets.length : Int) ≤ 8)) false) ((Costs.length : Int) == (Sets.length : Int)) false) = true → (cond (cond (inB Size 0 8) (decide ((Sets.length : Int) ≤ 8)) false) ((Costs.length : Int) == (Sets.length : Int)) false) = true) ∧ ((cond (cond (inB Size 0 8) (decide ((Sets.length : Int) ≤ 8)) false) ((Costs.length : Int) == (Sets.length : Int)) false) = true → PC Try.prog 162 [.sl (.ints Costs), .int .i64 1, .int .i64 99] (.one (.d (.bool (Costs.all (fun x => inB x 1 99)))))) ∧ (true = true) ∧ (((cond (cond (inB Size 0 8) (decide ((Sets.length : Int) ≤ 8)) false) ((Costs.length : Int) == (Sets.length : Int)) false) = true → (cond (cond (inB Size 0 8) (decide ((Sets.length : Int) ≤ 8)) false) ((Costs.length : Int) == (Sets.length : Int)) false) = true)) ∧ (((cond (cond (inB Size 0 8) (decide ((Sets.length : Int) ≤ 8)) false) ((Costs.length : Int) == (Sets.length : Int)) false) = false → true = true)) ∧ ((cond (cond (cond (inB Size 0 8) (decide ((Sets.length : Int) ≤ 8)) false) ((Costs.length : Int) == (Sets.length : Int)) false) (Costs.all (fun x => inB x 1 99)) false) = true → (cond (cond (cond (inB Size 0 8) (decide ((Sets.length : Int) ≤ 8)) false) ((Costs.length : Int) == (Sets.length : Int)) false) (Costs.all (fun x => inB x 1 99)) false) = true) ∧ ((cond (cond (cond (inB Size 0 8) (decide ((Sets.length : Int) ≤ 8)) false) ((Costs.length : Int) == (Sets.length : Int)) false) (Costs.all (fun x => inB x 1 99)) false) = true → (cond (cond (cond (inB Size 0 8) (decide ((Sets.length : Int) ≤ 8)) false) ((Costs.length : Int) == (Sets.length : Int)) false) (Costs.all (fun x => inB x 1 99)) false) = true) ∧ ((cond (cond (cond (inB Size 0 8) (decide ((Sets.length : Int) ≤ 8)) false) ((Costs.length : Int) == (Sets.length : Int)) false) (Costs.all (fun x => inB x 1 99)) false) = true → (cond (cond (cond (inB Size 0 8) (decide ((Sets.length : Int) ≤ 8)) false) ((Costs.length : Int) == (Sets.length : Int)) false) (Costs.all (fun x => inB x 1 99)) false) = true) ∧ ((cond (cond (cond (inB Size 0 8) (decide ((Sets.length : Int) ≤ 8)) false) ((Costs.length : Int) == (Sets.length : Int)) false) (Costs.all (fun x => inB x 1 99)) false) = true → PC Try.prog 170 [.sl (.rows Sets), .fn 176 [.bx [.int .i64 Size, .sl (.rows Sets), .sl (.ints Costs)] 0]] (.one (.d (.bool (Sets.any (fun x => !(rising x 0 (Size - 1)))))))) ∧ ((cond (cond (cond (inB Size 0 8) (decide ((Sets.length : Int) ≤ 8)) false) ((Costs.length : Int) == (Sets.length : Int)) false) (Costs.all (fun x => inB x 1 99)) false) = true → (cond (cond (cond (inB Size 0 8) (decide ((Sets.length : Int) ≤ 8)) false) ((Costs.length : Int) == (Sets.length : Int)) false) (Costs.all (fun x => inB x 1 99)) false) = true) ∧ (true = true) ∧ (((cond (cond (cond (inB Size 0 8) (decide ((Sets.length : Int) ≤ 8)) false) ((Costs.length : Int) == (Sets.length : Int)) false) (Costs.all (fun x => inB x 1 99)) false) = true → (cond (cond (cond (inB Size 0 8) (decide ((Sets.length : Int) ≤ 8)) false) ((Costs.length : Int) == (Sets.length : Int)) false) (Costs.all (fun x => inB x 1 99)) false) = true)) ∧ (((cond (cond (cond (inB Size 0 8) (decide ((Sets.length : Int) ≤ 8)) false) ((Costs.length : Int) == (Sets.length : Int)) false) (Costs.all (fun x => inB x 1 99)) false) = false → true = true)) ∧ (((cond (cond (cond (cond (inB Size 0 8) (decide ((Sets.length : Int) ≤ 8)) false) ((Costs.length : Int) == (Sets.length : Int)) false) (Costs.all (fun x => inB x 1 99)) false) (!(Sets.any (fun x => !(rising x 0 (Size - 1))))) false) = (goodSys Size Sets Costs)))
theorem i_IsSystem_vc (Size : Int) (Sets : List (List Int)) (Costs : List Int)  (w_Sets : (Sets.length : Int) ≤ 9223372036854775807) (v_Sets : ∀ x9 ∈ Sets, (x9.length : Int) ≤ 9223372036854775807) (w_Costs : (Costs.length : Int) ≤ 9223372036854775807) : i_IsSystem_P Size Sets Costs := by
  unfold i_IsSystem_P
  refine ⟨i_between_pc Size 0 8, id, id, id, rfl, id, fun _ => rfl, id, id, id, id, id, id, rfl, id, fun _ => rfl, id, id, fun _ => i_areBetween_pc Costs 1 99, rfl, id, fun _ => rfl, id, id, id, ?_, id, rfl, id, fun _ => rfl, ?_⟩
  · intro hg
    refine slices_ContainsFunc_int_int_iS_pc Sets Size Sets Costs ?_
    · simp only [inB] at hg; simp at hg; omega
  · unfold goodSys
    rw [any_not, len_beq, show decide ((Sets.length : Int) ≤ 8) = decide (Sets.length ≤ 8) from len_le _ 8]
    cases inB Size 0 8 <;> cases decide (Sets.length ≤ 8) <;> cases Sets.all (fun xs => rising xs 0 (Size - 1)) <;> cases decide (Costs.length = Sets.length) <;> cases Costs.all (fun x => inB x 1 99) <;> rfl
theorem i_IsSystem_pc (Size : Int) (Sets : List (List Int)) (Costs : List Int)  : PC Try.prog 119 [.agg [.int .i64 Size, .sl (.rows Sets), .sl (.ints Costs)]] (.one (.d (.bool (goodSys Size Sets Costs)))) :=
  pc_wf @Try.call119 fun hw => pc_by (by kernel_rfl) Try.func119 @Try.call119 (by kernel_rfl) i_IsSystem_C (i_IsSystem_A Size Sets Costs) (by kernel_rfl) (i_IsSystem_vc Size Sets Costs hw.1.2.1.1 hw.1.2.1.2 hw.1.2.2.1) (by kernel_rfl)
def i_IsSystem_orc : List D → Orc := orcN [none] fun ds => match ds with
  | [.agg [.int .i64 Size, .sl (.rows Sets), .sl (.ints Costs)]] => some (.one (.d (.bool (goodSys Size Sets Costs))))
  | _ => none
abbrev l_toIntS_JJ0 (xs : List Int) (out : List Int) (i : Int) : Prop := (0 ≤ i) ∧ (i ≤ (xs.length : Int)) ∧ (out = xs.take i.toNat ++ (List.replicate xs.length 0).drop i.toNat)
abbrev l_toIntS_mJ0 (xs : List Int) (out : List Int) (i : Int) : Nat := (xs.length - i).toNat
def l_toIntS_C (f : FuncId) (ds : List D) : Orc := .no
def l_toIntS_A (xs : List Int) : Ann := .two (.none) (.two (.none) (.two (.two (.none) (.loop (cut2 (fun (out : List Int) (i : Int) => l_toIntS_JJ0 xs out i) (fun (out : List Int) (i : Int) => [(0, .d false (.sl (.ints xs))), (3, .own 7 out.length), (4, .d true (.int .i64 i))]) (fun (out : List Int) (i : Int) => [(7, .arr true 3 (.ints out))])) (fun g => l_toIntS_mJ0 xs g.1 g.2) (fun _ => .none))) (.none)))
def l_toIntS_P (xs : List Int) : Prop :=
  ((xs.length : Int) = (xs.length : Int)) ∧ ((0 : Int) ≤ (xs.length : Int)) ∧ (((xs.length : Int) : Int) * ((8 : Nat) : Int) ≤ 140737488355328) ∧ ((∃ out' : List Int, ∃ i' : Int, (l_toIntS_JJ0 xs out' i') ∧ (xs = xs) ∧ ((xs.length : Int).toNat = out'.length) ∧ ((0 : Int) = i') ∧ ((List.replicate ((xs.length : Int).toNat) (0 : Int)) = out')) ∧ (∀ out : List Int, ∀ i : Int, (l_toIntS_JJ0 xs out i) → (((decide (i < (xs.length : Int))) = true → ((0 : Int) ≤ i) ∧ ((i : Int) < xs.length) ∧ (i.toNat < xs.length) ∧ ((0 : Int) ≤ i) ∧ ((i : Int) < (out.length : Int)) ∧ (i.toNat < out.length) ∧ (-9223372036854775808 ≤ (i + 1) ∧ (i + 1) ≤ 9223372036854775807) ∧ (∃ out' : List Int, ∃ i' : Int, (l_toIntS_JJ0 xs out' i') ∧ (l_toIntS_mJ0 xs out' i' < l_toIntS_mJ0 xs out i) ∧ (xs = xs) ∧ (out.length = out'.length) ∧ ((i + 1) = i') ∧ ((out.set i.toNat (xs.getD i.toNat 0)) = out'))) ∧ ((decide (i < (xs.length : Int))) = false → ((out.length = out.length) ∧ ((out : List Int) = xs))))))
theorem l_toIntS_vc (xs : List Int) (hn : xs.length ≤ 1048576) (w_xs : (xs.length : Int) ≤ 9223372036854775807) : l_toIntS_P xs := by
  unfold l_toIntS_P
  refine ⟨rfl, ?_, ?_, ?_, ?_⟩
  · first | omega | rfl | (intro hg; simp only [nrmT] at hg; omega) | (intro g1 g2; simp [g1, g2]; done) | (intro g1; simp at g1 ⊢; simp [g1]; done) | (simp only [nrmT] at *; omega) | (simp at * <;> omega) | (simp_all <;> omega) | (simp_all; done)
  · first | omega | rfl | (intro hg; simp only [nrmT] at hg; omega) | (intro g1 g2; simp [g1, g2]; done) | (intro g1; simp at g1 ⊢; simp [g1]; done) | (simp only [nrmT] at *; omega) | (simp at * <;> omega) | (simp_all <;> omega) | (simp_all; done)
  · refine ⟨(List.replicate ((xs.length : Int).toNat) (0 : Int)), 0, ?_⟩
    refine ⟨?_, rfl, ?_, rfl, rfl⟩
    · refine ⟨?_, ?_, ?_⟩
      · first | omega | rfl | (intro hg; simp only [nrmT] at hg; omega) | (intro g1 g2; simp [g1, g2]; done) | (intro g1; simp at g1 ⊢; simp [g1]; done) | (simp only [nrmT] at *; omega) | (simp at * <;> omega) | (simp_all <;> omega) | (simp_all; done)
      · first | omega | rfl | (intro hg; simp only [nrmT] at hg; omega) | (intro g1 g2; simp [g1, g2]; done) | (intro g1; simp at g1 ⊢; simp [g1]; done) | (simp only [nrmT] at *; omega) | (simp at * <;> omega) | (simp_all <;> omega) | (simp_all; done)
      · simp
    · simp
  · intro out i hJ
    obtain ⟨h1, h2, h3⟩ := hJ
    refine ⟨?_, ?_⟩
    · intro b1
      try simp only [nrmT] at b1
      refine ⟨?_, ?_, ?_, ?_, ?_, ?_, ?_, ?_⟩
      · first | omega | rfl | (intro hg; simp only [nrmT] at hg; omega) | (intro g1 g2; simp [g1, g2]; done) | (intro g1; simp at g1 ⊢; simp [g1]; done) | (simp only [nrmT] at *; omega) | (simp at * <;> omega) | (simp_all <;> omega) | (simp_all; done)
      · first | omega | rfl | (intro hg; simp only [nrmT] at hg; omega) | (intro g1 g2; simp [g1, g2]; done) | (intro g1; simp at g1 ⊢; simp [g1]; done) | (simp only [nrmT] at *; omega) | (simp at * <;> omega) | (simp_all <;> omega) | (simp_all; done)
      · first | omega | rfl | (intro hg; simp only [nrmT] at hg; omega) | (intro g1 g2; simp [g1, g2]; done) | (intro g1; simp at g1 ⊢; simp [g1]; done) | (simp only [nrmT] at *; omega) | (simp at * <;> omega) | (simp_all <;> omega) | (simp_all; done)
      · first | omega | rfl | (intro hg; simp only [nrmT] at hg; omega) | (intro g1 g2; simp [g1, g2]; done) | (intro g1; simp at g1 ⊢; simp [g1]; done) | (simp only [nrmT] at *; omega) | (simp at * <;> omega) | (simp_all <;> omega) | (simp_all; done)
      · have e : out.length = xs.length := by rw [h3]; exact copy_len (by omega) (by simp)
        omega
      · have e : out.length = xs.length := by rw [h3]; exact copy_len (by omega) (by simp)
        omega
      · first | omega | rfl | (intro hg; simp only [nrmT] at hg; omega) | (intro g1 g2; simp [g1, g2]; done) | (intro g1; simp at g1 ⊢; simp [g1]; done) | (simp only [nrmT] at *; omega) | (simp at * <;> omega) | (simp_all <;> omega) | (simp_all; done)
      · refine ⟨(out.set i.toNat (xs.getD i.toNat 0)), (i + 1), ?_⟩
        refine ⟨?_, ?_, rfl, ?_, rfl, rfl⟩
        · refine ⟨?_, ?_, ?_⟩
          · first | omega | rfl | (intro hg; simp only [nrmT] at hg; omega) | (intro g1 g2; simp [g1, g2]; done) | (intro g1; simp at g1 ⊢; simp [g1]; done) | (simp only [nrmT] at *; omega) | (simp at * <;> omega) | (simp_all <;> omega) | (simp_all; done)
          · first | omega | rfl | (intro hg; simp only [nrmT] at hg; omega) | (intro g1 g2; simp [g1, g2]; done) | (intro g1; simp at g1 ⊢; simp [g1]; done) | (simp only [nrmT] at *; omega) | (simp at * <;> omega) | (simp_all <;> omega) | (simp_all; done)
          · rw [h3]; exact copy_step h1 b1 (by simp)
        · first | (show _ < _; omega) | (simp only [l_toIntS_mJ0]; omega) | (simp only [l_toIntS_mJ0] at *; simp at *; omega)
        · simp
    · intro b2
      try simp only [nrmT] at b2
      refine ⟨rfl, ?_⟩
      · rw [h3, take_all (by omega)]; simp; omega
theorem l_toIntS_pc (xs : List Int) (hn : xs.length ≤ 1048576) : PC Try.prog 38 [.sl (.ints xs)] (.one (.d (.sl (.ints xs)))) :=
  pc_wf @Try.call38 fun hw => pc_by (by kernel_rfl) Try.func38 @Try.call38 (by kernel_rfl) l_toIntS_C (l_toIntS_A xs) (by kernel_rfl) (l_toIntS_vc xs hn hw.1) (by kernel_rfl)
def l_toIntS_orc : List D → Orc := orcN [some .ints] fun ds => match ds with
  | [.sl (.ints xs)] => some (.one (.d (.sl (.ints xs))))
  | _ => none
abbrev l_toIntSS_JJ0 (xss : List (List Int)) (out : List (List Int)) (i : Int) : Prop := (0 ≤ i) ∧ (i ≤ (xss.length : Int)) ∧ (out = xss.take i.toNat ++ (List.replicate xss.length []).drop i.toNat)
abbrev l_toIntSS_mJ0 (xss : List (List Int)) (out : List (List Int)) (i : Int) : Nat := (xss.length - i).toNat
def l_toIntSS_C (f : FuncId) (ds : List D) : Orc := bif Nat.beq f 38 then l_toIntS_orc ds else .no
def l_toIntSS_A (xss : List (List Int)) : Ann := .two (.none) (.two (.none) (.two (.two (.none) (.loop (cut2 (fun (out : List (List Int)) (i : Int) => l_toIntSS_JJ0 xss out i) (fun (out : List (List Int)) (i : Int) => [(0, .d false (.sl (.rows xss))), (3, .own 7 out.length), (4, .d true (.int .i64 i))]) (fun (out : List (List Int)) (i : Int) => [(7, .arr true 26 (.rows out))])) (fun g => l_toIntSS_mJ0 xss g.1 g.2) (fun _ => .none))) (.none)))
def l_toIntSS_P (xss : List (List Int)) : Prop :=
  ((xss.length : Int) = (xss.length : Int)) ∧ ((0 : Int) ≤ (xss.length : Int)) ∧ (((xss.length : Int) : Int) * ((24 : Nat) : Int) ≤ 140737488355328) ∧ ((∃ out' : List (List Int), ∃ i' : Int, (l_toIntSS_JJ0 xss out' i') ∧ (xss = xss) ∧ ((xss.length : Int).toNat = out'.length) ∧ ((0 : Int) = i') ∧ ((List.replicate ((xss.length : Int).toNat) ([] : List Int)) = out')) ∧ (∀ out : List (List Int), ∀ i : Int, (l_toIntSS_JJ0 xss out i) → (((decide (i < (xss.length : Int))) = true → ((0 : Int) ≤ i) ∧ ((i : Int) < xss.length) ∧ (i.toNat < xss.length) ∧ (PC Try.prog 38 [.sl (.ints (xss.getD i.toNat []))] (.one (.d (.sl (.ints (xss.getD i.toNat [])))))) ∧ ((0 : Int) ≤ i) ∧ ((i : Int) < (out.length : Int)) ∧ (i.toNat < out.length) ∧ (-9223372036854775808 ≤ (i + 1) ∧ (i + 1) ≤ 9223372036854775807) ∧ (∃ out' : List (List Int), ∃ i' : Int, (l_toIntSS_JJ0 xss out' i') ∧ (l_toIntSS_mJ0 xss out' i' < l_toIntSS_mJ0 xss out i) ∧ (xss = xss) ∧ (out.length = out'.length) ∧ ((i + 1) = i') ∧ ((out.set i.toNat (xss.getD i.toNat [])) = out'))) ∧ ((decide (i < (xss.length : Int))) = false → ((out.length = out.length) ∧ ((out : List (List Int)) = xss))))))
theorem l_toIntSS_vc (xss : List (List Int)) (hn : xss.length ≤ 1048576) (hm : ∀ xs ∈ xss, xs.length ≤ 1048576) (w_xss : (xss.length : Int) ≤ 9223372036854775807) (v_xss : ∀ x9 ∈ xss, (x9.length : Int) ≤ 9223372036854775807) : l_toIntSS_P xss := by
  unfold l_toIntSS_P
  refine ⟨rfl, ?_, ?_, ?_, ?_⟩
  · first | omega | rfl | (intro hg; simp only [nrmT] at hg; omega) | (intro g1 g2; simp [g1, g2]; done) | (intro g1; simp at g1 ⊢; simp [g1]; done) | (simp only [nrmT] at *; omega) | (simp at * <;> omega) | (simp_all <;> omega) | (simp_all; done)
  · first | omega | rfl | (intro hg; simp only [nrmT] at hg; omega) | (intro g1 g2; simp [g1, g2]; done) | (intro g1; simp at g1 ⊢; simp [g1]; done) | (simp only [nrmT] at *; omega) | (simp at * <;> omega) | (simp_all <;> omega) | (simp_all; done)
  · refine ⟨(List.replicate ((xss.length : Int).toNat) ([] : List Int)), 0, ?_⟩
    refine ⟨?_, rfl, ?_, rfl, rfl⟩
    · refine ⟨?_, ?_, ?_⟩
      · first | omega | rfl | (intro hg; simp only [nrmT] at hg; omega) | (intro g1 g2; simp [g1, g2]; done) | (intro g1; simp at g1 ⊢; simp [g1]; done) | (simp only [nrmT] at *; omega) | (simp at * <;> omega) | (simp_all <;> omega) | (simp_all; done)
      · first | omega | rfl | (intro hg; simp only [nrmT] at hg; omega) | (intro g1 g2; simp [g1, g2]; done) | (intro g1; simp at g1 ⊢; simp [g1]; done) | (simp only [nrmT] at *; omega) | (simp at * <;> omega) | (simp_all <;> omega) | (simp_all; done)
      · simp
    · simp
  · intro out i hJ
    obtain ⟨h1, h2, h3⟩ := hJ
    refine ⟨?_, ?_⟩
    · intro b1
      try simp only [nrmT] at b1
      refine ⟨?_, ?_, ?_, ?_, ?_, ?_, ?_, ?_, ?_⟩
      · first | omega | rfl | (intro hg; simp only [nrmT] at hg; omega) | (intro g1 g2; simp [g1, g2]; done) | (intro g1; simp at g1 ⊢; simp [g1]; done) | (simp only [nrmT] at *; omega) | (simp at * <;> omega) | (simp_all <;> omega) | (simp_all; done)
      · first | omega | rfl | (intro hg; simp only [nrmT] at hg; omega) | (intro g1 g2; simp [g1, g2]; done) | (intro g1; simp at g1 ⊢; simp [g1]; done) | (simp only [nrmT] at *; omega) | (simp at * <;> omega) | (simp_all <;> omega) | (simp_all; done)
      · first | omega | rfl | (intro hg; simp only [nrmT] at hg; omega) | (intro g1 g2; simp [g1, g2]; done) | (intro g1; simp at g1 ⊢; simp [g1]; done) | (simp only [nrmT] at *; omega) | (simp at * <;> omega) | (simp_all <;> omega) | (simp_all; done)
      · refine l_toIntS_pc (xss.getD i.toNat []) ?_
        · exact hm _ (getD_memI h1 b1)
      · first | omega | rfl | (intro hg; simp only [nrmT] at hg; omega) | (intro g1 g2; simp [g1, g2]; done) | (intro g1; simp at g1 ⊢; simp [g1]; done) | (simp only [nrmT] at *; omega) | (simp at * <;> omega) | (simp_all <;> omega) | (simp_all; done)
      · have e : out.length = xss.length := by rw [h3]; exact copy_len (by omega) (by simp)
        omega
      · have e : out.length = xss.length := by rw [h3]; exact copy_len (by omega) (by simp)
        omega
      · first | omega | rfl | (intro hg; simp only [nrmT] at hg; omega) | (intro g1 g2; simp [g1, g2]; done) | (intro g1; simp at g1 ⊢; simp [g1]; done) | (simp only [nrmT] at *; omega) | (simp at * <;> omega) | (simp_all <;> omega) | (simp_all; done)
      · refine ⟨(out.set i.toNat (xss.getD i.toNat [])), (i + 1), ?_⟩
        refine ⟨?_, ?_, rfl, ?_, rfl, rfl⟩
        · refine ⟨?_, ?_, ?_⟩
          · first | omega | rfl | (intro hg; simp only [nrmT] at hg; omega) | (intro g1 g2; simp [g1, g2]; done) | (intro g1; simp at g1 ⊢; simp [g1]; done) | (simp only [nrmT] at *; omega) | (simp at * <;> omega) | (simp_all <;> omega) | (simp_all; done)
          · first | omega | rfl | (intro hg; simp only [nrmT] at hg; omega) | (intro g1 g2; simp [g1, g2]; done) | (intro g1; simp at g1 ⊢; simp [g1]; done) | (simp only [nrmT] at *; omega) | (simp at * <;> omega) | (simp_all <;> omega) | (simp_all; done)
          · rw [h3]; exact copy_step h1 b1 (by simp)
        · first | (show _ < _; omega) | (simp only [l_toIntSS_mJ0]; omega) | (simp only [l_toIntSS_mJ0] at *; simp at *; omega)
        · simp
    · intro b2
      try simp only [nrmT] at b2
      refine ⟨rfl, ?_⟩
      · rw [h3, take_all (by omega)]; simp; omega
theorem l_toIntSS_pc (xss : List (List Int)) (hn : xss.length ≤ 1048576) (hm : ∀ xs ∈ xss, xs.length ≤ 1048576) : PC Try.prog 67 [.sl (.rows xss)] (.one (.d (.sl (.rows xss)))) :=
  pc_wf @Try.call67 fun hw => pc_by (by kernel_rfl) Try.func67 @Try.call67 (by kernel_rfl) l_toIntSS_C (l_toIntSS_A xss) (by kernel_rfl) (l_toIntSS_vc xss hn hm hw.1.1 hw.1.2) (by kernel_rfl)
def l_toIntSS_orc : List D → Orc := orcN [some .rows] fun ds => match ds with
  | [.sl (.rows xss)] => some (.one (.d (.sl (.rows xss))))
  | _ => none
def l_toSystem_C (f : FuncId) (ds : List D) : Orc := bif Nat.beq f 67 then l_toIntSS_orc ds else bif Nat.beq f 38 then l_toIntS_orc ds else .no
def l_toSystem_A (Size : Int) (Sets : List (List Int)) (Costs : List Int) : Ann := .none
def l_toSystem_P (Size : Int) (Sets : List (List Int)) (Costs : List Int) : Prop :=
  (PC Try.prog 67 [.sl (.rows Sets)] (.one (.d (.sl (.rows Sets))))) ∧ (PC Try.prog 38 [.sl (.ints Costs)] (.one (.d (.sl (.ints Costs))))) ∧ (((.agg [.int .i64 Size, .sl (.rows Sets), .sl (.ints Costs)] : D) = .agg [.int .i64 Size, .sl (.rows Sets), .sl (.ints Costs)]))
theorem l_toSystem_vc (Size : Int) (Sets : List (List Int)) (Costs : List Int) (h1 : Sets.length ≤ 1048576) (h2 : ∀ xs ∈ Sets, xs.length ≤ 1048576) (h3 : Costs.length ≤ 1048576) (w_Sets : (Sets.length : Int) ≤ 9223372036854775807) (v_Sets : ∀ x9 ∈ Sets, (x9.length : Int) ≤ 9223372036854775807) (w_Costs : (Costs.length : Int) ≤ 9223372036854775807) : l_toSystem_P Size Sets Costs := by
  unfold l_toSystem_P
  refine ⟨?_, ?_, rfl⟩
  · refine l_toIntSS_pc Sets ?_ ?_
    · assumption
    · assumption
  · refine l_toIntS_pc Costs ?_
    · assumption
theorem l_toSystem_pc (Size : Int) (Sets : List (List Int)) (Costs : List Int) (h1 : Sets.length ≤ 1048576) (h2 : ∀ xs ∈ Sets, xs.length ≤ 1048576) (h3 : Costs.length ≤ 1048576) : PC Try.prog 57 [.agg [.int .i64 Size, .sl (.rows Sets), .sl (.ints Costs)]] (.one (.d (.agg [.int .i64 Size, .sl (.rows Sets), .sl (.ints Costs)]))) :=
  pc_wf @Try.call57 fun hw => pc_by (by kernel_rfl) Try.func57 @Try.call57 (by kernel_rfl) l_toSystem_C (l_toSystem_A Size Sets Costs) (by kernel_rfl) (l_toSystem_vc Size Sets Costs h1 h2 h3 hw.1.2.1.1 hw.1.2.1.2 hw.1.2.2.1) (by kernel_rfl)
def l_toSystem_orc : List D → Orc := orcN [none] fun ds => match ds with
  | [.agg [.int .i64 Size, .sl (.rows Sets), .sl (.ints Costs)]] => some (.one (.d (.agg [.int .i64 Size, .sl (.rows Sets), .sl (.ints Costs)])))
  | _ => none
def szSys (sets : List (List Int)) (costs : List Int) (left : Int) : Int := if szRows sets left < 0 then -1 else if sz1 costs.length (szRows sets left) < 0 then -1 else sz1 costs.length (szRows sets left)
theorem szSys_bound {sets : List (List Int)} {costs : List Int} {left : Int} (h : 0 ≤ szSys sets costs left) : (sets.length : Int) ≤ left ∧ (∀ xs ∈ sets, (xs.length : Int) ≤ left) ∧ (costs.length : Int) ≤ left := by
  unfold szSys at h
  by_cases h1 : szRows sets left < 0
  · rw [if_pos h1] at h; omega
  · rw [if_neg h1] at h
    obtain ⟨a1, a2, a3⟩ := szRows_bound (by omega : 0 ≤ szRows sets left)
    by_cases h2 : sz1 costs.length (szRows sets left) < 0
    · rw [if_pos h2] at h; omega
    · obtain ⟨b1, b2⟩ := sz1_bound (by omega : 0 ≤ sz1 costs.length (szRows sets left))
      exact ⟨a2, a3, by omega⟩
def l_szSystem_C (f : FuncId) (ds : List D) : Orc := bif Nat.beq f 65 then l_szIntSS_orc ds else bif Nat.beq f 98 then l_szIntS_orc ds else .no
def l_szSystem_A (Size : Int) (Sets : List (List Int)) (Costs : List Int) (left : Int) : Ann := .none
def l_szSystem_P (Size : Int) (Sets : List (List Int)) (Costs : List Int) (left : Int) : Prop :=
  (PC Try.prog 65 [.sl (.rows Sets), .int .i64 left] (.one (.d (.int .i64 (szRows Sets left))))) ∧ (((decide ((szRows Sets left) < 0)) = true → ((((-1) : Int) = (szSys Sets Costs left)))) ∧ ((decide ((szRows Sets left) < 0)) = false → (PC Try.prog 98 [.sl (.ints Costs), .int .i64 (szRows Sets left)] (.one (.d (.int .i64 (sz1 Costs.length (szRows Sets left)))))) ∧ (((decide ((sz1 Costs.length (szRows Sets left)) < 0)) = true → ((((-1) : Int) = (szSys Sets Costs left)))) ∧ ((decide ((sz1 Costs.length (szRows Sets left)) < 0)) = false → (((sz1 Costs.length (szRows Sets left)) = (szSys Sets Costs left)))))))
theorem l_szSystem_vc (Size : Int) (Sets : List (List Int)) (Costs : List Int) (left : Int) (hl : 0 ≤ left ∧ left ≤ 1048576) (w_Sets : (Sets.length : Int) ≤ 9223372036854775807) (v_Sets : ∀ x9 ∈ Sets, (x9.length : Int) ≤ 9223372036854775807) (w_Costs : (Costs.length : Int) ≤ 9223372036854775807) : l_szSystem_P Size Sets Costs left := by
  unfold l_szSystem_P
  refine ⟨?_, ?_, ?_⟩
  · refine l_szIntSS_pc Sets left ?_
    · first | omega | rfl | (intro hg; simp only [nrmT] at hg; omega) | (intro g1 g2; simp [g1, g2]; done) | (intro g1; simp at g1 ⊢; simp [g1]; done) | (simp only [nrmT] at *; omega) | (simp at * <;> omega) | (simp_all <;> omega) | (simp_all; done)
  · intro b1
    try simp only [nrmT] at b1
    unfold szSys; first | rw [if_pos (by omega)] | rw [if_neg (by omega), if_pos (by omega)] | rw [if_neg (by omega), if_neg (by omega)]
  · intro b2
    try simp only [nrmT] at b2
    refine ⟨?_, ?_, ?_⟩
    · refine l_szIntS_pc Costs (szRows Sets left) ?_
      · have := szRows_bound (xss := Sets) (left := left) (by omega); omega
    · intro b3
      try simp only [nrmT] at b3
      unfold szSys; first | rw [if_pos (by omega)] | rw [if_neg (by omega), if_pos (by omega)] | rw [if_neg (by omega), if_neg (by omega)]
    · intro b4
      try simp only [nrmT] at b4
      unfold szSys; first | rw [if_pos (by omega)] | rw [if_neg (by omega), if_pos (by omega)] | rw [if_neg (by omega), if_neg (by omega)]
theorem l_szSystem_pc (Size : Int) (Sets : List (List Int)) (Costs : List Int) (left : Int) (hl : 0 ≤ left ∧ left ≤ 1048576) : PC Try.prog 55 [.agg [.int .i64 Size, .sl (.rows Sets), .sl (.ints Costs)], .int .i64 left] (.one (.d (.int .i64 (szSys Sets Costs left)))) :=
  pc_wf @Try.call55 fun hw => pc_by (by kernel_rfl) Try.func55 @Try.call55 (by kernel_rfl) l_szSystem_C (l_szSystem_A Size Sets Costs left) (by kernel_rfl) (l_szSystem_vc Size Sets Costs left hl hw.1.2.1.1 hw.1.2.1.2 hw.1.2.2.1) (by kernel_rfl)
def l_szSystem_orc : List D → Orc := orcN [none, none] fun ds => match ds with
  | [.agg [.int .i64 Size, .sl (.rows Sets), .sl (.ints Costs)], .int .i64 left] => some (.one (.d (.int .i64 (szSys Sets Costs left))))
  | _ => none
theorem beq_of_all {α : Type} [BEq α] [LawfulBEq α] {d : α} {xs ys : List α} (hl : xs.length = ys.length) : allTo (fun k => xs.getD k d == ys.getD k d) xs.length = (xs == ys) := by
  rw [Bool.eq_iff_iff, allTo_iff]
  simp only [beq_iff_eq]
  constructor
  · intro h
    refine List.ext_getElem hl fun k h1 h2 => ?_
    have := h k h1
    simpa [h1, h2] using this
  · intro h k _
    rw [h]
theorem len_ne {α : Type} [BEq α] [LawfulBEq α] {xs ys : List α} (h : ¬ xs.length = ys.length) : (xs == ys) = false := by
  rw [Bool.eq_false_iff]; intro h2; simp only [beq_iff_eq] at h2; exact h (by rw [h2])
abbrev l_eqIntS_JJ0 (xs : List Int) (ys : List Int) (i : Int) : Prop := (0 ≤ i) ∧ (i ≤ (xs.length : Int)) ∧ (allTo (fun k => xs.getD k 0 == ys.getD k 0) i.toNat = true) ∧ (xs.length = ys.length)
abbrev l_eqIntS_mJ0 (xs : List Int) (ys : List Int) (i : Int) : Nat := (xs.length - i).toNat
def l_eqIntS_C (f : FuncId) (ds : List D) : Orc := .no
def l_eqIntS_A (xs : List Int) (ys : List Int) : Ann := .two (.none) (.two (.none) (.two (.two (.none) (.loop (cut1 (fun (i : Int) => l_eqIntS_JJ0 xs ys i) (fun (i : Int) => [(0, .d false (.sl (.ints xs))), (1, .d false (.sl (.ints ys))), (5, .d true (.int .i64 i))]) (fun (i : Int) => [])) (fun g => l_eqIntS_mJ0 xs ys g) (fun _ => .none))) (.none)))
def l_eqIntS_P (xs : List Int) (ys : List Int) : Prop :=
  ((((xs.length : Int) != (ys.length : Int)) = true → ((false = (xs == ys)))) ∧ (((xs.length : Int) != (ys.length : Int)) = false → ((∃ i' : Int, (l_eqIntS_JJ0 xs ys i') ∧ (xs = xs) ∧ (ys = ys) ∧ ((0 : Int) = i')) ∧ (∀ i : Int, (l_eqIntS_JJ0 xs ys i) → (((decide (i < (xs.length : Int))) = true → (true = true) ∧ ((0 : Int) ≤ i) ∧ ((i : Int) < xs.length) ∧ (i.toNat < xs.length) ∧ ((0 : Int) ≤ i) ∧ ((i : Int) < ys.length) ∧ (i.toNat < ys.length) ∧ ((((xs.getD i.toNat 0) != (ys.getD i.toNat 0)) = true → ((false = (xs == ys)))) ∧ (((xs.getD i.toNat 0) != (ys.getD i.toNat 0)) = false → (-9223372036854775808 ≤ (i + 1) ∧ (i + 1) ≤ 9223372036854775807) ∧ (∃ i' : Int, (l_eqIntS_JJ0 xs ys i') ∧ (l_eqIntS_mJ0 xs ys i' < l_eqIntS_mJ0 xs ys i) ∧ (xs = xs) ∧ (ys = ys) ∧ ((i + 1) = i'))))) ∧ ((decide (i < (xs.length : Int))) = false → ((true = (xs == ys)))))))))
theorem l_eqIntS_vc (xs : List Int) (ys : List Int)  (w_xs : (xs.length : Int) ≤ 9223372036854775807) (w_ys : (ys.length : Int) ≤ 9223372036854775807) : l_eqIntS_P xs ys := by
  unfold l_eqIntS_P
  refine ⟨?_, ?_⟩
  · intro b1
    try simp only [nrmT] at b1
    exact (len_ne (by omega)).symm
  · intro b2
    try simp only [nrmT] at b2
    refine ⟨?_, ?_⟩
    · refine ⟨0, ?_⟩
      refine ⟨?_, rfl, rfl, rfl⟩
      · refine ⟨?_, ?_, ?_, ?_⟩
        · first | omega | rfl | (intro hg; simp only [nrmT] at hg; omega) | (intro g1 g2; simp [g1, g2]; done) | (intro g1; simp at g1 ⊢; simp [g1]; done) | (simp only [nrmT] at *; omega) | (simp at * <;> omega) | (simp_all <;> omega) | (simp_all; done)
        · first | omega | rfl | (intro hg; simp only [nrmT] at hg; omega) | (intro g1 g2; simp [g1, g2]; done) | (intro g1; simp at g1 ⊢; simp [g1]; done) | (simp only [nrmT] at *; omega) | (simp at * <;> omega) | (simp_all <;> omega) | (simp_all; done)
        · first | omega | rfl | (intro hg; simp only [nrmT] at hg; omega) | (intro g1 g2; simp [g1, g2]; done) | (intro g1; simp at g1 ⊢; simp [g1]; done) | (simp only [nrmT] at *; omega) | (simp at * <;> omega) | (simp_all <;> omega) | (simp_all; done)
        · first | omega | rfl | (intro hg; simp only [nrmT] at hg; omega) | (intro g1 g2; simp [g1, g2]; done) | (intro g1; simp at g1 ⊢; simp [g1]; done) | (simp only [nrmT] at *; omega) | (simp at * <;> omega) | (simp_all <;> omega) | (simp_all; done)
    · intro i hJ
      obtain ⟨h1, h2, h3, h4⟩ := hJ
      refine ⟨?_, ?_⟩
      · intro b3
        try simp only [nrmT] at b3
        refine ⟨rfl, ?_, ?_, ?_, ?_, ?_, ?_, ?_, ?_⟩
        · first | omega | rfl | (intro hg; simp only [nrmT] at hg; omega) | (intro g1 g2; simp [g1, g2]; done) | (intro g1; simp at g1 ⊢; simp [g1]; done) | (simp only [nrmT] at *; omega) | (simp at * <;> omega) | (simp_all <;> omega) | (simp_all; done)
        · first | omega | rfl | (intro hg; simp only [nrmT] at hg; omega) | (intro g1 g2; simp [g1, g2]; done) | (intro g1; simp at g1 ⊢; simp [g1]; done) | (simp only [nrmT] at *; omega) | (simp at * <;> omega) | (simp_all <;> omega) | (simp_all; done)
        · first | omega | rfl | (intro hg; simp only [nrmT] at hg; omega) | (intro g1 g2; simp [g1, g2]; done) | (intro g1; simp at g1 ⊢; simp [g1]; done) | (simp only [nrmT] at *; omega) | (simp at * <;> omega) | (simp_all <;> omega) | (simp_all; done)
        · first | omega | rfl | (intro hg; simp only [nrmT] at hg; omega) | (intro g1 g2; simp [g1, g2]; done) | (intro g1; simp at g1 ⊢; simp [g1]; done) | (simp only [nrmT] at *; omega) | (simp at * <;> omega) | (simp_all <;> omega) | (simp_all; done)
        · first | omega | rfl | (intro hg; simp only [nrmT] at hg; omega) | (intro g1 g2; simp [g1, g2]; done) | (intro g1; simp at g1 ⊢; simp [g1]; done) | (simp only [nrmT] at *; omega) | (simp at * <;> omega) | (simp_all <;> omega) | (simp_all; done)
        · first | omega | rfl | (intro hg; simp only [nrmT] at hg; omega) | (intro g1 g2; simp [g1, g2]; done) | (intro g1; simp at g1 ⊢; simp [g1]; done) | (simp only [nrmT] at *; omega) | (simp at * <;> omega) | (simp_all <;> omega) | (simp_all; done)
        · intro b4
          try simp only [nrmT] at b4
          rw [← beq_of_all (d := 0) h4]; exact (allTo_falseI h1 (by omega) (by simpa using b4)).symm
        · intro b5
          try simp only [nrmT] at b5
          refine ⟨?_, ?_⟩
          · first | omega | rfl | (intro hg; simp only [nrmT] at hg; omega) | (intro g1 g2; simp [g1, g2]; done) | (intro g1; simp at g1 ⊢; simp [g1]; done) | (simp only [nrmT] at *; omega) | (simp at * <;> omega) | (simp_all <;> omega) | (simp_all; done)
          · refine ⟨(i + 1), ?_⟩
            refine ⟨?_, ?_, rfl, rfl, rfl⟩
            · refine ⟨?_, ?_, ?_, ?_⟩
              · first | omega | rfl | (intro hg; simp only [nrmT] at hg; omega) | (intro g1 g2; simp [g1, g2]; done) | (intro g1; simp at g1 ⊢; simp [g1]; done) | (simp only [nrmT] at *; omega) | (simp at * <;> omega) | (simp_all <;> omega) | (simp_all; done)
              · first | omega | rfl | (intro hg; simp only [nrmT] at hg; omega) | (intro g1 g2; simp [g1, g2]; done) | (intro g1; simp at g1 ⊢; simp [g1]; done) | (simp only [nrmT] at *; omega) | (simp at * <;> omega) | (simp_all <;> omega) | (simp_all; done)
              · exact allTo_step h1 h3 (by simpa using b5)
              · first | omega | rfl | (intro hg; simp only [nrmT] at hg; omega) | (intro g1 g2; simp [g1, g2]; done) | (intro g1; simp at g1 ⊢; simp [g1]; done) | (simp only [nrmT] at *; omega) | (simp at * <;> omega) | (simp_all <;> omega) | (simp_all; done)
            · first | (show _ < _; omega) | (simp only [l_eqIntS_mJ0]; omega) | (simp only [l_eqIntS_mJ0] at *; simp at *; omega)
      · intro b6
        try simp only [nrmT] at b6
        rw [← beq_of_all (d := 0) h4, ← h3]; congr 1; omega
theorem l_eqIntS_pc (xs : List Int) (ys : List Int)  : PC Try.prog 32 [.sl (.ints xs), .sl (.ints ys)] (.one (.d (.bool (xs == ys)))) :=
  pc_wf @Try.call32 fun hw => pc_by (by kernel_rfl) Try.func32 @Try.call32 (by kernel_rfl) l_eqIntS_C (l_eqIntS_A xs ys) (by kernel_rfl) (l_eqIntS_vc xs ys hw.1 hw.2.1) (by kernel_rfl)
def l_eqIntS_orc : List D → Orc := orcN [some .ints, some .ints] fun ds => match ds with
  | [.sl (.ints xs), .sl (.ints ys)] => some (.one (.d (.bool (xs == ys))))
  | _ => none
abbrev l_eqIntSS_JJ0 (xs : List (List Int)) (ys : List (List Int)) (i : Int) : Prop := (0 ≤ i) ∧ (i ≤ (xs.length : Int)) ∧ (allTo (fun k => xs.getD k [] == ys.getD k []) i.toNat = true) ∧ (xs.length = ys.length)
abbrev l_eqIntSS_mJ0 (xs : List (List Int)) (ys : List (List Int)) (i : Int) : Nat := (xs.length - i).toNat
def l_eqIntSS_C (f : FuncId) (ds : List D) : Orc := bif Nat.beq f 32 then l_eqIntS_orc ds else .no
def l_eqIntSS_A (xs : List (List Int)) (ys : List (List Int)) : Ann := .two (.none) (.two (.none) (.two (.two (.none) (.loop (cut1 (fun (i : Int) => l_eqIntSS_JJ0 xs ys i) (fun (i : Int) => [(0, .d false (.sl (.rows xs))), (1, .d false (.sl (.rows ys))), (5, .d true (.int .i64 i))]) (fun (i : Int) => [])) (fun g => l_eqIntSS_mJ0 xs ys g) (fun _ => .none))) (.none)))
def l_eqIntSS_P (xs : List (List Int)) (ys : List (List Int)) : Prop :=
  ((((xs.length : Int) != (ys.length : Int)) = true → ((false = (xs == ys)))) ∧ (((xs.length : Int) != (ys.length : Int)) = false → ((∃ i' : Int, (l_eqIntSS_JJ0 xs ys i') ∧ (xs = xs) ∧ (ys = ys) ∧ ((0 : Int) = i')) ∧ (∀ i : Int, (l_eqIntSS_JJ0 xs ys i) → (((decide (i < (xs.length : Int))) = true → (true = true) ∧ ((0 : Int) ≤ i) ∧ ((i : Int) < xs.length) ∧ (i.toNat < xs.length) ∧ ((0 : Int) ≤ i) ∧ ((i : Int) < ys.length) ∧ (i.toNat < ys.length) ∧ (PC Try.prog 32 [.sl (.ints (xs.getD i.toNat [])), .sl (.ints (ys.getD i.toNat []))] (.one (.d (.bool ((xs.getD i.toNat []) == (ys.getD i.toNat [])))))) ∧ (((!((xs.getD i.toNat []) == (ys.getD i.toNat []))) = true → ((false = (xs == ys)))) ∧ ((!((xs.getD i.toNat []) == (ys.getD i.toNat []))) = false → (-9223372036854775808 ≤ (i + 1) ∧ (i + 1) ≤ 9223372036854775807) ∧ (∃ i' : Int, (l_eqIntSS_JJ0 xs ys i') ∧ (l_eqIntSS_mJ0 xs ys i' < l_eqIntSS_mJ0 xs ys i) ∧ (xs = xs) ∧ (ys = ys) ∧ ((i + 1) = i'))))) ∧ ((decide (i < (xs.length : Int))) = false → ((true = (xs == ys)))))))))
theorem l_eqIntSS_vc (xs : List (List Int)) (ys : List (List Int))  (w_xs : (xs.length : Int) ≤ 9223372036854775807) (v_xs : ∀ x9 ∈ xs, (x9.length : Int) ≤ 9223372036854775807) (w_ys : (ys.length : Int) ≤ 9223372036854775807) (v_ys : ∀ x9 ∈ ys, (x9.length : Int) ≤ 9223372036854775807) : l_eqIntSS_P xs ys := by
  unfold l_eqIntSS_P
  refine ⟨?_, ?_⟩
  · intro b1
    try simp only [nrmT] at b1
    exact (len_ne (by omega)).symm
  · intro b2
    try simp only [nrmT] at b2
    refine ⟨?_, ?_⟩
    · refine ⟨0, ?_⟩
      refine ⟨?_, rfl, rfl, rfl⟩
      · refine ⟨?_, ?_, ?_, ?_⟩
        · first | omega | rfl | (intro hg; simp only [nrmT] at hg; omega) | (intro g1 g2; simp [g1, g2]; done) | (intro g1; simp at g1 ⊢; simp [g1]; done) | (simp only [nrmT] at *; omega) | (simp at * <;> omega) | (simp_all <;> omega) | (simp_all; done)
        · first | omega | rfl | (intro hg; simp only [nrmT] at hg; omega) | (intro g1 g2; simp [g1, g2]; done) | (intro g1; simp at g1 ⊢; simp [g1]; done) | (simp only [nrmT] at *; omega) | (simp at * <;> omega) | (simp_all <;> omega) | (simp_all; done)
        · first | omega | rfl | (intro hg; simp only [nrmT] at hg; omega) | (intro g1 g2; simp [g1, g2]; done) | (intro g1; simp at g1 ⊢; simp [g1]; done) | (simp only [nrmT] at *; omega) | (simp at * <;> omega) | (simp_all <;> omega) | (simp_all; done)
        · first | omega | rfl | (intro hg; simp only [nrmT] at hg; omega) | (intro g1 g2; simp [g1, g2]; done) | (intro g1; simp at g1 ⊢; simp [g1]; done) | (simp only [nrmT] at *; omega) | (simp at * <;> omega) | (simp_all <;> omega) | (simp_all; done)
    · intro i hJ
      obtain ⟨h1, h2, h3, h4⟩ := hJ
      refine ⟨?_, ?_⟩
      · intro b3
        try simp only [nrmT] at b3
        refine ⟨rfl, ?_, ?_, ?_, ?_, ?_, ?_, l_eqIntS_pc (xs.getD i.toNat []) (ys.getD i.toNat []), ?_, ?_⟩
        · first | omega | rfl | (intro hg; simp only [nrmT] at hg; omega) | (intro g1 g2; simp [g1, g2]; done) | (intro g1; simp at g1 ⊢; simp [g1]; done) | (simp only [nrmT] at *; omega) | (simp at * <;> omega) | (simp_all <;> omega) | (simp_all; done)
        · first | omega | rfl | (intro hg; simp only [nrmT] at hg; omega) | (intro g1 g2; simp [g1, g2]; done) | (intro g1; simp at g1 ⊢; simp [g1]; done) | (simp only [nrmT] at *; omega) | (simp at * <;> omega) | (simp_all <;> omega) | (simp_all; done)
        · first | omega | rfl | (intro hg; simp only [nrmT] at hg; omega) | (intro g1 g2; simp [g1, g2]; done) | (intro g1; simp at g1 ⊢; simp [g1]; done) | (simp only [nrmT] at *; omega) | (simp at * <;> omega) | (simp_all <;> omega) | (simp_all; done)
        · first | omega | rfl | (intro hg; simp only [nrmT] at hg; omega) | (intro g1 g2; simp [g1, g2]; done) | (intro g1; simp at g1 ⊢; simp [g1]; done) | (simp only [nrmT] at *; omega) | (simp at * <;> omega) | (simp_all <;> omega) | (simp_all; done)
        · first | omega | rfl | (intro hg; simp only [nrmT] at hg; omega) | (intro g1 g2; simp [g1, g2]; done) | (intro g1; simp at g1 ⊢; simp [g1]; done) | (simp only [nrmT] at *; omega) | (simp at * <;> omega) | (simp_all <;> omega) | (simp_all; done)
        · first | omega | rfl | (intro hg; simp only [nrmT] at hg; omega) | (intro g1 g2; simp [g1, g2]; done) | (intro g1; simp at g1 ⊢; simp [g1]; done) | (simp only [nrmT] at *; omega) | (simp at * <;> omega) | (simp_all <;> omega) | (simp_all; done)
        · intro b4
          try simp only [nrmT] at b4
          rw [← beq_of_all (d := []) h4]; exact (allTo_falseI h1 (by omega) (by simpa using b4)).symm
        · intro b5
          try simp only [nrmT] at b5
          refine ⟨?_, ?_⟩
          · first | omega | rfl | (intro hg; simp only [nrmT] at hg; omega) | (intro g1 g2; simp [g1, g2]; done) | (intro g1; simp at g1 ⊢; simp [g1]; done) | (simp only [nrmT] at *; omega) | (simp at * <;> omega) | (simp_all <;> omega) | (simp_all; done)
          · refine ⟨(i + 1), ?_⟩
            refine ⟨?_, ?_, rfl, rfl, rfl⟩
            · refine ⟨?_, ?_, ?_, ?_⟩
              · first | omega | rfl | (intro hg; simp only [nrmT] at hg; omega) | (intro g1 g2; simp [g1, g2]; done) | (intro g1; simp at g1 ⊢; simp [g1]; done) | (simp only [nrmT] at *; omega) | (simp at * <;> omega) | (simp_all <;> omega) | (simp_all; done)
              · first | omega | rfl | (intro hg; simp only [nrmT] at hg; omega) | (intro g1 g2; simp [g1, g2]; done) | (intro g1; simp at g1 ⊢; simp [g1]; done) | (simp only [nrmT] at *; omega) | (simp at * <;> omega) | (simp_all <;> omega) | (simp_all; done)
              · exact allTo_step h1 h3 (by simpa using b5)
              · first | omega | rfl | (intro hg; simp only [nrmT] at hg; omega) | (intro g1 g2; simp [g1, g2]; done) | (intro g1; simp at g1 ⊢; simp [g1]; done) | (simp only [nrmT] at *; omega) | (simp at * <;> omega) | (simp_all <;> omega) | (simp_all; done)
            · first | (show _ < _; omega) | (simp only [l_eqIntSS_mJ0]; omega) | (simp only [l_eqIntSS_mJ0] at *; simp at *; omega)
      · intro b6
        try simp only [nrmT] at b6
        rw [← beq_of_all (d := []) h4, ← h3]; congr 1; omega
theorem l_eqIntSS_pc (xs : List (List Int)) (ys : List (List Int))  : PC Try.prog 69 [.sl (.rows xs), .sl (.rows ys)] (.one (.d (.bool (xs == ys)))) :=
  pc_wf @Try.call69 fun hw => pc_by (by kernel_rfl) Try.func69 @Try.call69 (by kernel_rfl) l_eqIntSS_C (l_eqIntSS_A xs ys) (by kernel_rfl) (l_eqIntSS_vc xs ys hw.1.1 hw.1.2 hw.2.1.1 hw.2.1.2) (by kernel_rfl)
def l_eqIntSS_orc : List D → Orc := orcN [some .rows, some .rows] fun ds => match ds with
  | [.sl (.rows xs), .sl (.rows ys)] => some (.one (.d (.bool (xs == ys))))
  | _ => none
def l_eqSystem_C (f : FuncId) (ds : List D) : Orc := bif Nat.beq f 69 then l_eqIntSS_orc ds else bif Nat.beq f 32 then l_eqIntS_orc ds else .no
def l_eqSystem_A (n1 : Int) (s1 : List (List Int)) (c1 : List Int) (n2 : Int) (s2 : List (List Int)) (c2 : List Int) : Ann := .none
def l_eqSystem_P (n1 : Int) (s1 : List (List Int)) (c1 : List Int) (n2 : Int) (s2 : List (List Int)) (c2 : List Int) : Prop :=
  (((n1 != n2) = true → ((false = ((n1 == n2) && (s1 == s2) && (c1 == c2))))) ∧ ((n1 != n2) = false → (PC Try.prog 69 [.sl (.rows s1), .sl (.rows s2)] (.one (.d (.bool (s1 == s2))))) ∧ (((!(s1 == s2)) = true → ((false = ((n1 == n2) && (s1 == s2) && (c1 == c2))))) ∧ ((!(s1 == s2)) = false → (PC Try.prog 32 [.sl (.ints c1), .sl (.ints c2)] (.one (.d (.bool (c1 == c2))))) ∧ (((!(c1 == c2)) = true → ((false = ((n1 == n2) && (s1 == s2) && (c1 == c2))))) ∧ ((!(c1 == c2)) = false → ((true = ((n1 == n2) && (s1 == s2) && (c1 == c2))))))))))
theorem l_eqSystem_vc (n1 : Int) (s1 : List (List Int)) (c1 : List Int) (n2 : Int) (s2 : List (List Int)) (c2 : List Int)  (w_s1 : (s1.length : Int) ≤ 9223372036854775807) (v_s1 : ∀ x9 ∈ s1, (x9.length : Int) ≤ 9223372036854775807) (w_c1 : (c1.length : Int) ≤ 9223372036854775807) (w_s2 : (s2.length : Int) ≤ 9223372036854775807) (v_s2 : ∀ x9 ∈ s2, (x9.length : Int) ≤ 9223372036854775807) (w_c2 : (c2.length : Int) ≤ 9223372036854775807) : l_eqSystem_P n1 s1 c1 n2 s2 c2 := by
  unfold l_eqSystem_P
  refine ⟨?_, ?_⟩
  · intro b1
    try simp only [nrmT] at b1
    first | omega | rfl | (intro hg; simp only [nrmT] at hg; omega) | (intro g1 g2; simp [g1, g2]; done) | (intro g1; simp at g1 ⊢; simp [g1]; done) | (simp only [nrmT] at *; omega) | (simp at * <;> omega) | (simp_all <;> omega) | (simp_all; done)
  · intro b2
    try simp only [nrmT] at b2
    refine ⟨l_eqIntSS_pc s1 s2, ?_, ?_⟩
    · intro b3
      try simp only [nrmT] at b3
      first | omega | rfl | (intro hg; simp only [nrmT] at hg; omega) | (intro g1 g2; simp [g1, g2]; done) | (intro g1; simp at g1 ⊢; simp [g1]; done) | (simp only [nrmT] at *; omega) | (simp at * <;> omega) | (simp_all <;> omega) | (simp_all; done)
    · intro b4
      try simp only [nrmT] at b4
      refine ⟨l_eqIntS_pc c1 c2, ?_, ?_⟩
      · intro b5
        try simp only [nrmT] at b5
        first | omega | rfl | (intro hg; simp only [nrmT] at hg; omega) | (intro g1 g2; simp [g1, g2]; done) | (intro g1; simp at g1 ⊢; simp [g1]; done) | (simp only [nrmT] at *; omega) | (simp at * <;> omega) | (simp_all <;> omega) | (simp_all; done)
      · intro b6
        try simp only [nrmT] at b6
        first | omega | rfl | (intro hg; simp only [nrmT] at hg; omega) | (intro g1 g2; simp [g1, g2]; done) | (intro g1; simp at g1 ⊢; simp [g1]; done) | (simp only [nrmT] at *; omega) | (simp at * <;> omega) | (simp_all <;> omega) | (simp_all; done)
theorem l_eqSystem_pc (n1 : Int) (s1 : List (List Int)) (c1 : List Int) (n2 : Int) (s2 : List (List Int)) (c2 : List Int)  : PC Try.prog 48 [.agg [.int .i64 n1, .sl (.rows s1), .sl (.ints c1)], .agg [.int .i64 n2, .sl (.rows s2), .sl (.ints c2)]] (.one (.d (.bool ((n1 == n2) && (s1 == s2) && (c1 == c2))))) :=
  pc_wf @Try.call48 fun hw => pc_by (by kernel_rfl) Try.func48 @Try.call48 (by kernel_rfl) l_eqSystem_C (l_eqSystem_A n1 s1 c1 n2 s2 c2) (by kernel_rfl) (l_eqSystem_vc n1 s1 c1 n2 s2 c2 hw.1.2.1.1 hw.1.2.1.2 hw.1.2.2.1 hw.2.1.2.1.1 hw.2.1.2.1.2 hw.2.1.2.2.1) (by kernel_rfl)
def l_eqSystem_orc : List D → Orc := orcN [none, none] fun ds => match ds with
  | [.agg [.int .i64 n1, .sl (.rows s1), .sl (.ints c1)], .agg [.int .i64 n2, .sl (.rows s2), .sl (.ints c2)]] => some (.one (.d (.bool ((n1 == n2) && (s1 == s2) && (c1 == c2)))))
  | _ => none
def rowOk (row : List Int) (n most : Int) : Bool := row.all (fun x => inB x 0 most) && decide ((row.length : Int) = n)
def sumTo (f : Nat → Int) (n : Nat) : Int := foldTo (fun s k => s + f k) 0 n
theorem sumTo_step {f : Nat → Int} {i : Int} (h : 0 ≤ i) : sumTo f (i + 1).toNat = sumTo f i.toNat + f i.toNat := foldTo_step h
theorem sumTo_bound {f : Nat → Int} {m : Int} (n : Nat) (h : ∀ k, k < n → 0 ≤ f k ∧ f k ≤ m) : 0 ≤ sumTo f n ∧ sumTo f n ≤ m * n := by
  induction n with
  | zero => simp [sumTo, foldTo]
  | succ n ih =>
    have h1 := ih fun k hk => h k (Nat.lt_succ_of_lt hk)
    have h2 := h n (Nat.lt_succ_self n)
    have e : sumTo f (n + 1) = sumTo f n + f n := rfl
    rw [e]
    have e2 : m * ((n + 1 : Nat) : Int) = m * (n : Int) + m := by rw [Int.natCast_succ, Int.mul_add, Int.mul_one]
    rw [e2]
    omega
theorem rising_at {xs : List Int} {lo hi : Int} (h : rising xs lo hi = true) : ∀ k, k < xs.length → lo + k ≤ xs.getD k 0 ∧ xs.getD k 0 ≤ hi := by
  intro k
  induction k with
  | zero =>
    intro hk
    have h1 := allTo_iff.1 h 0 hk
    simp only [risingP, Bool.and_eq_true] at h1
    have := inB_le h1.1
    omega
  | succ k ih =>
    intro hk
    have h0 := ih (by omega)
    have h1 := allTo_iff.1 h (k + 1) hk
    simp only [risingP, Bool.and_eq_true, Bool.or_eq_true, decide_eq_true_eq, Nat.add_sub_cancel] at h1
    have := inB_le h1.1
    have h2 := h1.2
    omega
theorem rising_len {xs : List Int} {lo hi : Int} (h : rising xs lo hi = true) (hlo : lo ≤ hi + 1) : (xs.length : Int) ≤ hi - lo + 1 := by
  by_cases h0 : xs.length = 0
  · omega
  · have := rising_at h (xs.length - 1) (by omega)
    omega
theorem gs_facts {size : Int} {sets : List (List Int)} {costs : List Int} (h : goodSys size sets costs = true) : 0 ≤ size ∧ size ≤ 8 ∧ sets.length ≤ 8 ∧ costs.length = sets.length := by
  simp only [goodSys, Bool.and_eq_true, decide_eq_true_eq] at h
  have := inB_le h.1.1.1.1
  omega
theorem gs_cost {size : Int} {sets : List (List Int)} {costs : List Int} (h : goodSys size sets costs = true) {k : Nat} (hk : k < costs.length) : 1 ≤ costs.getD k 0 ∧ costs.getD k 0 ≤ 99 := by
  simp only [goodSys, Bool.and_eq_true, decide_eq_true_eq] at h
  exact inB_le (List.all_eq_true.1 h.1.2 _ (getD_mem hk))
theorem gs_set {size : Int} {sets : List (List Int)} {costs : List Int} (h : goodSys size sets costs = true) {k : Nat} (hk : k < sets.length) : rising (sets.getD k []) 0 (size - 1) = true := by
  simp only [goodSys, Bool.and_eq_true, decide_eq_true_eq] at h
  exact List.all_eq_true.1 h.2 _ (getD_mem hk)
def pricedAt (set prices : List Int) (k : Nat) : Int := prices.getD (set.getD k 0).toNat 0
def priced (set prices : List Int) : Int := sumTo (pricedAt set prices) set.length
theorem rowOk_at {row : List Int} {n most : Int} (h : rowOk row n most = true) : (row.length : Int) = n ∧ ∀ k, k < row.length → 0 ≤ row.getD k 0 ∧ row.getD k 0 ≤ most := by
  simp only [rowOk, Bool.and_eq_true, decide_eq_true_eq] at h
  exact ⟨h.2, fun k hk => inB_le (List.all_eq_true.1 h.1 _ (getD_mem hk))⟩
theorem pricedAt_bound {size : Int} {set prices : List Int} (h : rising set 0 (size - 1) = true) (hp : rowOk prices size 1000000 = true) {k : Nat} (hk : k < set.length) :
    0 ≤ pricedAt set prices k ∧ pricedAt set prices k ≤ 1000000 := by
  have h1 := rising_at h k hk
  obtain ⟨h2, h3⟩ := rowOk_at hp
  exact h3 _ (by omega)
theorem priced_bound {size : Int} {set prices : List Int} (h : rising set 0 (size - 1) = true) (hp : rowOk prices size 1000000 = true) (hs : 0 ≤ size ∧ size ≤ 8) : 0 ≤ priced set prices ∧ priced set prices ≤ 8000000 := by
  have h1 := sumTo_bound (f := pricedAt set prices) set.length (fun k hk => pricedAt_bound h hp hk)
  have h2 := rising_len h (by omega)
  unfold priced
  omega
abbrev s_l6Priced_JJ0 (set : List Int) (prices : List Int) (out : Int) (i : Int) : Prop := (0 ≤ i) ∧ (i ≤ (set.length : Int)) ∧ (out = sumTo (pricedAt set prices) i.toNat)
abbrev s_l6Priced_mJ0 (set : List Int) (prices : List Int) (out : Int) (i : Int) : Nat := (set.length - i).toNat
def s_l6Priced_C (f : FuncId) (ds : List D) : Orc := .no
def s_l6Priced_A (set : List Int) (prices : List Int) : Ann := .two (.none) (.two (.none) (.two (.two (.none) (.loop (cut2 (fun (out : Int) (i : Int) => s_l6Priced_JJ0 set prices out i) (fun (out : Int) (i : Int) => [(0, .d false (.sl (.ints set))), (1, .d false (.sl (.ints prices))), (5, .d true (.int .i64 out)), (6, .d true (.int .i64 i))]) (fun (out : Int) (i : Int) => [])) (fun g => s_l6Priced_mJ0 set prices g.1 g.2) (fun _ => .none))) (.none)))
def s_l6Priced_P (set : List Int) (prices : List Int) : Prop :=
  ((∃ out' : Int, ∃ i' : Int, (s_l6Priced_JJ0 set prices out' i') ∧ (set = set) ∧ (prices = prices) ∧ ((0 : Int) = out') ∧ ((0 : Int) = i')) ∧ (∀ out : Int, ∀ i : Int, (s_l6Priced_JJ0 set prices out i) → (((decide (i < (set.length : Int))) = true → ((0 : Int) ≤ i) ∧ ((i : Int) < set.length) ∧ (i.toNat < set.length) ∧ ((0 : Int) ≤ (set.getD i.toNat 0)) ∧ (((set.getD i.toNat 0) : Int) < prices.length) ∧ ((set.getD i.toNat 0).toNat < prices.length) ∧ (-9223372036854775808 ≤ (out + (prices.getD ((set.getD i.toNat 0).toNat) 0)) ∧ (out + (prices.getD ((set.getD i.toNat 0).toNat) 0)) ≤ 9223372036854775807) ∧ (-9223372036854775808 ≤ (i + 1) ∧ (i + 1) ≤ 9223372036854775807) ∧ (∃ out' : Int, ∃ i' : Int, (s_l6Priced_JJ0 set prices out' i') ∧ (s_l6Priced_mJ0 set prices out' i' < s_l6Priced_mJ0 set prices out i) ∧ (set = set) ∧ (prices = prices) ∧ ((out + (prices.getD ((set.getD i.toNat 0).toNat) 0)) = out') ∧ ((i + 1) = i'))) ∧ ((decide (i < (set.length : Int))) = false → ((out = (priced set prices)))))))
theorem s_l6Priced_vc (set : List Int) (prices : List Int) (hp : ∃ size : Int, rising set 0 (size - 1) = true ∧ rowOk prices size 1000000 = true ∧ 0 ≤ size ∧ size ≤ 8) (w_set : (set.length : Int) ≤ 9223372036854775807) (w_prices : (prices.length : Int) ≤ 9223372036854775807) : s_l6Priced_P set prices := by
  unfold s_l6Priced_P
  obtain ⟨size, hs, hp, h8⟩ := hp
  have cl := rising_len hs (by omega)
  have ca := fun k => rising_at hs k
  obtain ⟨pl, pb⟩ := rowOk_at hp
  have cb := fun k (hk : k < set.length) => pricedAt_bound hs hp hk
  refine ⟨?_, ?_⟩
  · refine ⟨0, 0, ?_⟩
    refine ⟨?_, rfl, rfl, rfl, rfl⟩
    · refine ⟨?_, ?_, ?_⟩
      · first | omega | rfl | (intro hg; simp only [nrmT] at hg; omega) | (intro g1 g2; simp [g1, g2]; done) | (intro g1; simp at g1 ⊢; simp [g1]; done) | (simp only [nrmT] at *; omega) | (simp at * <;> omega) | (simp_all <;> omega) | (simp_all; done)
      · first | omega | rfl | (intro hg; simp only [nrmT] at hg; omega) | (intro g1 g2; simp [g1, g2]; done) | (intro g1; simp at g1 ⊢; simp [g1]; done) | (simp only [nrmT] at *; omega) | (simp at * <;> omega) | (simp_all <;> omega) | (simp_all; done)
      · first | omega | rfl | (intro hg; simp only [nrmT] at hg; omega) | (intro g1 g2; simp [g1, g2]; done) | (intro g1; simp at g1 ⊢; simp [g1]; done) | (simp only [nrmT] at *; omega) | (simp at * <;> omega) | (simp_all <;> omega) | (simp_all; done)
  · intro out i hJ
    obtain ⟨h1, h2, h3⟩ := hJ
    refine ⟨?_, ?_⟩
    · intro b1
      try simp only [nrmT] at b1
      refine ⟨?_, ?_, ?_, ?_, ?_, ?_, ?_, ?_, ?_⟩
      · first | omega | rfl | (intro hg; simp only [nrmT] at hg; omega) | (intro g1 g2; simp [g1, g2]; done) | (intro g1; simp at g1 ⊢; simp [g1]; done) | (simp only [nrmT] at *; omega) | (simp at * <;> omega) | (simp_all <;> omega) | (simp_all; done)
      · first | omega | rfl | (intro hg; simp only [nrmT] at hg; omega) | (intro g1 g2; simp [g1, g2]; done) | (intro g1; simp at g1 ⊢; simp [g1]; done) | (simp only [nrmT] at *; omega) | (simp at * <;> omega) | (simp_all <;> omega) | (simp_all; done)
      · first | omega | rfl | (intro hg; simp only [nrmT] at hg; omega) | (intro g1 g2; simp [g1, g2]; done) | (intro g1; simp at g1 ⊢; simp [g1]; done) | (simp only [nrmT] at *; omega) | (simp at * <;> omega) | (simp_all <;> omega) | (simp_all; done)
      · have := ca i.toNat (by omega)
        omega
      · have := ca i.toNat (by omega)
        omega
      · have := ca i.toNat (by omega)
        omega
      · have h6 := sumTo_bound i.toNat (fun k hk => cb k (by omega))
        have h7 := cb i.toNat (by omega)
        unfold pricedAt at h7
        omega
      · first | omega | rfl | (intro hg; simp only [nrmT] at hg; omega) | (intro g1 g2; simp [g1, g2]; done) | (intro g1; simp at g1 ⊢; simp [g1]; done) | (simp only [nrmT] at *; omega) | (simp at * <;> omega) | (simp_all <;> omega) | (simp_all; done)
      · refine ⟨(out + (prices.getD ((set.getD i.toNat 0).toNat) 0)), (i + 1), ?_⟩
        refine ⟨?_, ?_, rfl, rfl, rfl, rfl⟩
        · refine ⟨?_, ?_, ?_⟩
          · first | omega | rfl | (intro hg; simp only [nrmT] at hg; omega) | (intro g1 g2; simp [g1, g2]; done) | (intro g1; simp at g1 ⊢; simp [g1]; done) | (simp only [nrmT] at *; omega) | (simp at * <;> omega) | (simp_all <;> omega) | (simp_all; done)
          · first | omega | rfl | (intro hg; simp only [nrmT] at hg; omega) | (intro g1 g2; simp [g1, g2]; done) | (intro g1; simp at g1 ⊢; simp [g1]; done) | (simp only [nrmT] at *; omega) | (simp at * <;> omega) | (simp_all <;> omega) | (simp_all; done)
          · rw [sumTo_step h1, h3]; rfl
        · first | (show _ < _; omega) | (simp only [s_l6Priced_mJ0]; omega) | (simp only [s_l6Priced_mJ0] at *; simp at *; omega)
    · intro b2
      try simp only [nrmT] at b2
      unfold priced
      rw [h3]
      congr 1
      omega
theorem s_l6Priced_pc (set : List Int) (prices : List Int) (hp : ∃ size : Int, rising set 0 (size - 1) = true ∧ rowOk prices size 1000000 = true ∧ 0 ≤ size ∧ size ≤ 8) : PC Try.prog 121 [.sl (.ints set), .sl (.ints prices)] (.one (.d (.int .i64 (priced set prices)))) :=
  pc_wf @Try.call121 fun hw => pc_by (by kernel_rfl) Try.func121 @Try.call121 (by kernel_rfl) s_l6Priced_C (s_l6Priced_A set prices) (by kernel_rfl) (s_l6Priced_vc set prices hp hw.1 hw.2.1) (by kernel_rfl)
def s_l6Priced_orc : List D → Orc := orcN [some .ints, some .ints] fun ds => match ds with
  | [.sl (.ints set), .sl (.ints prices)] => some (.one (.d (.int .i64 (priced set prices))))
  | _ => none
abbrev i_System_priceOf_JJ0 (Size : Int) (Sets : List (List Int)) (Costs : List Int) (k : Int) (prices : List Int) (out : Int) (i : Int) : Prop := (0 ≤ i) ∧ (i ≤ ((Sets.getD k.toNat []).length : Int)) ∧ (out = sumTo (pricedAt (Sets.getD k.toNat []) prices) i.toNat)
abbrev i_System_priceOf_mJ0 (Size : Int) (Sets : List (List Int)) (Costs : List Int) (k : Int) (prices : List Int) (out : Int) (i : Int) : Nat := ((Sets.getD k.toNat []).length - i).toNat
def i_System_priceOf_C (f : FuncId) (ds : List D) : Orc := .no
def i_System_priceOf_A (Size : Int) (Sets : List (List Int)) (Costs : List Int) (k : Int) (prices : List Int) : Ann := .two (.none) (.two (.none) (.two (.two (.none) (.loop (cut2 (fun (out : Int) (i : Int) => i_System_priceOf_JJ0 Size Sets Costs k prices out i) (fun (out : Int) (i : Int) => [(2, .d false (.sl (.ints prices))), (7, .d true (.int .i64 out)), (14, .d false (.sl (.ints (Sets.getD k.toNat [])))), (15, .d true (.int .i64 (((Sets.getD k.toNat []).length) : Int))), (16, .d true (.int .i64 i))]) (fun (out : Int) (i : Int) => [])) (fun g => i_System_priceOf_mJ0 Size Sets Costs k prices g.1 g.2) (fun _ => .none))) (.none)))
def i_System_priceOf_P (Size : Int) (Sets : List (List Int)) (Costs : List Int) (k : Int) (prices : List Int) : Prop :=
  ((0 : Int) ≤ k) ∧ ((k : Int) < Sets.length) ∧ (k.toNat < Sets.length) ∧ ((∃ out' : Int, ∃ i' : Int, (i_System_priceOf_JJ0 Size Sets Costs k prices out' i') ∧ (prices = prices) ∧ ((0 : Int) = out') ∧ ((Sets.getD k.toNat []) = (Sets.getD k.toNat [])) ∧ ((((Sets.getD k.toNat []).length) : Int) = (((Sets.getD k.toNat []).length) : Int)) ∧ ((0 : Int) = i')) ∧ (∀ out : Int, ∀ i : Int, (i_System_priceOf_JJ0 Size Sets Costs k prices out i) → (((decide (i < (((Sets.getD k.toNat []).length) : Int))) = true → ((0 : Int) ≤ i) ∧ ((i : Int) < (Sets.getD k.toNat []).length) ∧ (i.toNat < (Sets.getD k.toNat []).length) ∧ ((0 : Int) ≤ ((Sets.getD k.toNat []).getD i.toNat 0)) ∧ ((((Sets.getD k.toNat []).getD i.toNat 0) : Int) < prices.length) ∧ (((Sets.getD k.toNat []).getD i.toNat 0).toNat < prices.length) ∧ (-9223372036854775808 ≤ (out + (prices.getD (((Sets.getD k.toNat []).getD i.toNat 0).toNat) 0)) ∧ (out + (prices.getD (((Sets.getD k.toNat []).getD i.toNat 0).toNat) 0)) ≤ 9223372036854775807) ∧ (-9223372036854775808 ≤ (i + 1) ∧ (i + 1) ≤ 9223372036854775807) ∧ (∃ out' : Int, ∃ i' : Int, (i_System_priceOf_JJ0 Size Sets Costs k prices out' i') ∧ (i_System_priceOf_mJ0 Size Sets Costs k prices out' i' < i_System_priceOf_mJ0 Size Sets Costs k prices out i) ∧ (prices = prices) ∧ ((out + (prices.getD (((Sets.getD k.toNat []).getD i.toNat 0).toNat) 0)) = out') ∧ ((Sets.getD k.toNat []) = (Sets.getD k.toNat [])) ∧ ((((Sets.getD k.toNat []).length) : Int) = (((Sets.getD k.toNat []).length) : Int)) ∧ ((i + 1) = i'))) ∧ ((decide (i < (((Sets.getD k.toNat []).length) : Int))) = false → ((out = (priced (Sets.getD k.toNat []) prices)))))))
theorem i_System_priceOf_vc (Size : Int) (Sets : List (List Int)) (Costs : List Int) (k : Int) (prices : List Int) (hg : goodSys Size Sets Costs = true) (hk : 0 ≤ k ∧ k < (Sets.length : Int)) (hp : rowOk prices Size 1000000 = true) (w_Sets : (Sets.length : Int) ≤ 9223372036854775807) (v_Sets : ∀ x9 ∈ Sets, (x9.length : Int) ≤ 9223372036854775807) (w_Costs : (Costs.length : Int) ≤ 9223372036854775807) (w_prices : (prices.length : Int) ≤ 9223372036854775807) : i_System_priceOf_P Size Sets Costs k prices := by
  unfold i_System_priceOf_P
  have gf := gs_facts hg
  have hs := gs_set hg (k := k.toNat) (by omega)
  have cl := rising_len hs (by omega)
  have ca := fun k => rising_at hs k
  obtain ⟨pl, pb⟩ := rowOk_at hp
  have cb := fun j (hj : j < (Sets.getD k.toNat []).length) => pricedAt_bound hs hp hj
  refine ⟨?_, ?_, ?_, ?_, ?_⟩
  · first | omega | rfl | (intro hg; simp only [nrmT] at hg; omega) | (intro g1 g2; simp [g1, g2]; done) | (intro g1; simp at g1 ⊢; simp [g1]; done) | (simp only [nrmT] at *; omega) | (simp at * <;> omega) | (simp_all <;> omega) | (simp_all; done)
  · first | omega | rfl | (intro hg; simp only [nrmT] at hg; omega) | (intro g1 g2; simp [g1, g2]; done) | (intro g1; simp at g1 ⊢; simp [g1]; done) | (simp only [nrmT] at *; omega) | (simp at * <;> omega) | (simp_all <;> omega) | (simp_all; done)
  · first | omega | rfl | (intro hg; simp only [nrmT] at hg; omega) | (intro g1 g2; simp [g1, g2]; done) | (intro g1; simp at g1 ⊢; simp [g1]; done) | (simp only [nrmT] at *; omega) | (simp at * <;> omega) | (simp_all <;> omega) | (simp_all; done)
  · refine ⟨0, 0, ?_⟩
    refine ⟨?_, rfl, rfl, rfl, rfl, rfl⟩
    · refine ⟨?_, ?_, ?_⟩
      · first | omega | rfl | (intro hg; simp only [nrmT] at hg; omega) | (intro g1 g2; simp [g1, g2]; done) | (intro g1; simp at g1 ⊢; simp [g1]; done) | (simp only [nrmT] at *; omega) | (simp at * <;> omega) | (simp_all <;> omega) | (simp_all; done)
      · first | omega | rfl | (intro hg; simp only [nrmT] at hg; omega) | (intro g1 g2; simp [g1, g2]; done) | (intro g1; simp at g1 ⊢; simp [g1]; done) | (simp only [nrmT] at *; omega) | (simp at * <;> omega) | (simp_all <;> omega) | (simp_all; done)
      · first | omega | rfl | (intro hg; simp only [nrmT] at hg; omega) | (intro g1 g2; simp [g1, g2]; done) | (intro g1; simp at g1 ⊢; simp [g1]; done) | (simp only [nrmT] at *; omega) | (simp at * <;> omega) | (simp_all <;> omega) | (simp_all; done)
  · intro out i hJ
    obtain ⟨h1, h2, h3⟩ := hJ
    refine ⟨?_, ?_⟩
    · intro b1
      try simp only [nrmT] at b1
      refine ⟨?_, ?_, ?_, ?_, ?_, ?_, ?_, ?_, ?_⟩
      · first | omega | rfl | (intro hg; simp only [nrmT] at hg; omega) | (intro g1 g2; simp [g1, g2]; done) | (intro g1; simp at g1 ⊢; simp [g1]; done) | (simp only [nrmT] at *; omega) | (simp at * <;> omega) | (simp_all <;> omega) | (simp_all; done)
      · first | omega | rfl | (intro hg; simp only [nrmT] at hg; omega) | (intro g1 g2; simp [g1, g2]; done) | (intro g1; simp at g1 ⊢; simp [g1]; done) | (simp only [nrmT] at *; omega) | (simp at * <;> omega) | (simp_all <;> omega) | (simp_all; done)
      · first | omega | rfl | (intro hg; simp only [nrmT] at hg; omega) | (intro g1 g2; simp [g1, g2]; done) | (intro g1; simp at g1 ⊢; simp [g1]; done) | (simp only [nrmT] at *; omega) | (simp at * <;> omega) | (simp_all <;> omega) | (simp_all; done)
      · have := ca i.toNat (by omega)
        omega
      · have := ca i.toNat (by omega)
        omega
      · have := ca i.toNat (by omega)
        omega
      · have h6 := sumTo_bound i.toNat (fun k hk => cb k (by omega))
        have h7 := cb i.toNat (by omega)
        unfold pricedAt at h7
        omega
      · first | omega | rfl | (intro hg; simp only [nrmT] at hg; omega) | (intro g1 g2; simp [g1, g2]; done) | (intro g1; simp at g1 ⊢; simp [g1]; done) | (simp only [nrmT] at *; omega) | (simp at * <;> omega) | (simp_all <;> omega) | (simp_all; done)
      · refine ⟨(out + (prices.getD (((Sets.getD k.toNat []).getD i.toNat 0).toNat) 0)), (i + 1), ?_⟩
        refine ⟨?_, ?_, rfl, rfl, rfl, rfl, rfl⟩
        · refine ⟨?_, ?_, ?_⟩
          · first | omega | rfl | (intro hg; simp only [nrmT] at hg; omega) | (intro g1 g2; simp [g1, g2]; done) | (intro g1; simp at g1 ⊢; simp [g1]; done) | (simp only [nrmT] at *; omega) | (simp at * <;> omega) | (simp_all <;> omega) | (simp_all; done)
          · first | omega | rfl | (intro hg; simp only [nrmT] at hg; omega) | (intro g1 g2; simp [g1, g2]; done) | (intro g1; simp at g1 ⊢; simp [g1]; done) | (simp only [nrmT] at *; omega) | (simp at * <;> omega) | (simp_all <;> omega) | (simp_all; done)
          · rw [sumTo_step h1, h3]; rfl
        · first | (show _ < _; omega) | (simp only [i_System_priceOf_mJ0]; omega) | (simp only [i_System_priceOf_mJ0] at *; simp at *; omega)
    · intro b2
      try simp only [nrmT] at b2
      unfold priced
      rw [h3]
      congr 1
      omega
theorem i_System_priceOf_pc (Size : Int) (Sets : List (List Int)) (Costs : List Int) (k : Int) (prices : List Int) (hg : goodSys Size Sets Costs = true) (hk : 0 ≤ k ∧ k < (Sets.length : Int)) (hp : rowOk prices Size 1000000 = true) : PC Try.prog 123 [.agg [.int .i64 Size, .sl (.rows Sets), .sl (.ints Costs)], .int .i64 k, .sl (.ints prices)] (.one (.d (.int .i64 (priced (Sets.getD k.toNat []) prices)))) :=
  pc_wf @Try.call123 fun hw => pc_by (by kernel_rfl) Try.func123 @Try.call123 (by kernel_rfl) i_System_priceOf_C (i_System_priceOf_A Size Sets Costs k prices) (by kernel_rfl) (i_System_priceOf_vc Size Sets Costs k prices hg hk hp hw.1.2.1.1 hw.1.2.1.2 hw.1.2.2.1 hw.2.2.1) (by kernel_rfl)
def i_System_priceOf_orc : List D → Orc := orcN [none, none, some .ints] fun ds => match ds with
  | [.agg [.int .i64 Size, .sl (.rows Sets), .sl (.ints Costs)], .int .i64 k, .sl (.ints prices)] => some (.one (.d (.int .i64 (priced (Sets.getD k.toNat []) prices))))
  | _ => none
abbrev slices_Index_int_int__JJ0 (xs : List Int) (x : Int) (i : Int) : Prop := (0 ≤ i) ∧ (i ≤ (xs.length : Int)) ∧ (∀ k, k < i.toNat → (fun y => x == y) (xs.getD k 0) = false)
abbrev slices_Index_int_int__mJ0 (xs : List Int) (x : Int) (i : Int) : Nat := (xs.length - i).toNat
def slices_Index_int_int__C (f : FuncId) (ds : List D) : Orc := .no
def slices_Index_int_int__A (xs : List Int) (x : Int) : Ann := .two (.none) (.two (.two (.none) (.loop (cut1 (fun (i : Int) => slices_Index_int_int__JJ0 xs x i) (fun (i : Int) => [(0, .d false (.sl (.ints xs))), (1, .d false (.int .i64 x)), (7, .d true (.int .i64 (xs.length : Int))), (8, .d true (.int .i64 i))]) (fun (i : Int) => [])) (fun g => slices_Index_int_int__mJ0 xs x g) (fun _ => .none))) (.none))
def slices_Index_int_int__P (xs : List Int) (x : Int) : Prop :=
  ((∃ i' : Int, (slices_Index_int_int__JJ0 xs x i') ∧ (xs = xs) ∧ (x = x) ∧ ((xs.length : Int) = (xs.length : Int)) ∧ ((0 : Int) = i')) ∧ (∀ i : Int, (slices_Index_int_int__JJ0 xs x i) → (((decide (i < (xs.length : Int))) = true → ((0 : Int) ≤ i) ∧ ((i : Int) < xs.length) ∧ (i.toNat < xs.length) ∧ (((x == (xs.getD i.toNat 0)) = true → ((i = (idxI (fun y => x == y) xs)))) ∧ ((x == (xs.getD i.toNat 0)) = false → (-9223372036854775808 ≤ (i + 1) ∧ (i + 1) ≤ 9223372036854775807) ∧ (∃ i' : Int, (slices_Index_int_int__JJ0 xs x i') ∧ (slices_Index_int_int__mJ0 xs x i' < slices_Index_int_int__mJ0 xs x i) ∧ (xs = xs) ∧ (x = x) ∧ ((xs.length : Int) = (xs.length : Int)) ∧ ((i + 1) = i'))))) ∧ ((decide (i < (xs.length : Int))) = false → ((((-1) : Int) = (idxI (fun y => x == y) xs)))))))
theorem slices_Index_int_int__vc (xs : List Int) (x : Int)  (w_xs : (xs.length : Int) ≤ 9223372036854775807) : slices_Index_int_int__P xs x := by
  unfold slices_Index_int_int__P
  refine ⟨?_, ?_⟩
  · refine ⟨0, ?_⟩
    refine ⟨?_, rfl, rfl, rfl, rfl⟩
    · refine ⟨?_, ?_, ?_⟩
      · first | omega | rfl | (intro hg; simp only [nrmT] at hg; omega) | (intro g1 g2; simp [g1, g2]; done) | (intro g1; simp at g1 ⊢; simp [g1]; done) | (simp only [nrmT] at *; omega) | (simp at * <;> omega) | (simp_all <;> omega) | (simp_all; done)
      · first | omega | rfl | (intro hg; simp only [nrmT] at hg; omega) | (intro g1 g2; simp [g1, g2]; done) | (intro g1; simp at g1 ⊢; simp [g1]; done) | (simp only [nrmT] at *; omega) | (simp at * <;> omega) | (simp_all <;> omega) | (simp_all; done)
      · first | omega | rfl | (intro hg; simp only [nrmT] at hg; omega) | (intro g1 g2; simp [g1, g2]; done) | (intro g1; simp at g1 ⊢; simp [g1]; done) | (simp only [nrmT] at *; omega) | (simp at * <;> omega) | (simp_all <;> omega) | (simp_all; done)
  · intro i hJ
    obtain ⟨h1, h2, h3⟩ := hJ
    refine ⟨?_, ?_⟩
    · intro b1
      try simp only [nrmT] at b1
      refine ⟨?_, ?_, ?_, ?_, ?_⟩
      · first | omega | rfl | (intro hg; simp only [nrmT] at hg; omega) | (intro g1 g2; simp [g1, g2]; done) | (intro g1; simp at g1 ⊢; simp [g1]; done) | (simp only [nrmT] at *; omega) | (simp at * <;> omega) | (simp_all <;> omega) | (simp_all; done)
      · first | omega | rfl | (intro hg; simp only [nrmT] at hg; omega) | (intro g1 g2; simp [g1, g2]; done) | (intro g1; simp at g1 ⊢; simp [g1]; done) | (simp only [nrmT] at *; omega) | (simp at * <;> omega) | (simp_all <;> omega) | (simp_all; done)
      · first | omega | rfl | (intro hg; simp only [nrmT] at hg; omega) | (intro g1 g2; simp [g1, g2]; done) | (intro g1; simp at g1 ⊢; simp [g1]; done) | (simp only [nrmT] at *; omega) | (simp at * <;> omega) | (simp_all <;> omega) | (simp_all; done)
      · intro b2
        try simp only [nrmT] at b2
        exact idx_found (p := fun y => x == y) h1 b1 h3 (by simpa using b2)
      · intro b3
        try simp only [nrmT] at b3
        refine ⟨?_, ?_⟩
        · first | omega | rfl | (intro hg; simp only [nrmT] at hg; omega) | (intro g1 g2; simp [g1, g2]; done) | (intro g1; simp at g1 ⊢; simp [g1]; done) | (simp only [nrmT] at *; omega) | (simp at * <;> omega) | (simp_all <;> omega) | (simp_all; done)
        · refine ⟨(i + 1), ?_⟩
          refine ⟨?_, ?_, rfl, rfl, rfl, rfl⟩
          · refine ⟨?_, ?_, ?_⟩
            · first | omega | rfl | (intro hg; simp only [nrmT] at hg; omega) | (intro g1 g2; simp [g1, g2]; done) | (intro g1; simp at g1 ⊢; simp [g1]; done) | (simp only [nrmT] at *; omega) | (simp at * <;> omega) | (simp_all <;> omega) | (simp_all; done)
            · first | omega | rfl | (intro hg; simp only [nrmT] at hg; omega) | (intro g1 g2; simp [g1, g2]; done) | (intro g1; simp at g1 ⊢; simp [g1]; done) | (simp only [nrmT] at *; omega) | (simp at * <;> omega) | (simp_all <;> omega) | (simp_all; done)
            · exact idx_step (p := fun y => x == y) h1 h3 (by simpa using b3)
          · first | (show _ < _; omega) | (simp only [slices_Index_int_int__mJ0]; omega) | (simp only [slices_Index_int_int__mJ0] at *; simp at *; omega)
    · intro b4
      try simp only [nrmT] at b4
      exact (idx_none (by omega) h3).symm
theorem slices_Index_int_int__pc (xs : List Int) (x : Int)  : PC Try.prog 116 [.sl (.ints xs), .int .i64 x] (.one (.d (.int .i64 (idxI (fun y => x == y) xs)))) :=
  pc_wf @Try.call116 fun hw => pc_by (by kernel_rfl) Try.func116 @Try.call116 (by kernel_rfl) slices_Index_int_int__C (slices_Index_int_int__A xs x) (by kernel_rfl) (slices_Index_int_int__vc xs x hw.1) (by kernel_rfl)
def slices_Index_int_int__orc : List D → Orc := orcN [some .ints, none] fun ds => match ds with
  | [.sl (.ints xs), .int .i64 x] => some (.one (.d (.int .i64 (idxI (fun y => x == y) xs))))
  | _ => none
def slices_Contains_int_int__C (f : FuncId) (ds : List D) : Orc := bif Nat.beq f 116 then slices_Index_int_int__orc ds else .no
def slices_Contains_int_int__A (xs : List Int) (x : Int) : Ann := .none
def slices_Contains_int_int__P (xs : List Int) (x : Int) : Prop :=
  (PC Try.prog 116 [.sl (.ints xs), .int .i64 x] (.one (.d (.int .i64 (idxI (fun y => x == y) xs))))) ∧ (((decide ((idxI (fun y => x == y) xs) ≥ 0)) = (xs.contains x)))
theorem slices_Contains_int_int__vc (xs : List Int) (x : Int)  (w_xs : (xs.length : Int) ≤ 9223372036854775807) : slices_Contains_int_int__P xs x := by
  unfold slices_Contains_int_int__P
  refine ⟨slices_Index_int_int__pc xs x, ?_⟩
  · rw [idx_any, List.contains_eq_any_beq]
theorem slices_Contains_int_int__pc (xs : List Int) (x : Int)  : PC Try.prog 124 [.sl (.ints xs), .int .i64 x] (.one (.d (.bool (xs.contains x)))) :=
  pc_wf @Try.call124 fun hw => pc_by (by kernel_rfl) Try.func124 @Try.call124 (by kernel_rfl) slices_Contains_int_int__C (slices_Contains_int_int__A xs x) (by kernel_rfl) (slices_Contains_int_int__vc xs x hw.1) (by kernel_rfl)
def slices_Contains_int_int__orc : List D → Orc := orcN [some .ints, none] fun ds => match ds with
  | [.sl (.ints xs), .int .i64 x] => some (.one (.d (.bool (xs.contains x))))
  | _ => none
theorem has_end {xs : List Int} {x i : Int} (h2 : (xs.length : Int) ≤ i) (h3 : ∀ k, k < i.toNat → (fun y => x == y) (xs.getD k 0) = false) : xs.contains x = false := by
  rw [List.contains_eq_any_beq, List.any_eq_false]
  intro y hy
  obtain ⟨k, hk, rfl⟩ := List.mem_iff_getElem.1 hy
  have := h3 k (by omega)
  simp [hk] at this
  simpa using this
theorem has_found {xs : List Int} {x i : Int} (h1 : 0 ≤ i) (h2 : i < (xs.length : Int)) (h : xs.getD i.toNat 0 = x) : xs.contains x = true := by
  rw [List.contains_iff_mem, ← h]; exact getD_memI h1 h2
abbrev s_l1Has_JJ0 (xs : List Int) (x : Int) (i : Int) : Prop := (0 ≤ i) ∧ (i ≤ (xs.length : Int)) ∧ (∀ k, k < i.toNat → (fun y => x == y) (xs.getD k 0) = false)
abbrev s_l1Has_mJ0 (xs : List Int) (x : Int) (i : Int) : Nat := (xs.length - i).toNat
def s_l1Has_C (f : FuncId) (ds : List D) : Orc := .no
def s_l1Has_A (xs : List Int) (x : Int) : Ann := .two (.none) (.two (.two (.none) (.loop (cut1 (fun (i : Int) => s_l1Has_JJ0 xs x i) (fun (i : Int) => [(0, .d false (.sl (.ints xs))), (1, .d false (.int .i64 x)), (5, .d true (.int .i64 i))]) (fun (i : Int) => [])) (fun g => s_l1Has_mJ0 xs x g) (fun _ => .none))) (.none))
def s_l1Has_P (xs : List Int) (x : Int) : Prop :=
  ((∃ i' : Int, (s_l1Has_JJ0 xs x i') ∧ (xs = xs) ∧ (x = x) ∧ ((0 : Int) = i')) ∧ (∀ i : Int, (s_l1Has_JJ0 xs x i) → (((decide (i < (xs.length : Int))) = true → ((0 : Int) ≤ i) ∧ ((i : Int) < xs.length) ∧ (i.toNat < xs.length) ∧ ((((xs.getD i.toNat 0) == x) = true → ((true = (xs.contains x)))) ∧ (((xs.getD i.toNat 0) == x) = false → (-9223372036854775808 ≤ (i + 1) ∧ (i + 1) ≤ 9223372036854775807) ∧ (∃ i' : Int, (s_l1Has_JJ0 xs x i') ∧ (s_l1Has_mJ0 xs x i' < s_l1Has_mJ0 xs x i) ∧ (xs = xs) ∧ (x = x) ∧ ((i + 1) = i'))))) ∧ ((decide (i < (xs.length : Int))) = false → ((false = (xs.contains x)))))))
theorem s_l1Has_vc (xs : List Int) (x : Int)  (w_xs : (xs.length : Int) ≤ 9223372036854775807) : s_l1Has_P xs x := by
  unfold s_l1Has_P
  refine ⟨?_, ?_⟩
  · refine ⟨0, ?_⟩
    refine ⟨?_, rfl, rfl, rfl⟩
    · refine ⟨?_, ?_, ?_⟩
      · first | omega | rfl | (intro hg; simp only [nrmT] at hg; omega) | (intro g1 g2; simp [g1, g2]; done) | (intro g1; simp at g1 ⊢; simp [g1]; done) | (simp only [nrmT] at *; omega) | (simp at * <;> omega) | (simp_all <;> omega) | (simp_all; done)
      · first | omega | rfl | (intro hg; simp only [nrmT] at hg; omega) | (intro g1 g2; simp [g1, g2]; done) | (intro g1; simp at g1 ⊢; simp [g1]; done) | (simp only [nrmT] at *; omega) | (simp at * <;> omega) | (simp_all <;> omega) | (simp_all; done)
      · first | omega | rfl | (intro hg; simp only [nrmT] at hg; omega) | (intro g1 g2; simp [g1, g2]; done) | (intro g1; simp at g1 ⊢; simp [g1]; done) | (simp only [nrmT] at *; omega) | (simp at * <;> omega) | (simp_all <;> omega) | (simp_all; done)
  · intro i hJ
    obtain ⟨h1, h2, h3⟩ := hJ
    refine ⟨?_, ?_⟩
    · intro b1
      try simp only [nrmT] at b1
      refine ⟨?_, ?_, ?_, ?_, ?_⟩
      · first | omega | rfl | (intro hg; simp only [nrmT] at hg; omega) | (intro g1 g2; simp [g1, g2]; done) | (intro g1; simp at g1 ⊢; simp [g1]; done) | (simp only [nrmT] at *; omega) | (simp at * <;> omega) | (simp_all <;> omega) | (simp_all; done)
      · first | omega | rfl | (intro hg; simp only [nrmT] at hg; omega) | (intro g1 g2; simp [g1, g2]; done) | (intro g1; simp at g1 ⊢; simp [g1]; done) | (simp only [nrmT] at *; omega) | (simp at * <;> omega) | (simp_all <;> omega) | (simp_all; done)
      · first | omega | rfl | (intro hg; simp only [nrmT] at hg; omega) | (intro g1 g2; simp [g1, g2]; done) | (intro g1; simp at g1 ⊢; simp [g1]; done) | (simp only [nrmT] at *; omega) | (simp at * <;> omega) | (simp_all <;> omega) | (simp_all; done)
      · intro b2
        try simp only [nrmT] at b2
        exact (has_found h1 b1 b2).symm
      · intro b3
        try simp only [nrmT] at b3
        refine ⟨?_, ?_⟩
        · first | omega | rfl | (intro hg; simp only [nrmT] at hg; omega) | (intro g1 g2; simp [g1, g2]; done) | (intro g1; simp at g1 ⊢; simp [g1]; done) | (simp only [nrmT] at *; omega) | (simp at * <;> omega) | (simp_all <;> omega) | (simp_all; done)
        · refine ⟨(i + 1), ?_⟩
          refine ⟨?_, ?_, rfl, rfl, rfl⟩
          · refine ⟨?_, ?_, ?_⟩
            · first | omega | rfl | (intro hg; simp only [nrmT] at hg; omega) | (intro g1 g2; simp [g1, g2]; done) | (intro g1; simp at g1 ⊢; simp [g1]; done) | (simp only [nrmT] at *; omega) | (simp at * <;> omega) | (simp_all <;> omega) | (simp_all; done)
            · first | omega | rfl | (intro hg; simp only [nrmT] at hg; omega) | (intro g1 g2; simp [g1, g2]; done) | (intro g1; simp at g1 ⊢; simp [g1]; done) | (simp only [nrmT] at *; omega) | (simp at * <;> omega) | (simp_all <;> omega) | (simp_all; done)
            · exact idx_step (p := fun y => x == y) h1 h3 (by simp only [beq_eq_false_iff_ne]; exact fun h => b3 h.symm)
          · first | (show _ < _; omega) | (simp only [s_l1Has_mJ0]; omega) | (simp only [s_l1Has_mJ0] at *; simp at *; omega)
    · intro b4
      try simp only [nrmT] at b4
      exact (has_end (by omega) h3).symm
theorem s_l1Has_pc (xs : List Int) (x : Int)  : PC Try.prog 122 [.sl (.ints xs), .int .i64 x] (.one (.d (.bool (xs.contains x)))) :=
  pc_wf @Try.call122 fun hw => pc_by (by kernel_rfl) Try.func122 @Try.call122 (by kernel_rfl) s_l1Has_C (s_l1Has_A xs x) (by kernel_rfl) (s_l1Has_vc xs x hw.1) (by kernel_rfl)
def s_l1Has_orc : List D → Orc := orcN [some .ints, none] fun ds => match ds with
  | [.sl (.ints xs), .int .i64 x] => some (.one (.d (.bool (xs.contains x))))
  | _ => none
/-- Marks from k on. -/
def marks (k : Int) (n : Nat) : List Int := (List.range n).map fun (i : Nat) => k + (i : Int)
def markTo (k : Int) (xs : List Int) (g : Nat) : List Int := marks k g ++ xs.drop g
theorem marks_len (k : Int) (n : Nat) : (marks k n).length = n := by simp [marks]
theorem markTo_zero (k : Int) (xs : List Int) : markTo k xs 0 = xs := by simp [markTo, marks]
theorem markTo_all (k : Int) (xs : List Int) : markTo k xs xs.length = marks k xs.length := by simp [markTo]
theorem markTo_len (k : Int) (xs : List Int) (g : Nat) (h : g ≤ xs.length) : (markTo k xs g).length = xs.length := by simp [markTo, marks_len]; omega
theorem markTo_step (k : Int) (xs : List Int) (g : Nat) (h : g < xs.length) : (markTo k xs g).set g (k + (g : Int)) = markTo k xs (g + 1) := by
  apply List.ext_getElem?
  intro j
  simp only [markTo, marks, List.getElem?_set, List.getElem?_append, List.length_map, List.length_range, List.getElem?_map, List.getElem?_drop, List.length_append, List.length_drop]
  by_cases h1 : g = j
  · subst h1
    simp [h]
    omega
  · by_cases h2 : j < g
    · simp [h1, h2, show j < g + 1 by omega]
    · simp [h1, h2, show ¬ j < g + 1 by omega]
      congr 1; omega
theorem sum_take : ∀ (ns : List Nat) (g : Nat), g < ns.length → (ns.take (g + 1)).sum = (ns.take g).sum + ns.getD g 0
  | [], g, h => by simp at h
  | n :: r, 0, _ => by simp
  | n :: r, g + 1, h => by
    have := sum_take r g (by simpa using h)
    simp only [List.take_succ_cons, List.sum_cons, List.getD_cons_succ, this]
    omega
theorem sum_take_le (ns : List Nat) (g : Nat) : (ns.take g).sum ≤ ns.sum := by
  have := List.take_append_drop g ns
  have h2 : ns.sum = (ns.take g).sum + (ns.drop g).sum := by rw [← List.sum_append, this]
  omega
def laws_markIntS_g_C (f : FuncId) (ms : List MV) : Option Int := none
def laws_markIntS_g_A (n : Nat) (k : Int) : MAnn := .two (.none) (.two (.two (.none) (.loop n (fun g => [(0, .shp (.ints n)), (1, .int (k + (g : Int))), (5, .int (g : Int))]) (fun g => []) (fun g => .none))) (.none))
def laws_markIntS_g_P (n : Nat) (k : Int) : Prop :=
  (((([] : List Int) = []) ∧ ((.ints n : Sh) = .ints n) ∧ ((k : Int) = (k + ((0 : Nat) : Int))) ∧ ((0 : Int) = ((0 : Nat) : Int))) ∧ (∀ g : Nat, g ≤ n → (((decide ((g : Int) < ((n : Nat) : Int))) = true → ((0 : Int) ≤ (g : Int)) ∧ (((g : Int) : Int) < ((n : Nat) : Int)) ∧ (-9223372036854775808 ≤ ((k + (g : Int)) + 1) ∧ ((k + (g : Int)) + 1) ≤ 9223372036854775807) ∧ (-9223372036854775808 ≤ ((g : Int) + 1) ∧ ((g : Int) + 1) ≤ 9223372036854775807) ∧ ((g + 1 ≤ n) ∧ (([] : List Int) = []) ∧ ((.ints n : Sh) = .ints n) ∧ ((((k + (g : Int)) + 1) : Int) = (k + ((g + 1 : Nat) : Int))) ∧ ((((g : Int) + 1) : Int) = ((g + 1 : Nat) : Int)))) ∧ ((decide ((g : Int) < ((n : Nat) : Int))) = false → (((((k + (g : Int)) : Int) = k + (n : Int))) ∧ ((([] : List Int) = [])))))))
theorem laws_markIntS_g_vc (n : Nat) (k : Int) (hk : 0 ≤ k) (hn : k + (n : Int) ≤ 9223372036854775807) : laws_markIntS_g_P n k := by
  unfold laws_markIntS_g_P
  refine ⟨?_, ?_⟩
  · refine ⟨?_, ?_⟩
    · exact rfl
    refine ⟨?_, ?_⟩
    · exact rfl
    refine ⟨?_, ?_⟩
    · first | omega | rfl | (simp; done) | (simp <;> omega)
    first | omega | rfl | (simp; done) | (simp <;> omega)
  intro g hg
  refine ⟨?_, ?_⟩
  · intro b1
    simp only [nrmT] at b1
    refine ⟨?_, ?_⟩
    · first | omega | rfl | (simp; done) | (simp <;> omega)
    refine ⟨?_, ?_⟩
    · first | omega | rfl | (simp; done) | (simp <;> omega)
    refine ⟨?_, ?_⟩
    · first | omega | rfl | (simp; done) | (simp <;> omega)
    refine ⟨?_, ?_⟩
    · first | omega | rfl | (simp; done) | (simp <;> omega)
    refine ⟨?_, ?_⟩
    · first | omega | rfl | (simp; done) | (simp <;> omega)
    refine ⟨?_, ?_⟩
    · exact rfl
    refine ⟨?_, ?_⟩
    · exact rfl
    refine ⟨?_, ?_⟩
    · first | omega | rfl | (simp; done) | (simp <;> omega)
    first | omega | rfl | (simp; done) | (simp <;> omega)
  · intro b2
    simp only [nrmT] at b2
    refine ⟨?_, ?_⟩
    · first | omega | rfl | (simp; done) | (simp <;> omega)
    exact rfl
theorem laws_markIntS_g_pg (n : Nat) (k : Int) (hk : 0 ≤ k) (hn : k + (n : Int) ≤ 9223372036854775807) : PG Try.prog 35 [.shp (.ints n), .int k] (k + (n : Int)) :=
  pg_by Try.func35 @Try.call35 (by kernel_rfl) laws_markIntS_g_C (laws_markIntS_g_A n k) (by kernel_rfl) (laws_markIntS_g_vc n k hk hn) (by kernel_rfl)
def laws_markIntS_w_C (f : FuncId) (ms : List MV) : Option Int := none
def laws_markIntS_w_A (xs : List Int) (k : Int) : MAnn := .two (.none) (.two (.two (.none) (.loop xs.length (fun g => [(0, .row xs.length), (1, .int (k + (g : Int))), (5, .int (g : Int))]) (fun g => (markTo k xs g)) (fun g => .none))) (.none))
def laws_markIntS_w_P (xs : List Int) (k : Int) : Prop :=
  ((((xs : List Int) = (markTo k xs (0 : Nat))) ∧ ((xs.length : Nat) = xs.length) ∧ ((k : Int) = (k + ((0 : Nat) : Int))) ∧ ((0 : Int) = ((0 : Nat) : Int))) ∧ (∀ g : Nat, g ≤ xs.length → (((decide ((g : Int) < (xs.length : Int))) = true → ((0 : Int) ≤ (g : Int)) ∧ (((g : Int) : Int) < (xs.length : Int)) ∧ ((g : Int).toNat < (markTo k xs g).length) ∧ (-9223372036854775808 ≤ ((k + (g : Int)) + 1) ∧ ((k + (g : Int)) + 1) ≤ 9223372036854775807) ∧ (-9223372036854775808 ≤ ((g : Int) + 1) ∧ ((g : Int) + 1) ≤ 9223372036854775807) ∧ ((g + 1 ≤ xs.length) ∧ ((((markTo k xs g).set ((g : Int).toNat) (k + (g : Int))) : List Int) = (markTo k xs (g + 1 : Nat))) ∧ ((xs.length : Nat) = xs.length) ∧ ((((k + (g : Int)) + 1) : Int) = (k + ((g + 1 : Nat) : Int))) ∧ ((((g : Int) + 1) : Int) = ((g + 1 : Nat) : Int)))) ∧ ((decide ((g : Int) < (xs.length : Int))) = false → (((((k + (g : Int)) : Int) = k + (xs.length : Int))) ∧ ((((markTo k xs g) : List Int) = (marks k xs.length))))))))
theorem laws_markIntS_w_vc (xs : List Int) (k : Int) (hk : 0 ≤ k) (hn : k + (xs.length : Int) ≤ 9223372036854775807) : laws_markIntS_w_P xs k := by
  unfold laws_markIntS_w_P
  refine ⟨?_, ?_⟩
  · refine ⟨?_, ?_⟩
    · exact (markTo_zero k xs).symm
    refine ⟨?_, ?_⟩
    · exact rfl
    refine ⟨?_, ?_⟩
    · first | omega | rfl | (simp; done) | (simp <;> omega)
    first | omega | rfl | (simp; done) | (simp <;> omega)
  intro g hg
  refine ⟨?_, ?_⟩
  · intro b1
    simp only [nrmT] at b1
    refine ⟨?_, ?_⟩
    · first | omega | rfl | (simp; done) | (simp <;> omega)
    refine ⟨?_, ?_⟩
    · first | omega | rfl | (simp; done) | (simp <;> omega)
    refine ⟨?_, ?_⟩
    · rw [markTo_len _ _ _ (by omega)]; omega
    refine ⟨?_, ?_⟩
    · first | omega | rfl | (simp; done) | (simp <;> omega)
    refine ⟨?_, ?_⟩
    · first | omega | rfl | (simp; done) | (simp <;> omega)
    refine ⟨?_, ?_⟩
    · first | omega | rfl | (simp; done) | (simp <;> omega)
    refine ⟨?_, ?_⟩
    · exact markTo_step k xs g (by omega)
    refine ⟨?_, ?_⟩
    · exact rfl
    refine ⟨?_, ?_⟩
    · first | omega | rfl | (simp; done) | (simp <;> omega)
    first | omega | rfl | (simp; done) | (simp <;> omega)
  · intro b2
    simp only [nrmT] at b2
    refine ⟨?_, ?_⟩
    · first | omega | rfl | (simp; done) | (simp <;> omega)
    rw [show g = xs.length by omega]; exact markTo_all k xs
theorem laws_markIntS_w_pw (xs : List Int) (k : Int) (hk : 0 ≤ k) (hn : k + (xs.length : Int) ≤ 9223372036854775807) : PW Try.prog 35 3 xs (marks k xs.length) k (k + (xs.length : Int)) :=
  pw_by Try.func35 @Try.call35 (by kernel_rfl) laws_markIntS_w_C (laws_markIntS_w_A xs k) (by kernel_rfl) (Nat.le_of_eq (marks_len _ _)) (laws_markIntS_w_vc xs k hk hn) (by kernel_rfl)
def laws_markIntSS_g_C (f : FuncId) (ms : List MV) : Option Int := bif Nat.beq f 35 then (match ms with
  | [.shp (.ints n), .int k] => some (k + (n : Int))
  | _ => none) else none
def laws_markIntSS_g_A (ns : List Nat) (k : Int) : MAnn := .two (.none) (.two (.two (.none) (.loop ns.length (fun g => [(0, .shp (.rows ns)), (1, .int (k + ((ns.take g).sum : Int))), (5, .int (g : Int))]) (fun g => []) (fun g => .none))) (.none))
def laws_markIntSS_g_P (ns : List Nat) (k : Int) : Prop :=
  (((([] : List Int) = []) ∧ ((.rows ns : Sh) = .rows ns) ∧ ((k : Int) = (k + ((ns.take (0 : Nat)).sum : Int))) ∧ ((0 : Int) = ((0 : Nat) : Int))) ∧ (∀ g : Nat, g ≤ ns.length → (((decide ((g : Int) < ((ns.length : Nat) : Int))) = true → ((0 : Int) ≤ (g : Int)) ∧ (((g : Int) : Int) < ((ns.length : Nat) : Int)) ∧ (PG Try.prog 35 [.shp (.ints (ns.getD ((g : Int).toNat) 0)), .int (k + ((ns.take g).sum : Int))] ((k + ((ns.take g).sum : Int)) + ((ns.getD ((g : Int).toNat) 0) : Int))) ∧ (-9223372036854775808 ≤ ((g : Int) + 1) ∧ ((g : Int) + 1) ≤ 9223372036854775807) ∧ ((g + 1 ≤ ns.length) ∧ (([] : List Int) = []) ∧ ((.rows ns : Sh) = .rows ns) ∧ ((((k + ((ns.take g).sum : Int)) + ((ns.getD ((g : Int).toNat) 0) : Int)) : Int) = (k + ((ns.take (g + 1 : Nat)).sum : Int))) ∧ ((((g : Int) + 1) : Int) = ((g + 1 : Nat) : Int)))) ∧ ((decide ((g : Int) < ((ns.length : Nat) : Int))) = false → (((((k + ((ns.take g).sum : Int)) : Int) = k + (ns.sum : Int))) ∧ ((([] : List Int) = [])))))))
theorem laws_markIntSS_g_vc (ns : List Nat) (k : Int) (hk : 0 ≤ k) (hl : (ns.length : Int) ≤ 9223372036854775807) (hn : k + (ns.sum : Int) ≤ 9223372036854775807) : laws_markIntSS_g_P ns k := by
  unfold laws_markIntSS_g_P
  refine ⟨?_, ?_⟩
  · refine ⟨?_, ?_⟩
    · exact rfl
    refine ⟨?_, ?_⟩
    · exact rfl
    refine ⟨?_, ?_⟩
    · first | omega | rfl | (simp; done) | (simp <;> omega)
    first | omega | rfl | (simp; done) | (simp <;> omega)
  intro g hg
  refine ⟨?_, ?_⟩
  · intro b1
    simp only [nrmT] at b1
    refine ⟨?_, ?_⟩
    · first | omega | rfl | (simp; done) | (simp <;> omega)
    refine ⟨?_, ?_⟩
    · first | omega | rfl | (simp; done) | (simp <;> omega)
    refine ⟨?_, ?_⟩
    · refine laws_markIntS_g_pg (ns.getD ((g : Int).toNat) 0) (k + ((ns.take g).sum : Int)) ?_ ?_
      · first | omega | rfl | (simp; done) | (simp <;> omega)
      · have := sum_take_le ns (g + 1); rw [sum_take ns g (by omega)] at this; simp only [Int.toNat_natCast]; omega
    refine ⟨?_, ?_⟩
    · first | omega | rfl | (simp; done) | (simp <;> omega)
    refine ⟨?_, ?_⟩
    · first | omega | rfl | (simp; done) | (simp <;> omega)
    refine ⟨?_, ?_⟩
    · exact rfl
    refine ⟨?_, ?_⟩
    · exact rfl
    refine ⟨?_, ?_⟩
    · rw [sum_take ns g (by omega)]; simp; omega
    first | omega | rfl | (simp; done) | (simp <;> omega)
  · intro b2
    simp only [nrmT] at b2
    refine ⟨?_, ?_⟩
    · rw [show g = ns.length by omega]; simp
    exact rfl
theorem laws_markIntSS_g_pg (ns : List Nat) (k : Int) (hk : 0 ≤ k) (hl : (ns.length : Int) ≤ 9223372036854775807) (hn : k + (ns.sum : Int) ≤ 9223372036854775807) : PG Try.prog 103 [.shp (.rows ns), .int k] (k + (ns.sum : Int)) :=
  pg_by Try.func103 @Try.call103 (by kernel_rfl) laws_markIntSS_g_C (laws_markIntSS_g_A ns k) (by kernel_rfl) (laws_markIntSS_g_vc ns k hk hl hn) (by kernel_rfl)
def laws_markSystem_g_C (f : FuncId) (ms : List MV) : Option Int := bif Nat.beq f 103 then (match ms with
  | [.shp (.rows ns), .int k] => some (k + (ns.sum : Int))
  | _ => none) else bif Nat.beq f 35 then (match ms with
  | [.shp (.ints n), .int k] => some (k + (n : Int))
  | _ => none) else none
def laws_markSystem_g_A (ns : List Nat) (n : Nat) (k : Int) : MAnn := .none
def laws_markSystem_g_P (ns : List Nat) (n : Nat) (k : Int) : Prop :=
  (PG Try.prog 103 [.shp (.rows ns), .int k] (k + (ns.sum : Int))) ∧ (PG Try.prog 35 [.shp (.ints n), .int (k + (ns.sum : Int))] ((k + (ns.sum : Int)) + (n : Int))) ∧ ((((((k + (ns.sum : Int)) + (n : Int)) : Int) = k + (ns.sum : Int) + (n : Int))) ∧ ((([] : List Int) = [])))
theorem laws_markSystem_g_vc (ns : List Nat) (n : Nat) (k : Int) (hk : 0 ≤ k) (hl : (ns.length : Int) ≤ 9223372036854775807) (hn : k + (ns.sum : Int) + (n : Int) ≤ 9223372036854775807) : laws_markSystem_g_P ns n k := by
  unfold laws_markSystem_g_P
  refine ⟨?_, ?_⟩
  · refine laws_markIntSS_g_pg ns k ?_ ?_ ?_
    · first | omega | rfl | (simp; done) | (simp <;> omega)
    · first | omega | rfl | (simp; done) | (simp <;> omega)
    · first | omega | rfl | (simp; done) | (simp <;> omega)
  refine ⟨?_, ?_⟩
  · refine laws_markIntS_g_pg n (k + (ns.sum : Int)) ?_ ?_
    · first | omega | rfl | (simp; done) | (simp <;> omega)
    · first | omega | rfl | (simp; done) | (simp <;> omega)
  refine ⟨?_, ?_⟩
  · first | omega | rfl | (simp; done) | (simp <;> omega)
  exact rfl
theorem laws_markSystem_g_pg (ns : List Nat) (n : Nat) (k : Int) (hk : 0 ≤ k) (hl : (ns.length : Int) ≤ 9223372036854775807) (hn : k + (ns.sum : Int) + (n : Int) ≤ 9223372036854775807) : PG Try.prog 49 [.agg [.any, .rows ns, .ints n], .int k] (k + (ns.sum : Int) + (n : Int)) :=
  pg_by Try.func49 @Try.call49 (by kernel_rfl) laws_markSystem_g_C (laws_markSystem_g_A ns n k) (by kernel_rfl) (laws_markSystem_g_vc ns n k hk hl hn) (by kernel_rfl)
theorem marks_getD (k : Int) (n i : Nat) (h : i < n) : (marks k n).getD i 0 = k + (i : Int) := by
  simp [marks, h]
abbrev l_heldIntS_JJ0 (xs : List Int) (k : Int) (k2 : Int) (i : Int) : Prop := (0 ≤ i) ∧ (i ≤ (xs.length : Int)) ∧ (k2 = k + i)
abbrev l_heldIntS_mJ0 (xs : List Int) (k : Int) (k2 : Int) (i : Int) : Nat := (xs.length - i).toNat
def l_heldIntS_C (f : FuncId) (ds : List D) : Orc := .no
def l_heldIntS_A (xs : List Int) (k : Int) : Ann := .two (.none) (.two (.two (.none) (.loop (cut2 (fun (k2 : Int) (i : Int) => l_heldIntS_JJ0 xs k k2 i) (fun (k2 : Int) (i : Int) => [(0, .d false (.sl (.ints xs))), (1, .d true (.int .i64 k2)), (5, .d true (.int .i64 i))]) (fun (k2 : Int) (i : Int) => [])) (fun g => l_heldIntS_mJ0 xs k g.1 g.2) (fun _ => .none))) (.none))
def l_heldIntS_P (xs : List Int) (k : Int) : Prop :=
  ((∃ k2' : Int, ∃ i' : Int, (l_heldIntS_JJ0 xs k k2' i') ∧ (xs = xs) ∧ (k = k2') ∧ ((0 : Int) = i')) ∧ (∀ k2 : Int, ∀ i : Int, (l_heldIntS_JJ0 xs k k2 i) → (((decide (i < (xs.length : Int))) = true → ((0 : Int) ≤ i) ∧ ((i : Int) < xs.length) ∧ (i.toNat < xs.length) ∧ ((((xs.getD i.toNat 0) != k2) = true → ((((-1) : Int) = (k + (xs.length : Int))))) ∧ (((xs.getD i.toNat 0) != k2) = false → (-9223372036854775808 ≤ (k2 + 1) ∧ (k2 + 1) ≤ 9223372036854775807) ∧ (-9223372036854775808 ≤ (i + 1) ∧ (i + 1) ≤ 9223372036854775807) ∧ (∃ k2' : Int, ∃ i' : Int, (l_heldIntS_JJ0 xs k k2' i') ∧ (l_heldIntS_mJ0 xs k k2' i' < l_heldIntS_mJ0 xs k k2 i) ∧ (xs = xs) ∧ ((k2 + 1) = k2') ∧ ((i + 1) = i'))))) ∧ ((decide (i < (xs.length : Int))) = false → ((k2 = (k + (xs.length : Int))))))))
theorem l_heldIntS_vc (xs : List Int) (k : Int) (hk : 0 ≤ k) (hx : xs = marks k xs.length) (hn : k + (xs.length : Int) ≤ 9223372036854775807) (w_xs : (xs.length : Int) ≤ 9223372036854775807) : l_heldIntS_P xs k := by
  unfold l_heldIntS_P
  refine ⟨?_, ?_⟩
  · refine ⟨k, 0, ?_⟩
    refine ⟨?_, rfl, rfl, rfl⟩
    · refine ⟨?_, ?_, ?_⟩
      · first | omega | rfl | (intro hg; simp only [nrmT] at hg; omega) | (intro g1 g2; simp [g1, g2]; done) | (intro g1; simp at g1 ⊢; simp [g1]; done) | (simp only [nrmT] at *; omega) | (simp at * <;> omega) | (simp_all <;> omega) | (simp_all; done)
      · first | omega | rfl | (intro hg; simp only [nrmT] at hg; omega) | (intro g1 g2; simp [g1, g2]; done) | (intro g1; simp at g1 ⊢; simp [g1]; done) | (simp only [nrmT] at *; omega) | (simp at * <;> omega) | (simp_all <;> omega) | (simp_all; done)
      · first | omega | rfl | (intro hg; simp only [nrmT] at hg; omega) | (intro g1 g2; simp [g1, g2]; done) | (intro g1; simp at g1 ⊢; simp [g1]; done) | (simp only [nrmT] at *; omega) | (simp at * <;> omega) | (simp_all <;> omega) | (simp_all; done)
  · intro k2 i hJ
    obtain ⟨h1, h2, h3⟩ := hJ
    refine ⟨?_, ?_⟩
    · intro b1
      try simp only [nrmT] at b1
      refine ⟨?_, ?_, ?_, ?_, ?_⟩
      · first | omega | rfl | (intro hg; simp only [nrmT] at hg; omega) | (intro g1 g2; simp [g1, g2]; done) | (intro g1; simp at g1 ⊢; simp [g1]; done) | (simp only [nrmT] at *; omega) | (simp at * <;> omega) | (simp_all <;> omega) | (simp_all; done)
      · first | omega | rfl | (intro hg; simp only [nrmT] at hg; omega) | (intro g1 g2; simp [g1, g2]; done) | (intro g1; simp at g1 ⊢; simp [g1]; done) | (simp only [nrmT] at *; omega) | (simp at * <;> omega) | (simp_all <;> omega) | (simp_all; done)
      · first | omega | rfl | (intro hg; simp only [nrmT] at hg; omega) | (intro g1 g2; simp [g1, g2]; done) | (intro g1; simp at g1 ⊢; simp [g1]; done) | (simp only [nrmT] at *; omega) | (simp at * <;> omega) | (simp_all <;> omega) | (simp_all; done)
      · intro b2
        try simp only [nrmT] at b2
        exfalso
        have h9 : xs.getD i.toNat 0 = k + (i.toNat : Int) := by
          rw [hx]; exact marks_getD k _ _ (by omega)
        omega
      · intro b3
        try simp only [nrmT] at b3
        refine ⟨?_, ?_, ?_⟩
        · first | omega | rfl | (intro hg; simp only [nrmT] at hg; omega) | (intro g1 g2; simp [g1, g2]; done) | (intro g1; simp at g1 ⊢; simp [g1]; done) | (simp only [nrmT] at *; omega) | (simp at * <;> omega) | (simp_all <;> omega) | (simp_all; done)
        · first | omega | rfl | (intro hg; simp only [nrmT] at hg; omega) | (intro g1 g2; simp [g1, g2]; done) | (intro g1; simp at g1 ⊢; simp [g1]; done) | (simp only [nrmT] at *; omega) | (simp at * <;> omega) | (simp_all <;> omega) | (simp_all; done)
        · refine ⟨(k2 + 1), (i + 1), ?_⟩
          refine ⟨?_, ?_, rfl, rfl, rfl⟩
          · refine ⟨?_, ?_, ?_⟩
            · first | omega | rfl | (intro hg; simp only [nrmT] at hg; omega) | (intro g1 g2; simp [g1, g2]; done) | (intro g1; simp at g1 ⊢; simp [g1]; done) | (simp only [nrmT] at *; omega) | (simp at * <;> omega) | (simp_all <;> omega) | (simp_all; done)
            · first | omega | rfl | (intro hg; simp only [nrmT] at hg; omega) | (intro g1 g2; simp [g1, g2]; done) | (intro g1; simp at g1 ⊢; simp [g1]; done) | (simp only [nrmT] at *; omega) | (simp at * <;> omega) | (simp_all <;> omega) | (simp_all; done)
            · first | omega | rfl | (intro hg; simp only [nrmT] at hg; omega) | (intro g1 g2; simp [g1, g2]; done) | (intro g1; simp at g1 ⊢; simp [g1]; done) | (simp only [nrmT] at *; omega) | (simp at * <;> omega) | (simp_all <;> omega) | (simp_all; done)
          · first | (show _ < _; omega) | (simp only [l_heldIntS_mJ0]; omega) | (simp only [l_heldIntS_mJ0] at *; simp at *; omega)
    · intro b4
      try simp only [nrmT] at b4
      first | omega | rfl | (intro hg; simp only [nrmT] at hg; omega) | (intro g1 g2; simp [g1, g2]; done) | (intro g1; simp at g1 ⊢; simp [g1]; done) | (simp only [nrmT] at *; omega) | (simp at * <;> omega) | (simp_all <;> omega) | (simp_all; done)
theorem l_heldIntS_pc (xs : List Int) (k : Int) (hk : 0 ≤ k) (hx : xs = marks k xs.length) (hn : k + (xs.length : Int) ≤ 9223372036854775807) : PC Try.prog 36 [.sl (.ints xs), .int .i64 k] (.one (.d (.int .i64 (k + (xs.length : Int))))) :=
  pc_wf @Try.call36 fun hw => pc_by (by kernel_rfl) Try.func36 @Try.call36 (by kernel_rfl) l_heldIntS_C (l_heldIntS_A xs k) (by kernel_rfl) (l_heldIntS_vc xs k hk hx hn hw.1) (by kernel_rfl)
def l_heldIntS_orc : List D → Orc := orcN [some .ints, none] fun ds => match ds with
  | [.sl (.ints xs), .int .i64 k] => some (.one (.d (.int .i64 (k + (xs.length : Int)))))
  | _ => none
theorem sum_lens : ∀ (xss : List (List Int)) (m : Nat), (∀ xs ∈ xss, xs.length ≤ m) → (xss.map List.length).sum ≤ xss.length * m
  | [], m, _ => by simp
  | xs :: r, m, h => by
    have h1 := sum_lens r m fun ys hy => h ys (by simp [hy])
    have h2 := h xs (by simp)
    simp only [List.map_cons, List.sum_cons, List.length_cons, Nat.add_mul]
    omega
theorem sum_lens20 {xss : List (List Int)} (h1 : xss.length ≤ 1048576) (h2 : ∀ xs ∈ xss, xs.length ≤ 1048576) : (xss.map List.length).sum ≤ 1099511627776 := by
  have h3 := sum_lens xss 1048576 h2
  have h4 := Nat.mul_le_mul_right 1048576 h1
  omega
theorem cond_and_or : ∀ a b c : Bool, cond a (cond b true c) false = (a && (b || c)) := by decide
def s_l1Most_C (f : FuncId) (ds : List D) : Orc := .no
def s_l1Most_A (a : Int) (b : Int) : Ann := .none
def s_l1Most_P (a : Int) (b : Int) : Prop :=
  (((decide (a > b)) = true → ((a = (max a b)))) ∧ ((decide (a > b)) = false → ((b = (max a b)))))
theorem s_l1Most_vc (a : Int) (b : Int)   : s_l1Most_P a b := by
  unfold s_l1Most_P
  refine ⟨?_, ?_⟩
  · intro b1
    try simp only [nrmT] at b1
    first | omega | rfl | (intro hg; simp only [nrmT] at hg; omega) | (intro g1 g2; simp [g1, g2]; done) | (intro g1; simp at g1 ⊢; simp [g1]; done) | (simp only [nrmT] at *; omega) | (simp at * <;> omega) | (simp_all <;> omega) | (simp_all; done)
  · intro b2
    try simp only [nrmT] at b2
    first | omega | rfl | (intro hg; simp only [nrmT] at hg; omega) | (intro g1 g2; simp [g1, g2]; done) | (intro g1; simp at g1 ⊢; simp [g1]; done) | (simp only [nrmT] at *; omega) | (simp at * <;> omega) | (simp_all <;> omega) | (simp_all; done)
theorem s_l1Most_pc (a : Int) (b : Int)  : PC Try.prog 114 [.int .i64 a, .int .i64 b] (.one (.d (.int .i64 (max a b)))) :=
  pc_wf @Try.call114 fun _ => pc_by (by kernel_rfl) Try.func114 @Try.call114 (by kernel_rfl) s_l1Most_C (s_l1Most_A a b) (by kernel_rfl) (s_l1Most_vc a b) (by kernel_rfl)
def s_l1Most_orc : List D → Orc := orcN [none, none] fun ds => match ds with
  | [.int .i64 a, .int .i64 b] => some (.one (.d (.int .i64 (max a b))))
  | _ => none
def roomF (Sets : List (List Int)) (Costs prices : List Int) (x : Int) (b : Int) (i : Nat) : Int :=
  if ((Sets.getD i []).contains x && (decide (b < 0) || decide (Costs.getD i 0 - priced (Sets.getD i []) prices < b))) = true then Costs.getD i 0 - priced (Sets.getD i []) prices else b
def roomTo (Sets : List (List Int)) (Costs prices : List Int) (x : Int) (k : Nat) : Int := foldTo (roomF Sets Costs prices x) (-1) k
theorem roomTo_succ (Sets : List (List Int)) (Costs prices : List Int) (x : Int) (k : Nat) : roomTo Sets Costs prices x (k + 1) = roomF Sets Costs prices x (roomTo Sets Costs prices x k) k := rfl
def raiseF (Sets : List (List Int)) (Costs : List Int) (p : List Int) (x : Nat) : List Int := p.set x (max 0 (roomTo Sets Costs p (x : Int) Sets.length))
def raiseTo (Size : Int) (Sets : List (List Int)) (Costs : List Int) (x : Nat) : List Int := foldTo (raiseF Sets Costs) (List.replicate Size.toNat 0) x
theorem raiseTo_succ (Size : Int) (Sets : List (List Int)) (Costs : List Int) (x : Nat) : raiseTo Size Sets Costs (x + 1) = raiseF Sets Costs (raiseTo Size Sets Costs x) x := rfl
theorem priced_nonneg {size : Int} {set prices : List Int} (h : rising set 0 (size - 1) = true) (hp : rowOk prices size 1000000 = true) : 0 ≤ priced set prices :=
  (sumTo_bound (f := pricedAt set prices) set.length (fun k hk => pricedAt_bound h hp hk)).1
theorem rowOk_mk {row : List Int} {n most : Int} (hl : (row.length : Int) = n) (hb : ∀ x ∈ row, 0 ≤ x ∧ x ≤ most) : rowOk row n most = true := by
  unfold rowOk
  rw [Bool.and_eq_true]
  exact ⟨List.all_eq_true.2 fun x hx => decide_eq_true (hb x hx), decide_eq_true hl⟩
theorem roomTo_le {Size : Int} {Sets : List (List Int)} {Costs prices : List Int} (h : goodSys Size Sets Costs = true) (hp : rowOk prices Size 1000000 = true) (x : Int) : ∀ k, k ≤ Sets.length → roomTo Sets Costs prices x k ≤ 99
  | 0, _ => by simp [roomTo, foldTo]
  | k + 1, hk => by
    have gf := gs_facts h
    rw [roomTo_succ]
    unfold roomF
    split
    · have := priced_nonneg (gs_set h (k := k) (by omega)) hp
      have := gs_cost h (k := k) (by omega)
      omega
    · exact roomTo_le h hp x k (by omega)
theorem mem_set {xs : List Int} {k : Nat} {v y : Int} (h : y ∈ xs.set k v) : y ∈ xs ∨ y = v := by
  rcases List.mem_or_eq_of_mem_set h with h | h
  · exact .inl h
  · exact .inr h
theorem raiseTo_ok {Size : Int} {Sets : List (List Int)} {Costs : List Int} (h : goodSys Size Sets Costs = true) : ∀ k, (raiseTo Size Sets Costs k).length = Size.toNat ∧ ∀ x ∈ raiseTo Size Sets Costs k, 0 ≤ x ∧ x ≤ 99
  | 0 => ⟨by simp [raiseTo, foldTo], fun x hx => by
      have := List.eq_of_mem_replicate hx
      omega⟩
  | k + 1 => by
    obtain ⟨h1, h2⟩ := raiseTo_ok h k
    have gf := gs_facts h
    rw [raiseTo_succ]
    unfold raiseF
    refine ⟨by rw [List.length_set, h1], fun x hx => ?_⟩
    rcases mem_set hx with hx | rfl
    · exact h2 x hx
    · have := roomTo_le h (prices := raiseTo Size Sets Costs k) (rowOk_mk (by omega) fun x hx => by have := h2 x hx; omega) (k : Int) Sets.length (Nat.le_refl _)
      omega
theorem raiseTo_row {Size : Int} {Sets : List (List Int)} {Costs : List Int} (h : goodSys Size Sets Costs = true) (k : Nat) : rowOk (raiseTo Size Sets Costs k) Size 1000000 = true := by
  have gf := gs_facts h
  obtain ⟨h1, h2⟩ := raiseTo_ok h k
  exact rowOk_mk (by omega) fun x hx => by have := h2 x hx; omega
def tightAt (Size : Int) (Sets : List (List Int)) (Costs : List Int) (k : Nat) : Bool := decide (priced (Sets.getD k []) (raiseTo Size Sets Costs Size.toNat) = Costs.getD k 0)
def raiseP (Size : Int) (Sets : List (List Int)) (Costs : List Int) : List Int := if goodSys Size Sets Costs = true then raiseTo Size Sets Costs Size.toNat else []
def raiseC (Size : Int) (Sets : List (List Int)) (Costs : List Int) : List Int := if goodSys Size Sets Costs = true then members (tightAt Size Sets Costs) Sets.length else []
theorem raiseP_len {Size : Int} {Sets : List (List Int)} {Costs : List Int} : (raiseP Size Sets Costs).length ≤ 8 := by
  unfold raiseP
  split
  · rename_i h
    have := gs_facts h
    have := (raiseTo_ok h Size.toNat).1
    omega
  · simp
theorem raiseC_len {Size : Int} {Sets : List (List Int)} {Costs : List Int} : (raiseC Size Sets Costs).length ≤ 8 := by
  unfold raiseC
  split
  · rename_i h
    have := gs_facts h
    have := members_len_le (tightAt Size Sets Costs) Sets.length
    omega
  · simp
abbrev s_RaisePrices_JJ0 (Size : Int) (Sets : List (List Int)) (Costs : List Int) (prices : List Int) (x : Int) : Prop := (goodSys Size Sets Costs = true) ∧ (0 ≤ x) ∧ (x ≤ Size) ∧ (prices = raiseTo Size Sets Costs x.toNat)
abbrev s_RaisePrices_mJ0 (Size : Int) (Sets : List (List Int)) (Costs : List Int) (prices : List Int) (x : Int) : Nat := (Size - x).toNat
abbrev s_RaisePrices_JA0 (Size : Int) (Sets : List (List Int)) (Costs : List Int) (prices : List Int) : Prop := (goodSys Size Sets Costs = true) ∧ (prices = raiseTo Size Sets Costs Size.toNat)
abbrev s_RaisePrices_JJ1 (Size : Int) (Sets : List (List Int)) (Costs : List Int) (prices : List Int) (x : Int) (room : Int) (j : Int) : Prop := (0 ≤ j) ∧ (j ≤ (Sets.length : Int)) ∧ (room = roomTo Sets Costs prices x j.toNat)
abbrev s_RaisePrices_mJ1 (Size : Int) (Sets : List (List Int)) (Costs : List Int) (prices : List Int) (x : Int) (room : Int) (j : Int) : Nat := (Sets.length - j).toNat
abbrev s_RaisePrices_JJ2 (Size : Int) (Sets : List (List Int)) (Costs : List Int) (prices : List Int) (choice : List Int) (i : Int) : Prop := (0 ≤ i) ∧ (i ≤ (Sets.length : Int)) ∧ (choice = members (tightAt Size Sets Costs) i.toNat)
abbrev s_RaisePrices_mJ2 (Size : Int) (Sets : List (List Int)) (Costs : List Int) (prices : List Int) (choice : List Int) (i : Int) : Nat := (Sets.length - i).toNat
def s_RaisePrices_C (f : FuncId) (ds : List D) : Orc := bif Nat.beq f 117 then s_l6Good_orc ds else bif Nat.beq f 121 then s_l6Priced_orc ds else bif Nat.beq f 122 then s_l1Has_orc ds else bif Nat.beq f 114 then s_l1Most_orc ds else .no
def s_RaisePrices_A (Size : Int) (Sets : List (List Int)) (Costs : List Int) : Ann := .two (.none) (.two (.none) (.two (.none) (.cut (.two (.none) (.loop (cut2 (fun (prices : List Int) (x : Int) => s_RaisePrices_JJ0 Size Sets Costs prices x) (fun (prices : List Int) (x : Int) => [(1, .ptr 1 0), (5, .own 19 prices.length), (6, .own 20 0), (7, .d true (.int .i64 x))]) (fun (prices : List Int) (x : Int) => [(19, .arr true 3 (.ints prices)), (1, .box 50 [.d false (.int .i64 Size), .d false (.sl (.rows Sets)), .d false (.sl (.ints Costs))]), (20, .arr true 3 (.ints ([])))])) (fun g => s_RaisePrices_mJ0 Size Sets Costs g.1 g.2) (fun g => (fun (prices : List Int) (x : Int) => .two (.none) (.two (.two (.none) (.two (.two (.none) (.loop (cut2 (fun (room : Int) (j : Int) => s_RaisePrices_JJ1 Size Sets Costs prices x room j) (fun (room : Int) (j : Int) => [(1, .ptr 1 0), (5, .own 19 prices.length), (6, .own 20 0), (7, .d true (.int .i64 x)), (8, .d true (.int .i64 room)), (9, .d true (.int .i64 j))]) (fun (room : Int) (j : Int) => [(1, .box 50 [.d false (.int .i64 Size), .d false (.sl (.rows Sets)), .d false (.sl (.ints Costs))]), (19, .arr true 3 (.ints prices)), (20, .arr true 3 (.ints ([])))])) (fun g => s_RaisePrices_mJ1 Size Sets Costs prices x g.1 g.2) (fun _ => .none))) (.none))) (.none))) (g.1) (g.2)))) (cut1 (fun (prices : List Int) => s_RaisePrices_JA0 Size Sets Costs prices) (fun (prices : List Int) => [(1, .ptr 1 0), (5, .own 1000050 prices.length), (6, .own 20 0)]) (fun (prices : List Int) => [(1000050, .arr true 3 (.ints prices)), (1, .box 50 [.d false (.int .i64 Size), .d false (.sl (.rows Sets)), .d false (.sl (.ints Costs))]), (20, .arr true 3 (.ints ([])))])) (fun g => (fun (prices : List Int) => .two (.two (.none) (.loop (cut2 (fun (choice : List Int) (i : Int) => s_RaisePrices_JJ2 Size Sets Costs prices choice i) (fun (choice : List Int) (i : Int) => [(1, .ptr 1 0), (5, .own 1000050 prices.length), (6, .own 1000200 choice.length), (11, .d true (.int .i64 i))]) (fun (choice : List Int) (i : Int) => [(1000200, .arr true 3 (.ints choice)), (1, .box 50 [.d false (.int .i64 Size), .d false (.sl (.rows Sets)), .d false (.sl (.ints Costs))]), (1000050, .arr true 3 (.ints prices))])) (fun g => s_RaisePrices_mJ2 Size Sets Costs prices g.1 g.2) (fun _ => .none))) (.none)) g))))
def s_RaisePrices_P (Size : Int) (Sets : List (List Int)) (Costs : List Int) : Prop :=
  (PC Try.prog 117 [.agg [.int .i64 Size, .sl (.rows Sets), .sl (.ints Costs)]] (.one (.d (.bool (goodSys Size Sets Costs))))) ∧ (((!(goodSys Size Sets Costs)) = true → (((0 : Nat) = 0) ∧ (([] : List Int) = (raiseP Size Sets Costs)) ∧ ((0 : Nat) = 0) ∧ (([] : List Int) = (raiseC Size Sets Costs)) ∧ (false = (goodSys Size Sets Costs)))) ∧ ((!(goodSys Size Sets Costs)) = false → (Size = Size) ∧ ((0 : Int) ≤ Size) ∧ ((Size : Int) * ((8 : Nat) : Int) ≤ 140737488355328) ∧ (((∃ prices' : List Int, ∃ x' : Int, (s_RaisePrices_JJ0 Size Sets Costs prices' x') ∧ (Size.toNat = prices'.length) ∧ ((0 : Nat) = 0) ∧ ((0 : Int) = x') ∧ ((List.replicate Size.toNat (0 : Int)) = prices') ∧ (Size = Size) ∧ (Sets = Sets) ∧ (Costs = Costs) ∧ (([] : List Int) = [])) ∧ (∀ prices : List Int, ∀ x : Int, (s_RaisePrices_JJ0 Size Sets Costs prices x) → (((decide (x < Size)) = true → ((∃ room' : Int, ∃ j' : Int, (s_RaisePrices_JJ1 Size Sets Costs prices x room' j') ∧ (prices.length = prices.length) ∧ ((0 : Nat) = 0) ∧ (x = x) ∧ (((-1) : Int) = room') ∧ ((0 : Int) = j') ∧ (Size = Size) ∧ (Sets = Sets) ∧ (Costs = Costs) ∧ (prices = prices) ∧ (([] : List Int) = [])) ∧ (∀ room : Int, ∀ j : Int, (s_RaisePrices_JJ1 Size Sets Costs prices x room j) → (((decide (j < (Sets.length : Int))) = true → (true = true) ∧ ((0 : Int) ≤ j) ∧ ((j : Int) < Costs.length) ∧ (j.toNat < Costs.length) ∧ ((0 : Int) ≤ j) ∧ ((j : Int) < Sets.length) ∧ (j.toNat < Sets.length) ∧ (prices.length = prices.length) ∧ (PC Try.prog 121 [.sl (.ints (Sets.getD j.toNat [])), .sl (.ints prices)] (.one (.d (.int .i64 (priced (Sets.getD j.toNat []) prices))))) ∧ (-9223372036854775808 ≤ ((Costs.getD j.toNat 0) - (priced (Sets.getD j.toNat []) prices)) ∧ ((Costs.getD j.toNat 0) - (priced (Sets.getD j.toNat []) prices)) ≤ 9223372036854775807) ∧ ((0 : Int) ≤ j) ∧ ((j : Int) < Sets.length) ∧ (j.toNat < Sets.length) ∧ (PC Try.prog 122 [.sl (.ints (Sets.getD j.toNat [])), .int .i64 x] (.one (.d (.bool ((Sets.getD j.toNat []).contains x))))) ∧ (((Sets.getD j.toNat []).contains x) = true → ((Sets.getD j.toNat []).contains x) = true) ∧ (((Sets.getD j.toNat []).contains x) = true → ((Sets.getD j.toNat []).contains x) = true) ∧ ((((Sets.getD j.toNat []).contains x) && (!(decide (room < 0)))) = true → (((Sets.getD j.toNat []).contains x) && (!(decide (room < 0)))) = true) ∧ ((((Sets.getD j.toNat []).contains x) && (!(decide (room < 0)))) = true → (((Sets.getD j.toNat []).contains x) && (!(decide (room < 0)))) = true) ∧ ((((Sets.getD j.toNat []).contains x) = true → ((Sets.getD j.toNat []).contains x) = true)) ∧ ((((Sets.getD j.toNat []).contains x) = true → (decide (room < 0)) = true → true = true)) ∧ ((((Sets.getD j.toNat []).contains x) = true → (decide (room < 0)) = false → (((Sets.getD j.toNat []).contains x) && (!(decide (room < 0)))) = true)) ∧ (true = true) ∧ ((((Sets.getD j.toNat []).contains x) = true → ((Sets.getD j.toNat []).contains x) = true)) ∧ ((((Sets.getD j.toNat []).contains x) = false → true = true)) ∧ (((cond ((Sets.getD j.toNat []).contains x) (cond (decide (room < 0)) true (decide (((Costs.getD j.toNat 0) - (priced (Sets.getD j.toNat []) prices)) < room))) false) = true → (-9223372036854775808 ≤ (j + 1) ∧ (j + 1) ≤ 9223372036854775807) ∧ (∃ room' : Int, ∃ j' : Int, (s_RaisePrices_JJ1 Size Sets Costs prices x room' j') ∧ (s_RaisePrices_mJ1 Size Sets Costs prices x room' j' < s_RaisePrices_mJ1 Size Sets Costs prices x room j) ∧ (prices.length = prices.length) ∧ ((0 : Nat) = 0) ∧ (x = x) ∧ (((Costs.getD j.toNat 0) - (priced (Sets.getD j.toNat []) prices)) = room') ∧ ((j + 1) = j') ∧ (Size = Size) ∧ (Sets = Sets) ∧ (Costs = Costs) ∧ (prices = prices) ∧ (([] : List Int) = []))) ∧ ((cond ((Sets.getD j.toNat []).contains x) (cond (decide (room < 0)) true (decide (((Costs.getD j.toNat 0) - (priced (Sets.getD j.toNat []) prices)) < room))) false) = false → (-9223372036854775808 ≤ (j + 1) ∧ (j + 1) ≤ 9223372036854775807) ∧ (∃ room' : Int, ∃ j' : Int, (s_RaisePrices_JJ1 Size Sets Costs prices x room' j') ∧ (s_RaisePrices_mJ1 Size Sets Costs prices x room' j' < s_RaisePrices_mJ1 Size Sets Costs prices x room j) ∧ (prices.length = prices.length) ∧ ((0 : Nat) = 0) ∧ (x = x) ∧ (room = room') ∧ ((j + 1) = j') ∧ (Size = Size) ∧ (Sets = Sets) ∧ (Costs = Costs) ∧ (prices = prices) ∧ (([] : List Int) = []))))) ∧ ((decide (j < (Sets.length : Int))) = false → (PC Try.prog 114 [.int .i64 room, .int .i64 0] (.one (.d (.int .i64 (max room 0))))) ∧ ((0 : Int) ≤ x) ∧ ((x : Int) < (prices.length : Int)) ∧ (x.toNat < prices.length) ∧ (-9223372036854775808 ≤ (x + 1) ∧ (x + 1) ≤ 9223372036854775807) ∧ (∃ prices' : List Int, ∃ x' : Int, (s_RaisePrices_JJ0 Size Sets Costs prices' x') ∧ (s_RaisePrices_mJ0 Size Sets Costs prices' x' < s_RaisePrices_mJ0 Size Sets Costs prices x) ∧ (prices.length = prices'.length) ∧ ((0 : Nat) = 0) ∧ ((x + 1) = x') ∧ ((prices.set x.toNat (max room 0)) = prices') ∧ (Size = Size) ∧ (Sets = Sets) ∧ (Costs = Costs) ∧ (([] : List Int) = []))))))) ∧ ((decide (x < Size)) = false → (∃ prices' : List Int, (s_RaisePrices_JA0 Size Sets Costs prices') ∧ (prices.length = prices'.length) ∧ ((0 : Nat) = 0) ∧ (prices = prices') ∧ (Size = Size) ∧ (Sets = Sets) ∧ (Costs = Costs) ∧ (([] : List Int) = [])))))) ∧ (∀ prices : List Int, (s_RaisePrices_JA0 Size Sets Costs prices) → ((∃ choice' : List Int, ∃ i' : Int, (s_RaisePrices_JJ2 Size Sets Costs prices choice' i') ∧ (prices.length = prices.length) ∧ ((0 : Nat) = choice'.length) ∧ ((0 : Int) = i') ∧ ([] = choice') ∧ (Size = Size) ∧ (Sets = Sets) ∧ (Costs = Costs) ∧ (prices = prices)) ∧ (∀ choice : List Int, ∀ i : Int, (s_RaisePrices_JJ2 Size Sets Costs prices choice i) → (((decide (i < (Sets.length : Int))) = true → (true = true) ∧ ((0 : Int) ≤ i) ∧ ((i : Int) < Sets.length) ∧ (i.toNat < Sets.length) ∧ (prices.length = prices.length) ∧ (PC Try.prog 121 [.sl (.ints (Sets.getD i.toNat [])), .sl (.ints prices)] (.one (.d (.int .i64 (priced (Sets.getD i.toNat []) prices))))) ∧ ((0 : Int) ≤ i) ∧ ((i : Int) < Costs.length) ∧ (i.toNat < Costs.length) ∧ ((((priced (Sets.getD i.toNat []) prices) == (Costs.getD i.toNat 0)) = true → (choice.length = choice.length) ∧ ((1 : Nat) = 1) ∧ ((choice.length + 1) * 8 ≤ 140737488355328) ∧ (-9223372036854775808 ≤ (i + 1) ∧ (i + 1) ≤ 9223372036854775807) ∧ (∃ choice' : List Int, ∃ i' : Int, (s_RaisePrices_JJ2 Size Sets Costs prices choice' i') ∧ (s_RaisePrices_mJ2 Size Sets Costs prices choice' i' < s_RaisePrices_mJ2 Size Sets Costs prices choice i) ∧ (prices.length = prices.length) ∧ ((choice.length + 1) = choice'.length) ∧ ((i + 1) = i') ∧ ((choice ++ [i]) = choice') ∧ (Size = Size) ∧ (Sets = Sets) ∧ (Costs = Costs) ∧ (prices = prices))) ∧ (((priced (Sets.getD i.toNat []) prices) == (Costs.getD i.toNat 0)) = false → (-9223372036854775808 ≤ (i + 1) ∧ (i + 1) ≤ 9223372036854775807) ∧ (∃ choice' : List Int, ∃ i' : Int, (s_RaisePrices_JJ2 Size Sets Costs prices choice' i') ∧ (s_RaisePrices_mJ2 Size Sets Costs prices choice' i' < s_RaisePrices_mJ2 Size Sets Costs prices choice i) ∧ (prices.length = prices.length) ∧ (choice.length = choice'.length) ∧ ((i + 1) = i') ∧ (choice = choice') ∧ (Size = Size) ∧ (Sets = Sets) ∧ (Costs = Costs) ∧ (prices = prices))))) ∧ ((decide (i < (Sets.length : Int))) = false → ((prices.length = prices.length) ∧ ((prices : List Int) = (raiseP Size Sets Costs)) ∧ (choice.length = choice.length) ∧ ((choice : List Int) = (raiseC Size Sets Costs)) ∧ (true = (goodSys Size Sets Costs)))))))))))
theorem s_RaisePrices_vc (Size : Int) (Sets : List (List Int)) (Costs : List Int)  (w_Sets : (Sets.length : Int) ≤ 9223372036854775807) (v_Sets : ∀ x9 ∈ Sets, (x9.length : Int) ≤ 9223372036854775807) (w_Costs : (Costs.length : Int) ≤ 9223372036854775807) : s_RaisePrices_P Size Sets Costs := by
  unfold s_RaisePrices_P
  refine ⟨s_l6Good_pc Size Sets Costs, ?_, ?_⟩
  · intro b1
    try simp only [nrmT] at b1
    refine ⟨rfl, ?_, rfl, ?_, ?_⟩
    · unfold raiseP; rw [b1]; rfl
    · unfold raiseC; rw [b1]; rfl
    · exact b1.symm
  · intro b2
    try simp only [nrmT] at b2
    refine ⟨rfl, ?_, ?_, ?_, ?_⟩
    · have gf := gs_facts (by first | exact hg | exact hg2 | exact b2)
      omega
    · have gf := gs_facts (by first | exact hg | exact hg2 | exact b2)
      omega
    · refine ⟨?_, ?_⟩
      · refine ⟨(List.replicate Size.toNat (0 : Int)), 0, ?_⟩
        refine ⟨?_, ?_, rfl, rfl, rfl, rfl, rfl, rfl, rfl⟩
        · refine ⟨?_, ?_, ?_, ?_⟩
          · first | exact hg | exact hg2 | exact b2
          · first | omega | rfl | (intro hg; simp only [nrmT] at hg; omega) | (intro g1 g2; simp [g1, g2]; done) | (intro g1; simp at g1 ⊢; simp [g1]; done) | (simp only [nrmT] at *; omega) | (simp at * <;> omega) | (simp_all <;> omega) | (simp_all; done)
          · have gf := gs_facts (by first | exact hg | exact hg2 | exact b2)
            omega
          · rfl
        · first | omega | rfl | (intro hg; simp only [nrmT] at hg; omega) | (intro g1 g2; simp [g1, g2]; done) | (intro g1; simp at g1 ⊢; simp [g1]; done) | (simp only [nrmT] at *; omega) | (simp at * <;> omega) | (simp_all <;> omega) | (simp_all; done)
      · intro prices x hJ
        obtain ⟨hg, h1, h2, h3⟩ := hJ
        refine ⟨?_, ?_⟩
        · intro b3
          try simp only [nrmT] at b3
          refine ⟨?_, ?_⟩
          · refine ⟨(-1), 0, ?_⟩
            refine ⟨?_, rfl, rfl, rfl, rfl, rfl, rfl, rfl, rfl, rfl, rfl⟩
            · refine ⟨?_, ?_, ?_⟩
              · first | omega | rfl | (intro hg; simp only [nrmT] at hg; omega) | (intro g1 g2; simp [g1, g2]; done) | (intro g1; simp at g1 ⊢; simp [g1]; done) | (simp only [nrmT] at *; omega) | (simp at * <;> omega) | (simp_all <;> omega) | (simp_all; done)
              · first | omega | rfl | (intro hg; simp only [nrmT] at hg; omega) | (intro g1 g2; simp [g1, g2]; done) | (intro g1; simp at g1 ⊢; simp [g1]; done) | (simp only [nrmT] at *; omega) | (simp at * <;> omega) | (simp_all <;> omega) | (simp_all; done)
              · first | omega | rfl | (intro hg; simp only [nrmT] at hg; omega) | (intro g1 g2; simp [g1, g2]; done) | (intro g1; simp at g1 ⊢; simp [g1]; done) | (simp only [nrmT] at *; omega) | (simp at * <;> omega) | (simp_all <;> omega) | (simp_all; done)
          · intro room j hJ
            obtain ⟨h4, h5, h6⟩ := hJ
            refine ⟨?_, ?_⟩
            · intro b4
              try simp only [nrmT] at b4
              refine ⟨rfl, ?_, ?_, ?_, ?_, ?_, ?_, rfl, ?_, ?_, ?_, ?_, ?_, s_l1Has_pc (Sets.getD j.toNat []) x, id, id, id, id, id, fun _ _ => rfl, ?_, rfl, id, fun _ => rfl, ?_, ?_⟩
              · first | omega | rfl | (intro hg; simp only [nrmT] at hg; omega) | (intro g1 g2; simp [g1, g2]; done) | (intro g1; simp at g1 ⊢; simp [g1]; done) | (simp only [nrmT] at *; omega) | (simp at * <;> omega) | (simp_all <;> omega) | (simp_all; done)
              · have gf := gs_facts (by first | exact hg | exact hg2 | exact b4)
                omega
              · have gf := gs_facts (by first | exact hg | exact hg2 | exact b4)
                omega
              · first | omega | rfl | (intro hg; simp only [nrmT] at hg; omega) | (intro g1 g2; simp [g1, g2]; done) | (intro g1; simp at g1 ⊢; simp [g1]; done) | (simp only [nrmT] at *; omega) | (simp at * <;> omega) | (simp_all <;> omega) | (simp_all; done)
              · have gf := gs_facts (by first | exact hg | exact hg2 | exact b4)
                omega
              · have gf := gs_facts (by first | exact hg | exact hg2 | exact b4)
                omega
              · refine s_l6Priced_pc (Sets.getD j.toNat []) prices ?_
                · have hgg : goodSys Size Sets Costs = true := by first | exact hg | exact hg2
                  have gf := gs_facts hgg
                  exact ⟨Size, gs_set hgg (by omega), (by first | (rw [h8]; exact raiseTo_row hg2 _) | (rw [h3]; exact raiseTo_row hg _)), gf.1, gf.2.1⟩
              · have gf := gs_facts (by first | exact hg | exact hg2 | exact b4)
                have gc := gs_cost hg (k := j.toNat) (by omega)
                have pb := priced_bound (prices := prices) (gs_set hg (k := j.toNat) (by omega)) (by first | (rw [h8]; exact raiseTo_row hg2 _) | (rw [h3]; exact raiseTo_row hg _)) ⟨gf.1, gf.2.1⟩
                omega
              · first | omega | rfl | (intro hg; simp only [nrmT] at hg; omega) | (intro g1 g2; simp [g1, g2]; done) | (intro g1; simp at g1 ⊢; simp [g1]; done) | (simp only [nrmT] at *; omega) | (simp at * <;> omega) | (simp_all <;> omega) | (simp_all; done)
              · have gf := gs_facts (by first | exact hg | exact hg2 | exact b4)
                omega
              · have gf := gs_facts (by first | exact hg | exact hg2 | exact b4)
                omega
              · intro g1 g2; rw [g1, g2]; rfl
              · intro b5
                refine ⟨?_, ?_⟩
                · first | omega | rfl | (intro hg; simp only [nrmT] at hg; omega) | (intro g1 g2; simp [g1, g2]; done) | (intro g1; simp at g1 ⊢; simp [g1]; done) | (simp only [nrmT] at *; omega) | (simp at * <;> omega) | (simp_all <;> omega) | (simp_all; done)
                · refine ⟨((Costs.getD j.toNat 0) - (priced (Sets.getD j.toNat []) prices)), (j + 1), ?_⟩
                  refine ⟨?_, ?_, rfl, rfl, rfl, rfl, rfl, rfl, rfl, rfl, rfl, rfl⟩
                  · refine ⟨?_, ?_, ?_⟩
                    · first | omega | rfl | (intro hg; simp only [nrmT] at hg; omega) | (intro g1 g2; simp [g1, g2]; done) | (intro g1; simp at g1 ⊢; simp [g1]; done) | (simp only [nrmT] at *; omega) | (simp at * <;> omega) | (simp_all <;> omega) | (simp_all; done)
                    · have gf := gs_facts (by first | exact hg | exact hg2 | exact b5)
                      omega
                    · rw [cond_and_or] at b5
                      rw [show (j + 1).toNat = j.toNat + 1 by omega, roomTo_succ, ← h6]
                      unfold roomF
                      rw [if_pos b5]
                  · have gf := gs_facts (by first | exact hg | exact hg2 | exact bX)
                    first | (show _ < _; omega) | (simp only [s_RaisePrices_mJ1]; omega) | (simp only [s_RaisePrices_mJ1] at *; simp at *; omega)
              · intro b6
                refine ⟨?_, ?_⟩
                · first | omega | rfl | (intro hg; simp only [nrmT] at hg; omega) | (intro g1 g2; simp [g1, g2]; done) | (intro g1; simp at g1 ⊢; simp [g1]; done) | (simp only [nrmT] at *; omega) | (simp at * <;> omega) | (simp_all <;> omega) | (simp_all; done)
                · refine ⟨room, (j + 1), ?_⟩
                  refine ⟨?_, ?_, rfl, rfl, rfl, rfl, rfl, rfl, rfl, rfl, rfl, rfl⟩
                  · refine ⟨?_, ?_, ?_⟩
                    · first | omega | rfl | (intro hg; simp only [nrmT] at hg; omega) | (intro g1 g2; simp [g1, g2]; done) | (intro g1; simp at g1 ⊢; simp [g1]; done) | (simp only [nrmT] at *; omega) | (simp at * <;> omega) | (simp_all <;> omega) | (simp_all; done)
                    · have gf := gs_facts (by first | exact hg | exact hg2 | exact b6)
                      omega
                    · rw [cond_and_or] at b6
                      rw [show (j + 1).toNat = j.toNat + 1 by omega, roomTo_succ, ← h6]
                      unfold roomF
                      rw [if_neg (by rw [b6]; decide)]
                  · have gf := gs_facts (by first | exact hg | exact hg2 | exact bX)
                    first | (show _ < _; omega) | (simp only [s_RaisePrices_mJ1]; omega) | (simp only [s_RaisePrices_mJ1] at *; simp at *; omega)
            · intro b7
              try simp only [nrmT] at b7
              refine ⟨s_l1Most_pc room 0, ?_, ?_, ?_, ?_, ?_⟩
              · first | omega | rfl | (intro hg; simp only [nrmT] at hg; omega) | (intro g1 g2; simp [g1, g2]; done) | (intro g1; simp at g1 ⊢; simp [g1]; done) | (simp only [nrmT] at *; omega) | (simp at * <;> omega) | (simp_all <;> omega) | (simp_all; done)
              · have := (raiseTo_ok hg x.toNat).1
                rw [← h3] at this
                omega
              · have := (raiseTo_ok hg x.toNat).1
                rw [← h3] at this
                omega
              · have gf := gs_facts (by first | exact hg | exact hg2 | exact b7)
                omega
              · refine ⟨(prices.set x.toNat (max room 0)), (x + 1), ?_⟩
                refine ⟨?_, ?_, ?_, rfl, rfl, rfl, rfl, rfl, rfl, rfl⟩
                · refine ⟨?_, ?_, ?_, ?_⟩
                  · first | exact hg | exact hg2 | exact b7
                  · first | omega | rfl | (intro hg; simp only [nrmT] at hg; omega) | (intro g1 g2; simp [g1, g2]; done) | (intro g1; simp at g1 ⊢; simp [g1]; done) | (simp only [nrmT] at *; omega) | (simp at * <;> omega) | (simp_all <;> omega) | (simp_all; done)
                  · first | omega | rfl | (intro hg; simp only [nrmT] at hg; omega) | (intro g1 g2; simp [g1, g2]; done) | (intro g1; simp at g1 ⊢; simp [g1]; done) | (simp only [nrmT] at *; omega) | (simp at * <;> omega) | (simp_all <;> omega) | (simp_all; done)
                  · have er : room = roomTo Sets Costs prices x Sets.length := by rw [h6, show j.toNat = Sets.length by omega]
                    rw [show (x + 1).toNat = x.toNat + 1 by omega, raiseTo_succ, ← h3]
                    unfold raiseF
                    rw [show ((x.toNat : Nat) : Int) = x by omega, ← er]
                    first | done | rw [Int.max_comm]
                · first | (show _ < _; omega) | (simp only [s_RaisePrices_mJ0]; omega) | (simp only [s_RaisePrices_mJ0] at *; simp at *; omega)
                · first | omega | rfl | (intro hg; simp only [nrmT] at hg; omega) | (intro g1 g2; simp [g1, g2]; done) | (intro g1; simp at g1 ⊢; simp [g1]; done) | (simp only [nrmT] at *; omega) | (simp at * <;> omega) | (simp_all <;> omega) | (simp_all; done)
        · intro b8
          try simp only [nrmT] at b8
          refine ⟨prices, ?_⟩
          refine ⟨?_, rfl, rfl, rfl, rfl, rfl, rfl, rfl⟩
          · refine ⟨?_, ?_⟩
            · first | exact hg | exact hg2 | exact b8
            · rw [h3, show x.toNat = Size.toNat by omega]
    · intro prices hJ
      obtain ⟨hg2, h8⟩ := hJ
      refine ⟨?_, ?_⟩
      · refine ⟨([]), 0, ?_⟩
        refine ⟨?_, rfl, rfl, rfl, ?_, rfl, rfl, rfl, rfl⟩
        · refine ⟨?_, ?_, ?_⟩
          · first | omega | rfl | (intro hg; simp only [nrmT] at hg; omega) | (intro g1 g2; simp [g1, g2]; done) | (intro g1; simp at g1 ⊢; simp [g1]; done) | (simp only [nrmT] at *; omega) | (simp at * <;> omega) | (simp_all <;> omega) | (simp_all; done)
          · first | omega | rfl | (intro hg; simp only [nrmT] at hg; omega) | (intro g1 g2; simp [g1, g2]; done) | (intro g1; simp at g1 ⊢; simp [g1]; done) | (simp only [nrmT] at *; omega) | (simp at * <;> omega) | (simp_all <;> omega) | (simp_all; done)
          · first | omega | rfl | (intro hg; simp only [nrmT] at hg; omega) | (intro g1 g2; simp [g1, g2]; done) | (intro g1; simp at g1 ⊢; simp [g1]; done) | (simp only [nrmT] at *; omega) | (simp at * <;> omega) | (simp_all <;> omega) | (simp_all; done)
        · first | omega | rfl | (intro hg; simp only [nrmT] at hg; omega) | (intro g1 g2; simp [g1, g2]; done) | (intro g1; simp at g1 ⊢; simp [g1]; done) | (simp only [nrmT] at *; omega) | (simp at * <;> omega) | (simp_all <;> omega) | (simp_all; done)
      · intro choice i hJ
        obtain ⟨k1, k2, k3⟩ := hJ
        refine ⟨?_, ?_⟩
        · intro b9
          try simp only [nrmT] at b9
          refine ⟨rfl, ?_, ?_, ?_, rfl, ?_, ?_, ?_, ?_, ?_, ?_⟩
          · first | omega | rfl | (intro hg; simp only [nrmT] at hg; omega) | (intro g1 g2; simp [g1, g2]; done) | (intro g1; simp at g1 ⊢; simp [g1]; done) | (simp only [nrmT] at *; omega) | (simp at * <;> omega) | (simp_all <;> omega) | (simp_all; done)
          · have gf := gs_facts (by first | exact hg | exact hg2 | exact b9)
            omega
          · have gf := gs_facts (by first | exact hg | exact hg2 | exact b9)
            omega
          · refine s_l6Priced_pc (Sets.getD i.toNat []) prices ?_
            · have hgg : goodSys Size Sets Costs = true := by first | exact hg | exact hg2
              have gf := gs_facts hgg
              exact ⟨Size, gs_set hgg (by omega), (by first | (rw [h8]; exact raiseTo_row hg2 _) | (rw [h3]; exact raiseTo_row hg _)), gf.1, gf.2.1⟩
          · first | omega | rfl | (intro hg; simp only [nrmT] at hg; omega) | (intro g1 g2; simp [g1, g2]; done) | (intro g1; simp at g1 ⊢; simp [g1]; done) | (simp only [nrmT] at *; omega) | (simp at * <;> omega) | (simp_all <;> omega) | (simp_all; done)
          · have gf := gs_facts (by first | exact hg | exact hg2 | exact b9)
            omega
          · have gf := gs_facts (by first | exact hg | exact hg2 | exact b9)
            omega
          · intro b10
            try simp only [nrmT] at b10
            refine ⟨rfl, rfl, ?_, ?_, ?_⟩
            · rw [k3]; have := members_len_le (tightAt Size Sets Costs) i.toNat
              have gf := gs_facts (by first | exact hg | exact hg2 | exact b10)
              omega
            · first | omega | rfl | (intro hg; simp only [nrmT] at hg; omega) | (intro g1 g2; simp [g1, g2]; done) | (intro g1; simp at g1 ⊢; simp [g1]; done) | (simp only [nrmT] at *; omega) | (simp at * <;> omega) | (simp_all <;> omega) | (simp_all; done)
            · refine ⟨(choice ++ [i]), (i + 1), ?_⟩
              refine ⟨?_, ?_, rfl, ?_, rfl, rfl, rfl, rfl, rfl, rfl⟩
              · refine ⟨?_, ?_, ?_⟩
                · first | omega | rfl | (intro hg; simp only [nrmT] at hg; omega) | (intro g1 g2; simp [g1, g2]; done) | (intro g1; simp at g1 ⊢; simp [g1]; done) | (simp only [nrmT] at *; omega) | (simp at * <;> omega) | (simp_all <;> omega) | (simp_all; done)
                · have gf := gs_facts (by first | exact hg | exact hg2 | exact b10)
                  omega
                · rw [k3, show (i + 1).toNat = i.toNat + 1 by omega, members_succ, if_pos (by unfold tightAt; rw [← h8]; exact decide_eq_true b10), show ((i.toNat : Nat) : Int) = i by omega]
              · have gf := gs_facts (by first | exact hg | exact hg2 | exact bX)
                first | (show _ < _; omega) | (simp only [s_RaisePrices_mJ2]; omega) | (simp only [s_RaisePrices_mJ2] at *; simp at *; omega)
              · simp
          · intro b11
            try simp only [nrmT] at b11
            refine ⟨?_, ?_⟩
            · first | omega | rfl | (intro hg; simp only [nrmT] at hg; omega) | (intro g1 g2; simp [g1, g2]; done) | (intro g1; simp at g1 ⊢; simp [g1]; done) | (simp only [nrmT] at *; omega) | (simp at * <;> omega) | (simp_all <;> omega) | (simp_all; done)
            · refine ⟨choice, (i + 1), ?_⟩
              refine ⟨?_, ?_, rfl, rfl, rfl, rfl, rfl, rfl, rfl, rfl⟩
              · refine ⟨?_, ?_, ?_⟩
                · first | omega | rfl | (intro hg; simp only [nrmT] at hg; omega) | (intro g1 g2; simp [g1, g2]; done) | (intro g1; simp at g1 ⊢; simp [g1]; done) | (simp only [nrmT] at *; omega) | (simp at * <;> omega) | (simp_all <;> omega) | (simp_all; done)
                · have gf := gs_facts (by first | exact hg | exact hg2 | exact b11)
                  omega
                · rw [k3, show (i + 1).toNat = i.toNat + 1 by omega, members_succ, if_neg (by unfold tightAt; rw [← h8]; simpa using b11), List.append_nil]
              · have gf := gs_facts (by first | exact hg | exact hg2 | exact bX)
                first | (show _ < _; omega) | (simp only [s_RaisePrices_mJ2]; omega) | (simp only [s_RaisePrices_mJ2] at *; simp at *; omega)
        · intro b12
          try simp only [nrmT] at b12
          refine ⟨rfl, ?_, rfl, ?_, ?_⟩
          · unfold raiseP; rw [if_pos hg2, ← h8]
          · have gf := gs_facts (by first | exact hg | exact hg2 | exact b12)
            unfold raiseC; rw [if_pos hg2, k3, show i.toNat = Sets.length by omega]
          · exact hg2.symm
theorem s_RaisePrices_pc (Size : Int) (Sets : List (List Int)) (Costs : List Int)  : PC Try.prog 59 [.agg [.int .i64 Size, .sl (.rows Sets), .sl (.ints Costs)]] (.tup [.d (.sl (.ints (raiseP Size Sets Costs))), .d (.sl (.ints (raiseC Size Sets Costs))), .d (.bool (goodSys Size Sets Costs))]) :=
  pc_wf @Try.call59 fun hw => pc_by (by kernel_rfl) Try.func59 @Try.call59 (by kernel_rfl) s_RaisePrices_C (s_RaisePrices_A Size Sets Costs) (by kernel_rfl) (s_RaisePrices_vc Size Sets Costs hw.1.2.1.1 hw.1.2.1.2 hw.1.2.2.1) (by kernel_rfl)
def s_RaisePrices_orc : List D → Orc := orcN [none] fun ds => match ds with
  | [.agg [.int .i64 Size, .sl (.rows Sets), .sl (.ints Costs)]] => some (.tup [.d (.sl (.ints (raiseP Size Sets Costs))), .d (.sl (.ints (raiseC Size Sets Costs))), .d (.bool (goodSys Size Sets Costs))])
  | _ => none
abbrev i_RaisePrices_JJ0 (Size : Int) (Sets : List (List Int)) (Costs : List Int) (prices : List Int) (x : Int) : Prop := (goodSys Size Sets Costs = true) ∧ (0 ≤ x) ∧ (x ≤ Size) ∧ (prices = raiseTo Size Sets Costs x.toNat)
abbrev i_RaisePrices_mJ0 (Size : Int) (Sets : List (List Int)) (Costs : List Int) (prices : List Int) (x : Int) : Nat := (Size - x).toNat
abbrev i_RaisePrices_JA0 (Size : Int) (Sets : List (List Int)) (Costs : List Int) (prices : List Int) : Prop := (goodSys Size Sets Costs = true) ∧ (prices = raiseTo Size Sets Costs Size.toNat)
abbrev i_RaisePrices_JJ1 (Size : Int) (Sets : List (List Int)) (Costs : List Int) (prices : List Int) (x : Int) (room : Int) (j : Int) : Prop := (0 ≤ j) ∧ (j ≤ (Sets.length : Int)) ∧ (room = roomTo Sets Costs prices x j.toNat)
abbrev i_RaisePrices_mJ1 (Size : Int) (Sets : List (List Int)) (Costs : List Int) (prices : List Int) (x : Int) (room : Int) (j : Int) : Nat := (Sets.length - j).toNat
abbrev i_RaisePrices_JJ2 (Size : Int) (Sets : List (List Int)) (Costs : List Int) (prices : List Int) (choice : List Int) (i : Int) : Prop := (0 ≤ i) ∧ (i ≤ (Sets.length : Int)) ∧ (choice = members (tightAt Size Sets Costs) i.toNat)
abbrev i_RaisePrices_mJ2 (Size : Int) (Sets : List (List Int)) (Costs : List Int) (prices : List Int) (choice : List Int) (i : Int) : Nat := (Sets.length - i).toNat
def i_RaisePrices_C (f : FuncId) (ds : List D) : Orc := bif Nat.beq f 119 then i_IsSystem_orc ds else bif Nat.beq f 123 then i_System_priceOf_orc ds else bif Nat.beq f 124 then slices_Contains_int_int__orc ds else .no
def i_RaisePrices_A (Size : Int) (Sets : List (List Int)) (Costs : List Int) : Ann := .two (.none) (.two (.none) (.two (.none) (.cut (.two (.none) (.loop (cut2 (fun (prices : List Int) (x : Int) => i_RaisePrices_JJ0 Size Sets Costs prices x) (fun (prices : List Int) (x : Int) => [(1, .ptr 1 0), (5, .own 19 prices.length), (21, .d false (.int .i64 Size)), (22, .d true (.int .i64 x))]) (fun (prices : List Int) (x : Int) => [(19, .arr true 3 (.ints prices)), (1, .box 50 [.d false (.int .i64 Size), .d false (.sl (.rows Sets)), .d false (.sl (.ints Costs))])])) (fun g => i_RaisePrices_mJ0 Size Sets Costs g.1 g.2) (fun g => (fun (prices : List Int) (x : Int) => .two (.none) (.two (.none) (.two (.two (.none) (.two (.none) (.two (.two (.none) (.loop (cut2 (fun (room : Int) (j : Int) => i_RaisePrices_JJ1 Size Sets Costs prices x room j) (fun (room : Int) (j : Int) => [(1, .ptr 1 0), (5, .own 19 prices.length), (6, .d true (.int .i64 x)), (7, .d true (.int .i64 room)), (21, .d false (.int .i64 Size)), (22, .d true (.int .i64 x)), (26, .d false (.sl (.rows Sets))), (27, .d true (.int .i64 (Sets.length : Int))), (28, .d true (.int .i64 j))]) (fun (room : Int) (j : Int) => [(1, .box 50 [.d false (.int .i64 Size), .d false (.sl (.rows Sets)), .d false (.sl (.ints Costs))]), (19, .arr true 3 (.ints prices))])) (fun g => i_RaisePrices_mJ1 Size Sets Costs prices x g.1 g.2) (fun _ => .none))) (.none)))) (.none)))) (g.1) (g.2)))) (cut1 (fun (prices : List Int) => i_RaisePrices_JA0 Size Sets Costs prices) (fun (prices : List Int) => [(1, .ptr 1 0), (5, .own 1000050 prices.length)]) (fun (prices : List Int) => [(1000050, .arr true 3 (.ints prices)), (1, .box 50 [.d false (.int .i64 Size), .d false (.sl (.rows Sets)), .d false (.sl (.ints Costs))])])) (fun g => (fun (prices : List Int) => .two (.none) (.two (.two (.none) (.loop (cut2 (fun (choice : List Int) (i : Int) => i_RaisePrices_JJ2 Size Sets Costs prices choice i) (fun (choice : List Int) (i : Int) => [(1, .ptr 1 0), (5, .own 1000050 prices.length), (11, .own 1000200 choice.length), (65, .d false (.sl (.ints Costs))), (66, .d true (.int .i64 (Costs.length : Int))), (67, .d true (.int .i64 i))]) (fun (choice : List Int) (i : Int) => [(1000200, .arr true 3 (.ints choice)), (1, .box 50 [.d false (.int .i64 Size), .d false (.sl (.rows Sets)), .d false (.sl (.ints Costs))]), (1000050, .arr true 3 (.ints prices))])) (fun g => i_RaisePrices_mJ2 Size Sets Costs prices g.1 g.2) (fun _ => .none))) (.none))) g))))
def i_RaisePrices_P (Size : Int) (Sets : List (List Int)) (Costs : List Int) : Prop :=
  (PC Try.prog 119 [.agg [.int .i64 Size, .sl (.rows Sets), .sl (.ints Costs)]] (.one (.d (.bool (goodSys Size Sets Costs))))) ∧ (((!(goodSys Size Sets Costs)) = true → (((raiseP Size Sets Costs).length = 0) ∧ ((raiseC Size Sets Costs).length = 0) ∧ (false = (goodSys Size Sets Costs)))) ∧ ((!(goodSys Size Sets Costs)) = false → (Size = Size) ∧ ((0 : Int) ≤ Size) ∧ ((Size : Int) * ((8 : Nat) : Int) ≤ 140737488355328) ∧ (((∃ prices' : List Int, ∃ x' : Int, (i_RaisePrices_JJ0 Size Sets Costs prices' x') ∧ (Size.toNat = prices'.length) ∧ (Size = Size) ∧ ((0 : Int) = x') ∧ ((List.replicate Size.toNat (0 : Int)) = prices') ∧ (Size = Size) ∧ (Sets = Sets) ∧ (Costs = Costs)) ∧ (∀ prices : List Int, ∀ x : Int, (i_RaisePrices_JJ0 Size Sets Costs prices x) → (((decide (x < Size)) = true → ((∃ room' : Int, ∃ j' : Int, (i_RaisePrices_JJ1 Size Sets Costs prices x room' j') ∧ (prices.length = prices.length) ∧ (x = x) ∧ (((-1) : Int) = room') ∧ (Size = Size) ∧ (x = x) ∧ (Sets = Sets) ∧ ((Sets.length : Int) = (Sets.length : Int)) ∧ ((0 : Int) = j') ∧ (Size = Size) ∧ (Sets = Sets) ∧ (Costs = Costs) ∧ (prices = prices)) ∧ (∀ room : Int, ∀ j : Int, (i_RaisePrices_JJ1 Size Sets Costs prices x room j) → (((decide (j < (Sets.length : Int))) = true → ((0 : Int) ≤ j) ∧ ((j : Int) < Sets.length) ∧ (j.toNat < Sets.length) ∧ (true = true) ∧ ((0 : Int) ≤ j) ∧ ((j : Int) < Costs.length) ∧ (j.toNat < Costs.length) ∧ (prices.length = prices.length) ∧ (PC Try.prog 123 [.agg [.int .i64 Size, .sl (.rows Sets), .sl (.ints Costs)], .int .i64 j, .sl (.ints prices)] (.one (.d (.int .i64 (priced (Sets.getD j.toNat []) prices))))) ∧ (-9223372036854775808 ≤ ((Costs.getD j.toNat 0) - (priced (Sets.getD j.toNat []) prices)) ∧ ((Costs.getD j.toNat 0) - (priced (Sets.getD j.toNat []) prices)) ≤ 9223372036854775807) ∧ (PC Try.prog 124 [.sl (.ints (Sets.getD j.toNat [])), .int .i64 x] (.one (.d (.bool ((Sets.getD j.toNat []).contains x))))) ∧ (((Sets.getD j.toNat []).contains x) = true → ((Sets.getD j.toNat []).contains x) = true) ∧ (((Sets.getD j.toNat []).contains x) = true → ((Sets.getD j.toNat []).contains x) = true) ∧ ((((Sets.getD j.toNat []).contains x) && (!(decide (room < 0)))) = true → (((Sets.getD j.toNat []).contains x) && (!(decide (room < 0)))) = true) ∧ ((((Sets.getD j.toNat []).contains x) && (!(decide (room < 0)))) = true → (((Sets.getD j.toNat []).contains x) && (!(decide (room < 0)))) = true) ∧ ((((Sets.getD j.toNat []).contains x) = true → ((Sets.getD j.toNat []).contains x) = true)) ∧ ((((Sets.getD j.toNat []).contains x) = true → (decide (room < 0)) = true → true = true)) ∧ ((((Sets.getD j.toNat []).contains x) = true → (decide (room < 0)) = false → (((Sets.getD j.toNat []).contains x) && (!(decide (room < 0)))) = true)) ∧ (true = true) ∧ ((((Sets.getD j.toNat []).contains x) = true → ((Sets.getD j.toNat []).contains x) = true)) ∧ ((((Sets.getD j.toNat []).contains x) = false → true = true)) ∧ (((cond ((Sets.getD j.toNat []).contains x) (cond (decide (room < 0)) true (decide (((Costs.getD j.toNat 0) - (priced (Sets.getD j.toNat []) prices)) < room))) false) = true → (-9223372036854775808 ≤ (j + 1) ∧ (j + 1) ≤ 9223372036854775807) ∧ (∃ room' : Int, ∃ j' : Int, (i_RaisePrices_JJ1 Size Sets Costs prices x room' j') ∧ (i_RaisePrices_mJ1 Size Sets Costs prices x room' j' < i_RaisePrices_mJ1 Size Sets Costs prices x room j) ∧ (prices.length = prices.length) ∧ (x = x) ∧ (((Costs.getD j.toNat 0) - (priced (Sets.getD j.toNat []) prices)) = room') ∧ (Size = Size) ∧ (x = x) ∧ (Sets = Sets) ∧ ((Sets.length : Int) = (Sets.length : Int)) ∧ ((j + 1) = j') ∧ (Size = Size) ∧ (Sets = Sets) ∧ (Costs = Costs) ∧ (prices = prices))) ∧ ((cond ((Sets.getD j.toNat []).contains x) (cond (decide (room < 0)) true (decide (((Costs.getD j.toNat 0) - (priced (Sets.getD j.toNat []) prices)) < room))) false) = false → (-9223372036854775808 ≤ (j + 1) ∧ (j + 1) ≤ 9223372036854775807) ∧ (∃ room' : Int, ∃ j' : Int, (i_RaisePrices_JJ1 Size Sets Costs prices x room' j') ∧ (i_RaisePrices_mJ1 Size Sets Costs prices x room' j' < i_RaisePrices_mJ1 Size Sets Costs prices x room j) ∧ (prices.length = prices.length) ∧ (x = x) ∧ (room = room') ∧ (Size = Size) ∧ (x = x) ∧ (Sets = Sets) ∧ ((Sets.length : Int) = (Sets.length : Int)) ∧ ((j + 1) = j') ∧ (Size = Size) ∧ (Sets = Sets) ∧ (Costs = Costs) ∧ (prices = prices))))) ∧ ((decide (j < (Sets.length : Int))) = false → ((0 : Int) ≤ x) ∧ ((x : Int) < (prices.length : Int)) ∧ (x.toNat < prices.length) ∧ (-9223372036854775808 ≤ (x + 1) ∧ (x + 1) ≤ 9223372036854775807) ∧ (∃ prices' : List Int, ∃ x' : Int, (i_RaisePrices_JJ0 Size Sets Costs prices' x') ∧ (i_RaisePrices_mJ0 Size Sets Costs prices' x' < i_RaisePrices_mJ0 Size Sets Costs prices x) ∧ (prices.length = prices'.length) ∧ (Size = Size) ∧ ((x + 1) = x') ∧ ((prices.set x.toNat (max 0 room)) = prices') ∧ (Size = Size) ∧ (Sets = Sets) ∧ (Costs = Costs))))))) ∧ ((decide (x < Size)) = false → (∃ prices' : List Int, (i_RaisePrices_JA0 Size Sets Costs prices') ∧ (prices.length = prices'.length) ∧ (prices = prices') ∧ (Size = Size) ∧ (Sets = Sets) ∧ (Costs = Costs)))))) ∧ (∀ prices : List Int, (i_RaisePrices_JA0 Size Sets Costs prices) → ((∃ choice' : List Int, ∃ i' : Int, (i_RaisePrices_JJ2 Size Sets Costs prices choice' i') ∧ (prices.length = prices.length) ∧ ((0 : Nat) = choice'.length) ∧ (Costs = Costs) ∧ ((Costs.length : Int) = (Costs.length : Int)) ∧ ((0 : Int) = i') ∧ ([] = choice') ∧ (Size = Size) ∧ (Sets = Sets) ∧ (Costs = Costs) ∧ (prices = prices)) ∧ (∀ choice : List Int, ∀ i : Int, (i_RaisePrices_JJ2 Size Sets Costs prices choice i) → (((decide (i < (Costs.length : Int))) = true → ((0 : Int) ≤ i) ∧ ((i : Int) < Costs.length) ∧ (i.toNat < Costs.length) ∧ (prices.length = prices.length) ∧ (PC Try.prog 123 [.agg [.int .i64 Size, .sl (.rows Sets), .sl (.ints Costs)], .int .i64 i, .sl (.ints prices)] (.one (.d (.int .i64 (priced (Sets.getD i.toNat []) prices))))) ∧ ((((priced (Sets.getD i.toNat []) prices) == (Costs.getD i.toNat 0)) = true → (choice.length = choice.length) ∧ ((1 : Nat) = 1) ∧ ((choice.length + 1) * 8 ≤ 140737488355328) ∧ (-9223372036854775808 ≤ (i + 1) ∧ (i + 1) ≤ 9223372036854775807) ∧ (∃ choice' : List Int, ∃ i' : Int, (i_RaisePrices_JJ2 Size Sets Costs prices choice' i') ∧ (i_RaisePrices_mJ2 Size Sets Costs prices choice' i' < i_RaisePrices_mJ2 Size Sets Costs prices choice i) ∧ (prices.length = prices.length) ∧ ((choice.length + 1) = choice'.length) ∧ (Costs = Costs) ∧ ((Costs.length : Int) = (Costs.length : Int)) ∧ ((i + 1) = i') ∧ ((choice ++ [i]) = choice') ∧ (Size = Size) ∧ (Sets = Sets) ∧ (Costs = Costs) ∧ (prices = prices))) ∧ (((priced (Sets.getD i.toNat []) prices) == (Costs.getD i.toNat 0)) = false → (-9223372036854775808 ≤ (i + 1) ∧ (i + 1) ≤ 9223372036854775807) ∧ (∃ choice' : List Int, ∃ i' : Int, (i_RaisePrices_JJ2 Size Sets Costs prices choice' i') ∧ (i_RaisePrices_mJ2 Size Sets Costs prices choice' i' < i_RaisePrices_mJ2 Size Sets Costs prices choice i) ∧ (prices.length = prices.length) ∧ (choice.length = choice'.length) ∧ (Costs = Costs) ∧ ((Costs.length : Int) = (Costs.length : Int)) ∧ ((i + 1) = i') ∧ (choice = choice') ∧ (Size = Size) ∧ (Sets = Sets) ∧ (Costs = Costs) ∧ (prices = prices))))) ∧ ((decide (i < (Costs.length : Int))) = false → ((prices.length = prices.length) ∧ ((prices : List Int) = raiseP Size Sets Costs) ∧ (choice.length = choice.length) ∧ ((choice : List Int) = raiseC Size Sets Costs) ∧ (true = (goodSys Size Sets Costs)))))))))))
theorem i_RaisePrices_vc (Size : Int) (Sets : List (List Int)) (Costs : List Int)  (w_Sets : (Sets.length : Int) ≤ 9223372036854775807) (v_Sets : ∀ x9 ∈ Sets, (x9.length : Int) ≤ 9223372036854775807) (w_Costs : (Costs.length : Int) ≤ 9223372036854775807) : i_RaisePrices_P Size Sets Costs := by
  unfold i_RaisePrices_P
  refine ⟨i_IsSystem_pc Size Sets Costs, ?_, ?_⟩
  · intro b1
    try simp only [nrmT] at b1
    refine ⟨?_, ?_, ?_⟩
    · unfold raiseP; rw [b1]; rfl
    · unfold raiseC; rw [b1]; rfl
    · exact b1.symm
  · intro b2
    try simp only [nrmT] at b2
    refine ⟨rfl, ?_, ?_, ?_, ?_⟩
    · have gf := gs_facts (by first | exact hg | exact hg2 | exact b2)
      omega
    · have gf := gs_facts (by first | exact hg | exact hg2 | exact b2)
      omega
    · refine ⟨?_, ?_⟩
      · refine ⟨(List.replicate Size.toNat (0 : Int)), 0, ?_⟩
        refine ⟨?_, ?_, rfl, rfl, rfl, rfl, rfl, rfl⟩
        · refine ⟨?_, ?_, ?_, ?_⟩
          · first | exact hg | exact hg2 | exact b2
          · first | omega | rfl | (intro hg; simp only [nrmT] at hg; omega) | (intro g1 g2; simp [g1, g2]; done) | (intro g1; simp at g1 ⊢; simp [g1]; done) | (simp only [nrmT] at *; omega) | (simp at * <;> omega) | (simp_all <;> omega) | (simp_all; done)
          · have gf := gs_facts (by first | exact hg | exact hg2 | exact b2)
            omega
          · rfl
        · first | omega | rfl | (intro hg; simp only [nrmT] at hg; omega) | (intro g1 g2; simp [g1, g2]; done) | (intro g1; simp at g1 ⊢; simp [g1]; done) | (simp only [nrmT] at *; omega) | (simp at * <;> omega) | (simp_all <;> omega) | (simp_all; done)
      · intro prices x hJ
        obtain ⟨hg, h1, h2, h3⟩ := hJ
        refine ⟨?_, ?_⟩
        · intro b3
          try simp only [nrmT] at b3
          refine ⟨?_, ?_⟩
          · refine ⟨(-1), 0, ?_⟩
            refine ⟨?_, rfl, rfl, rfl, rfl, rfl, rfl, rfl, rfl, rfl, rfl, rfl, rfl⟩
            · refine ⟨?_, ?_, ?_⟩
              · first | omega | rfl | (intro hg; simp only [nrmT] at hg; omega) | (intro g1 g2; simp [g1, g2]; done) | (intro g1; simp at g1 ⊢; simp [g1]; done) | (simp only [nrmT] at *; omega) | (simp at * <;> omega) | (simp_all <;> omega) | (simp_all; done)
              · first | omega | rfl | (intro hg; simp only [nrmT] at hg; omega) | (intro g1 g2; simp [g1, g2]; done) | (intro g1; simp at g1 ⊢; simp [g1]; done) | (simp only [nrmT] at *; omega) | (simp at * <;> omega) | (simp_all <;> omega) | (simp_all; done)
              · first | omega | rfl | (intro hg; simp only [nrmT] at hg; omega) | (intro g1 g2; simp [g1, g2]; done) | (intro g1; simp at g1 ⊢; simp [g1]; done) | (simp only [nrmT] at *; omega) | (simp at * <;> omega) | (simp_all <;> omega) | (simp_all; done)
          · intro room j hJ
            obtain ⟨h4, h5, h6⟩ := hJ
            refine ⟨?_, ?_⟩
            · intro b4
              try simp only [nrmT] at b4
              refine ⟨?_, ?_, ?_, rfl, ?_, ?_, ?_, rfl, ?_, ?_, slices_Contains_int_int__pc (Sets.getD j.toNat []) x, id, id, id, id, id, fun _ _ => rfl, ?_, rfl, id, fun _ => rfl, ?_, ?_⟩
              · first | omega | rfl | (intro hg; simp only [nrmT] at hg; omega) | (intro g1 g2; simp [g1, g2]; done) | (intro g1; simp at g1 ⊢; simp [g1]; done) | (simp only [nrmT] at *; omega) | (simp at * <;> omega) | (simp_all <;> omega) | (simp_all; done)
              · have gf := gs_facts (by first | exact hg | exact hg2 | exact b4)
                omega
              · have gf := gs_facts (by first | exact hg | exact hg2 | exact b4)
                omega
              · first | omega | rfl | (intro hg; simp only [nrmT] at hg; omega) | (intro g1 g2; simp [g1, g2]; done) | (intro g1; simp at g1 ⊢; simp [g1]; done) | (simp only [nrmT] at *; omega) | (simp at * <;> omega) | (simp_all <;> omega) | (simp_all; done)
              · have gf := gs_facts (by first | exact hg | exact hg2 | exact b4)
                omega
              · have gf := gs_facts (by first | exact hg | exact hg2 | exact b4)
                omega
              · refine i_System_priceOf_pc Size Sets Costs j prices ?_ ?_ ?_
                · first | exact hg | exact hg2 | exact b4
                · have gf := gs_facts (by first | exact hg | exact hg2 | exact b4)
                  omega
                · first | (rw [h8]; exact raiseTo_row hg2 _) | (rw [h3]; exact raiseTo_row hg _)
              · have gf := gs_facts (by first | exact hg | exact hg2 | exact b4)
                have gc := gs_cost hg (k := j.toNat) (by omega)
                have pb := priced_bound (prices := prices) (gs_set hg (k := j.toNat) (by omega)) (by first | (rw [h8]; exact raiseTo_row hg2 _) | (rw [h3]; exact raiseTo_row hg _)) ⟨gf.1, gf.2.1⟩
                omega
              · intro g1 g2; rw [g1, g2]; rfl
              · intro b5
                refine ⟨?_, ?_⟩
                · first | omega | rfl | (intro hg; simp only [nrmT] at hg; omega) | (intro g1 g2; simp [g1, g2]; done) | (intro g1; simp at g1 ⊢; simp [g1]; done) | (simp only [nrmT] at *; omega) | (simp at * <;> omega) | (simp_all <;> omega) | (simp_all; done)
                · refine ⟨((Costs.getD j.toNat 0) - (priced (Sets.getD j.toNat []) prices)), (j + 1), ?_⟩
                  refine ⟨?_, ?_, rfl, rfl, rfl, rfl, rfl, rfl, rfl, rfl, rfl, rfl, rfl, rfl⟩
                  · refine ⟨?_, ?_, ?_⟩
                    · first | omega | rfl | (intro hg; simp only [nrmT] at hg; omega) | (intro g1 g2; simp [g1, g2]; done) | (intro g1; simp at g1 ⊢; simp [g1]; done) | (simp only [nrmT] at *; omega) | (simp at * <;> omega) | (simp_all <;> omega) | (simp_all; done)
                    · have gf := gs_facts (by first | exact hg | exact hg2 | exact b5)
                      omega
                    · rw [cond_and_or] at b5
                      rw [show (j + 1).toNat = j.toNat + 1 by omega, roomTo_succ, ← h6]
                      unfold roomF
                      rw [if_pos b5]
                  · have gf := gs_facts (by first | exact hg | exact hg2 | exact bX)
                    first | (show _ < _; omega) | (simp only [i_RaisePrices_mJ1]; omega) | (simp only [i_RaisePrices_mJ1] at *; simp at *; omega)
              · intro b6
                refine ⟨?_, ?_⟩
                · first | omega | rfl | (intro hg; simp only [nrmT] at hg; omega) | (intro g1 g2; simp [g1, g2]; done) | (intro g1; simp at g1 ⊢; simp [g1]; done) | (simp only [nrmT] at *; omega) | (simp at * <;> omega) | (simp_all <;> omega) | (simp_all; done)
                · refine ⟨room, (j + 1), ?_⟩
                  refine ⟨?_, ?_, rfl, rfl, rfl, rfl, rfl, rfl, rfl, rfl, rfl, rfl, rfl, rfl⟩
                  · refine ⟨?_, ?_, ?_⟩
                    · first | omega | rfl | (intro hg; simp only [nrmT] at hg; omega) | (intro g1 g2; simp [g1, g2]; done) | (intro g1; simp at g1 ⊢; simp [g1]; done) | (simp only [nrmT] at *; omega) | (simp at * <;> omega) | (simp_all <;> omega) | (simp_all; done)
                    · have gf := gs_facts (by first | exact hg | exact hg2 | exact b6)
                      omega
                    · rw [cond_and_or] at b6
                      rw [show (j + 1).toNat = j.toNat + 1 by omega, roomTo_succ, ← h6]
                      unfold roomF
                      rw [if_neg (by rw [b6]; decide)]
                  · have gf := gs_facts (by first | exact hg | exact hg2 | exact bX)
                    first | (show _ < _; omega) | (simp only [i_RaisePrices_mJ1]; omega) | (simp only [i_RaisePrices_mJ1] at *; simp at *; omega)
            · intro b7
              try simp only [nrmT] at b7
              refine ⟨?_, ?_, ?_, ?_, ?_⟩
              · first | omega | rfl | (intro hg; simp only [nrmT] at hg; omega) | (intro g1 g2; simp [g1, g2]; done) | (intro g1; simp at g1 ⊢; simp [g1]; done) | (simp only [nrmT] at *; omega) | (simp at * <;> omega) | (simp_all <;> omega) | (simp_all; done)
              · have := (raiseTo_ok hg x.toNat).1
                rw [← h3] at this
                omega
              · have := (raiseTo_ok hg x.toNat).1
                rw [← h3] at this
                omega
              · have gf := gs_facts (by first | exact hg | exact hg2 | exact b7)
                omega
              · refine ⟨(prices.set x.toNat (max 0 room)), (x + 1), ?_⟩
                refine ⟨?_, ?_, ?_, rfl, rfl, rfl, rfl, rfl, rfl⟩
                · refine ⟨?_, ?_, ?_, ?_⟩
                  · first | exact hg | exact hg2 | exact b7
                  · first | omega | rfl | (intro hg; simp only [nrmT] at hg; omega) | (intro g1 g2; simp [g1, g2]; done) | (intro g1; simp at g1 ⊢; simp [g1]; done) | (simp only [nrmT] at *; omega) | (simp at * <;> omega) | (simp_all <;> omega) | (simp_all; done)
                  · first | omega | rfl | (intro hg; simp only [nrmT] at hg; omega) | (intro g1 g2; simp [g1, g2]; done) | (intro g1; simp at g1 ⊢; simp [g1]; done) | (simp only [nrmT] at *; omega) | (simp at * <;> omega) | (simp_all <;> omega) | (simp_all; done)
                  · have er : room = roomTo Sets Costs prices x Sets.length := by rw [h6, show j.toNat = Sets.length by omega]
                    rw [show (x + 1).toNat = x.toNat + 1 by omega, raiseTo_succ, ← h3]
                    unfold raiseF
                    rw [show ((x.toNat : Nat) : Int) = x by omega, ← er]
                    first | done | rw [Int.max_comm]
                · first | (show _ < _; omega) | (simp only [i_RaisePrices_mJ0]; omega) | (simp only [i_RaisePrices_mJ0] at *; simp at *; omega)
                · first | omega | rfl | (intro hg; simp only [nrmT] at hg; omega) | (intro g1 g2; simp [g1, g2]; done) | (intro g1; simp at g1 ⊢; simp [g1]; done) | (simp only [nrmT] at *; omega) | (simp at * <;> omega) | (simp_all <;> omega) | (simp_all; done)
        · intro b8
          try simp only [nrmT] at b8
          refine ⟨prices, ?_⟩
          refine ⟨?_, rfl, rfl, rfl, rfl, rfl⟩
          · refine ⟨?_, ?_⟩
            · first | exact hg | exact hg2 | exact b8
            · rw [h3, show x.toNat = Size.toNat by omega]
    · intro prices hJ
      obtain ⟨hg2, h8⟩ := hJ
      refine ⟨?_, ?_⟩
      · refine ⟨([]), 0, ?_⟩
        refine ⟨?_, rfl, rfl, rfl, rfl, rfl, ?_, rfl, rfl, rfl, rfl⟩
        · refine ⟨?_, ?_, ?_⟩
          · first | omega | rfl | (intro hg; simp only [nrmT] at hg; omega) | (intro g1 g2; simp [g1, g2]; done) | (intro g1; simp at g1 ⊢; simp [g1]; done) | (simp only [nrmT] at *; omega) | (simp at * <;> omega) | (simp_all <;> omega) | (simp_all; done)
          · first | omega | rfl | (intro hg; simp only [nrmT] at hg; omega) | (intro g1 g2; simp [g1, g2]; done) | (intro g1; simp at g1 ⊢; simp [g1]; done) | (simp only [nrmT] at *; omega) | (simp at * <;> omega) | (simp_all <;> omega) | (simp_all; done)
          · first | omega | rfl | (intro hg; simp only [nrmT] at hg; omega) | (intro g1 g2; simp [g1, g2]; done) | (intro g1; simp at g1 ⊢; simp [g1]; done) | (simp only [nrmT] at *; omega) | (simp at * <;> omega) | (simp_all <;> omega) | (simp_all; done)
        · first | omega | rfl | (intro hg; simp only [nrmT] at hg; omega) | (intro g1 g2; simp [g1, g2]; done) | (intro g1; simp at g1 ⊢; simp [g1]; done) | (simp only [nrmT] at *; omega) | (simp at * <;> omega) | (simp_all <;> omega) | (simp_all; done)
      · intro choice i hJ
        obtain ⟨k1, k2, k3⟩ := hJ
        refine ⟨?_, ?_⟩
        · intro b9
          try simp only [nrmT] at b9
          refine ⟨?_, ?_, ?_, rfl, ?_, ?_, ?_⟩
          · first | omega | rfl | (intro hg; simp only [nrmT] at hg; omega) | (intro g1 g2; simp [g1, g2]; done) | (intro g1; simp at g1 ⊢; simp [g1]; done) | (simp only [nrmT] at *; omega) | (simp at * <;> omega) | (simp_all <;> omega) | (simp_all; done)
          · have gf := gs_facts (by first | exact hg | exact hg2 | exact b9)
            omega
          · have gf := gs_facts (by first | exact hg | exact hg2 | exact b9)
            omega
          · refine i_System_priceOf_pc Size Sets Costs i prices ?_ ?_ ?_
            · first | exact hg | exact hg2 | exact b9
            · have gf := gs_facts (by first | exact hg | exact hg2 | exact b9)
              omega
            · first | (rw [h8]; exact raiseTo_row hg2 _) | (rw [h3]; exact raiseTo_row hg _)
          · intro b10
            try simp only [nrmT] at b10
            refine ⟨rfl, rfl, ?_, ?_, ?_⟩
            · rw [k3]; have := members_len_le (tightAt Size Sets Costs) i.toNat
              have gf := gs_facts (by first | exact hg | exact hg2 | exact b10)
              omega
            · first | omega | rfl | (intro hg; simp only [nrmT] at hg; omega) | (intro g1 g2; simp [g1, g2]; done) | (intro g1; simp at g1 ⊢; simp [g1]; done) | (simp only [nrmT] at *; omega) | (simp at * <;> omega) | (simp_all <;> omega) | (simp_all; done)
            · refine ⟨(choice ++ [i]), (i + 1), ?_⟩
              refine ⟨?_, ?_, rfl, ?_, rfl, rfl, rfl, rfl, rfl, rfl, rfl, rfl⟩
              · refine ⟨?_, ?_, ?_⟩
                · first | omega | rfl | (intro hg; simp only [nrmT] at hg; omega) | (intro g1 g2; simp [g1, g2]; done) | (intro g1; simp at g1 ⊢; simp [g1]; done) | (simp only [nrmT] at *; omega) | (simp at * <;> omega) | (simp_all <;> omega) | (simp_all; done)
                · have gf := gs_facts (by first | exact hg | exact hg2 | exact b10)
                  omega
                · rw [k3, show (i + 1).toNat = i.toNat + 1 by omega, members_succ, if_pos (by unfold tightAt; rw [← h8]; exact decide_eq_true b10), show ((i.toNat : Nat) : Int) = i by omega]
              · have gf := gs_facts (by first | exact hg | exact hg2 | exact bX)
                first | (show _ < _; omega) | (simp only [i_RaisePrices_mJ2]; omega) | (simp only [i_RaisePrices_mJ2] at *; simp at *; omega)
              · simp
          · intro b11
            try simp only [nrmT] at b11
            refine ⟨?_, ?_⟩
            · first | omega | rfl | (intro hg; simp only [nrmT] at hg; omega) | (intro g1 g2; simp [g1, g2]; done) | (intro g1; simp at g1 ⊢; simp [g1]; done) | (simp only [nrmT] at *; omega) | (simp at * <;> omega) | (simp_all <;> omega) | (simp_all; done)
            · refine ⟨choice, (i + 1), ?_⟩
              refine ⟨?_, ?_, rfl, rfl, rfl, rfl, rfl, rfl, rfl, rfl, rfl, rfl⟩
              · refine ⟨?_, ?_, ?_⟩
                · first | omega | rfl | (intro hg; simp only [nrmT] at hg; omega) | (intro g1 g2; simp [g1, g2]; done) | (intro g1; simp at g1 ⊢; simp [g1]; done) | (simp only [nrmT] at *; omega) | (simp at * <;> omega) | (simp_all <;> omega) | (simp_all; done)
                · have gf := gs_facts (by first | exact hg | exact hg2 | exact b11)
                  omega
                · rw [k3, show (i + 1).toNat = i.toNat + 1 by omega, members_succ, if_neg (by unfold tightAt; rw [← h8]; simpa using b11), List.append_nil]
              · have gf := gs_facts (by first | exact hg | exact hg2 | exact bX)
                first | (show _ < _; omega) | (simp only [i_RaisePrices_mJ2]; omega) | (simp only [i_RaisePrices_mJ2] at *; simp at *; omega)
        · intro b12
          try simp only [nrmT] at b12
          refine ⟨rfl, ?_, rfl, ?_, ?_⟩
          · unfold raiseP; rw [if_pos hg2, ← h8]
          · have gf := gs_facts (by first | exact hg | exact hg2 | exact b12)
            unfold raiseC; rw [if_pos hg2, k3, show i.toNat = Sets.length by omega]
          · exact hg2.symm
theorem i_RaisePrices_pc (Size : Int) (Sets : List (List Int)) (Costs : List Int)  : PC Try.prog 60 [.agg [.int .i64 Size, .sl (.rows Sets), .sl (.ints Costs)]] (.tup [.own 3 (.ints (raiseP Size Sets Costs)), .own 3 (.ints (raiseC Size Sets Costs)), .d (.bool (goodSys Size Sets Costs))]) :=
  pc_wf @Try.call60 fun hw => pc_by (by kernel_rfl) Try.func60 @Try.call60 (by kernel_rfl) i_RaisePrices_C (i_RaisePrices_A Size Sets Costs) (by kernel_rfl) (i_RaisePrices_vc Size Sets Costs hw.1.2.1.1 hw.1.2.1.2 hw.1.2.2.1) (by kernel_rfl)
def i_RaisePrices_orc : List D → Orc := orcN [none] fun ds => match ds with
  | [.agg [.int .i64 Size, .sl (.rows Sets), .sl (.ints Costs)]] => some (.tup [.own 3 (.ints (raiseP Size Sets Costs)), .own 3 (.ints (raiseC Size Sets Costs)), .d (.bool (goodSys Size Sets Costs))])
  | _ => none
def l_FnExactRaisePrices_C (f : FuncId) (ds : List D) : Orc := bif Nat.beq f 55 then l_szSystem_orc ds else bif Nat.beq f 57 then l_toSystem_orc ds else bif Nat.beq f 59 then s_RaisePrices_orc ds else bif Nat.beq f 60 then i_RaisePrices_orc ds else bif Nat.beq f 32 then l_eqIntS_orc ds else bif Nat.beq f 48 then l_eqSystem_orc ds else bif Nat.beq f 36 then l_heldIntS_orc ds else .no
def l_FnExactRaisePrices_A (Size : Int) (Sets : List (List Int)) (Costs : List Int) : Ann := .two (.none) (.two (.none) (.two (.none) (.two (.none) (.two (.reg [(1, .g)]) (.two (.reg [(1, .g)]) (.two (.none) (.two (.none) (.two (.two (.reg [(2, .g)]) (.none)) (.two (.none) (.two (.mark [] 2 (.kill (1 + ((Sets.map List.length).sum : Int) + (Costs.length : Int)))) (.two (.none) (.two (.none) (.two (.mark [] 2 (.wr (marks 1 (raiseP Size Sets Costs).length) (1 + ((raiseP Size Sets Costs).length : Int)))) (.two (.mark [] 2 (.wr (marks (1 + ((raiseP Size Sets Costs).length : Int)) (raiseC Size Sets Costs).length) ((1 + ((raiseP Size Sets Costs).length : Int)) + ((raiseC Size Sets Costs).length : Int)))) (.two (.none) (.two (.none) (.two (.none) (.two (.none) (.two (.none) (.two (.none) (.two (.reg [(1, .g)]) (.none))))))))))))))))))))))
def l_FnExactRaisePrices_P (Size : Int) (Sets : List (List Int)) (Costs : List Int) : Prop :=
  (PC Try.prog 55 [.agg [.int .i64 Size, .sl (.rows Sets), .sl (.ints Costs)], .int .i64 1048576] (.one (.d (.int .i64 (szSys Sets Costs 1048576))))) ∧ (((decide ((szSys Sets Costs 1048576) < 0)) = true → ((true = true))) ∧ ((decide ((szSys Sets Costs 1048576) < 0)) = false → (PC Try.prog 57 [.agg [.int .i64 Size, .sl (.rows Sets), .sl (.ints Costs)]] (.one (.d (.agg [.int .i64 Size, .sl (.rows Sets), .sl (.ints Costs)])))) ∧ (PC Try.prog 59 [.agg [.int .i64 Size, .sl (.rows Sets), .sl (.ints Costs)]] (.tup [.d (.sl (.ints (raiseP Size Sets Costs))), .d (.sl (.ints (raiseC Size Sets Costs))), .d (.bool (goodSys Size Sets Costs))])) ∧ (PC Try.prog 57 [.agg [.int .i64 Size, .sl (.rows Sets), .sl (.ints Costs)]] (.one (.d (.agg [.int .i64 Size, .sl (.rows Sets), .sl (.ints Costs)])))) ∧ (PC Try.prog 60 [.agg [.int .i64 Size, .sl (.rows Sets), .sl (.ints Costs)]] (.tup [.own 3 (.ints (raiseP Size Sets Costs)), .own 3 (.ints (raiseC Size Sets Costs)), .d (.bool (goodSys Size Sets Costs))])) ∧ ((raiseP Size Sets Costs).length = (raiseP Size Sets Costs).length) ∧ (PC Try.prog 32 [.sl (.ints (raiseP Size Sets Costs)), .sl (.ints (raiseP Size Sets Costs))] (.one (.d (.bool ((raiseP Size Sets Costs) == (raiseP Size Sets Costs)))))) ∧ ((!(!((raiseP Size Sets Costs) == (raiseP Size Sets Costs)))) = true → (!(!((raiseP Size Sets Costs) == (raiseP Size Sets Costs)))) = true) ∧ ((!(!((raiseP Size Sets Costs) == (raiseP Size Sets Costs)))) = true → (!(!((raiseP Size Sets Costs) == (raiseP Size Sets Costs)))) = true) ∧ (((!(!((raiseP Size Sets Costs) == (raiseP Size Sets Costs)))) = true → (raiseC Size Sets Costs).length = (raiseC Size Sets Costs).length)) ∧ ((!(!((raiseP Size Sets Costs) == (raiseP Size Sets Costs)))) = true → PC Try.prog 32 [.sl (.ints (raiseC Size Sets Costs)), .sl (.ints (raiseC Size Sets Costs))] (.one (.d (.bool ((raiseC Size Sets Costs) == (raiseC Size Sets Costs)))))) ∧ ((!(!((raiseP Size Sets Costs) == (raiseP Size Sets Costs)))) = true → (!(!((raiseP Size Sets Costs) == (raiseP Size Sets Costs)))) = true) ∧ (true = true) ∧ (((!((raiseP Size Sets Costs) == (raiseP Size Sets Costs))) = true → true = true)) ∧ (((!((raiseP Size Sets Costs) == (raiseP Size Sets Costs))) = false → (!(!((raiseP Size Sets Costs) == (raiseP Size Sets Costs)))) = true)) ∧ ((!(cond (!((raiseP Size Sets Costs) == (raiseP Size Sets Costs))) true (!((raiseC Size Sets Costs) == (raiseC Size Sets Costs))))) = true → (!(cond (!((raiseP Size Sets Costs) == (raiseP Size Sets Costs))) true (!((raiseC Size Sets Costs) == (raiseC Size Sets Costs))))) = true) ∧ ((!(cond (!((raiseP Size Sets Costs) == (raiseP Size Sets Costs))) true (!((raiseC Size Sets Costs) == (raiseC Size Sets Costs))))) = true → (!(cond (!((raiseP Size Sets Costs) == (raiseP Size Sets Costs))) true (!((raiseC Size Sets Costs) == (raiseC Size Sets Costs))))) = true) ∧ (true = true) ∧ (((cond (!((raiseP Size Sets Costs) == (raiseP Size Sets Costs))) true (!((raiseC Size Sets Costs) == (raiseC Size Sets Costs)))) = true → true = true)) ∧ (((cond (!((raiseP Size Sets Costs) == (raiseP Size Sets Costs))) true (!((raiseC Size Sets Costs) == (raiseC Size Sets Costs)))) = false → (!(cond (!((raiseP Size Sets Costs) == (raiseP Size Sets Costs))) true (!((raiseC Size Sets Costs) == (raiseC Size Sets Costs))))) = true)) ∧ (((cond (cond (!((raiseP Size Sets Costs) == (raiseP Size Sets Costs))) true (!((raiseC Size Sets Costs) == (raiseC Size Sets Costs)))) true ((goodSys Size Sets Costs) != (goodSys Size Sets Costs))) = true → ((false = true))) ∧ ((cond (cond (!((raiseP Size Sets Costs) == (raiseP Size Sets Costs))) true (!((raiseC Size Sets Costs) == (raiseC Size Sets Costs)))) true ((goodSys Size Sets Costs) != (goodSys Size Sets Costs))) = false → (true = true) ∧ (PC Try.prog 57 [.agg [.int .i64 Size, .sl (.rows Sets), .sl (.ints Costs)]] (.one (.d (.agg [.int .i64 Size, .sl (.rows Sets), .sl (.ints Costs)])))) ∧ (PC Try.prog 48 [.agg [.int .i64 Size, .sl (.rows Sets), .sl (.ints Costs)], .agg [.int .i64 Size, .sl (.rows Sets), .sl (.ints Costs)]] (.one (.d (.bool ((Size == Size) && (Sets == Sets) && (Costs == Costs)))))) ∧ (((!((Size == Size) && (Sets == Sets) && (Costs == Costs))) = true → ((false = true))) ∧ ((!((Size == Size) && (Sets == Sets) && (Costs == Costs))) = false → (PG Try.prog 49 [.agg [.any, .rows (Sets.map List.length), .ints Costs.length], .int 1] (1 + ((Sets.map List.length).sum : Int) + (Costs.length : Int))) ∧ ((!(decide ((1 + ((Sets.map List.length).sum : Int) + (Costs.length : Int)) < 0))) = true → (!(decide ((1 + ((Sets.map List.length).sum : Int) + (Costs.length : Int)) < 0))) = true) ∧ ((!(decide ((1 + ((Sets.map List.length).sum : Int) + (Costs.length : Int)) < 0))) = true → (!(decide ((1 + ((Sets.map List.length).sum : Int) + (Costs.length : Int)) < 0))) = true) ∧ (((!(decide ((1 + ((Sets.map List.length).sum : Int) + (Costs.length : Int)) < 0))) = true → (raiseP Size Sets Costs).length = (raiseP Size Sets Costs).length)) ∧ ((!(decide ((1 + ((Sets.map List.length).sum : Int) + (Costs.length : Int)) < 0))) = true → PC Try.prog 32 [.sl (.ints (raiseP Size Sets Costs)), .sl (.ints (raiseP Size Sets Costs))] (.one (.d (.bool ((raiseP Size Sets Costs) == (raiseP Size Sets Costs)))))) ∧ ((!(decide ((1 + ((Sets.map List.length).sum : Int) + (Costs.length : Int)) < 0))) = true → (!(decide ((1 + ((Sets.map List.length).sum : Int) + (Costs.length : Int)) < 0))) = true) ∧ (true = true) ∧ (((decide ((1 + ((Sets.map List.length).sum : Int) + (Costs.length : Int)) < 0)) = true → true = true)) ∧ (((decide ((1 + ((Sets.map List.length).sum : Int) + (Costs.length : Int)) < 0)) = false → (!(decide ((1 + ((Sets.map List.length).sum : Int) + (Costs.length : Int)) < 0))) = true)) ∧ ((!(cond (decide ((1 + ((Sets.map List.length).sum : Int) + (Costs.length : Int)) < 0)) true (!((raiseP Size Sets Costs) == (raiseP Size Sets Costs))))) = true → (!(cond (decide ((1 + ((Sets.map List.length).sum : Int) + (Costs.length : Int)) < 0)) true (!((raiseP Size Sets Costs) == (raiseP Size Sets Costs))))) = true) ∧ ((!(cond (decide ((1 + ((Sets.map List.length).sum : Int) + (Costs.length : Int)) < 0)) true (!((raiseP Size Sets Costs) == (raiseP Size Sets Costs))))) = true → (!(cond (decide ((1 + ((Sets.map List.length).sum : Int) + (Costs.length : Int)) < 0)) true (!((raiseP Size Sets Costs) == (raiseP Size Sets Costs))))) = true) ∧ (((!(cond (decide ((1 + ((Sets.map List.length).sum : Int) + (Costs.length : Int)) < 0)) true (!((raiseP Size Sets Costs) == (raiseP Size Sets Costs))))) = true → (raiseC Size Sets Costs).length = (raiseC Size Sets Costs).length)) ∧ ((!(cond (decide ((1 + ((Sets.map List.length).sum : Int) + (Costs.length : Int)) < 0)) true (!((raiseP Size Sets Costs) == (raiseP Size Sets Costs))))) = true → PC Try.prog 32 [.sl (.ints (raiseC Size Sets Costs)), .sl (.ints (raiseC Size Sets Costs))] (.one (.d (.bool ((raiseC Size Sets Costs) == (raiseC Size Sets Costs)))))) ∧ ((!(cond (decide ((1 + ((Sets.map List.length).sum : Int) + (Costs.length : Int)) < 0)) true (!((raiseP Size Sets Costs) == (raiseP Size Sets Costs))))) = true → (!(cond (decide ((1 + ((Sets.map List.length).sum : Int) + (Costs.length : Int)) < 0)) true (!((raiseP Size Sets Costs) == (raiseP Size Sets Costs))))) = true) ∧ (true = true) ∧ (((cond (decide ((1 + ((Sets.map List.length).sum : Int) + (Costs.length : Int)) < 0)) true (!((raiseP Size Sets Costs) == (raiseP Size Sets Costs)))) = true → true = true)) ∧ (((cond (decide ((1 + ((Sets.map List.length).sum : Int) + (Costs.length : Int)) < 0)) true (!((raiseP Size Sets Costs) == (raiseP Size Sets Costs)))) = false → (!(cond (decide ((1 + ((Sets.map List.length).sum : Int) + (Costs.length : Int)) < 0)) true (!((raiseP Size Sets Costs) == (raiseP Size Sets Costs))))) = true)) ∧ ((!(cond (cond (decide ((1 + ((Sets.map List.length).sum : Int) + (Costs.length : Int)) < 0)) true (!((raiseP Size Sets Costs) == (raiseP Size Sets Costs)))) true (!((raiseC Size Sets Costs) == (raiseC Size Sets Costs))))) = true → (!(cond (cond (decide ((1 + ((Sets.map List.length).sum : Int) + (Costs.length : Int)) < 0)) true (!((raiseP Size Sets Costs) == (raiseP Size Sets Costs)))) true (!((raiseC Size Sets Costs) == (raiseC Size Sets Costs))))) = true) ∧ ((!(cond (cond (decide ((1 + ((Sets.map List.length).sum : Int) + (Costs.length : Int)) < 0)) true (!((raiseP Size Sets Costs) == (raiseP Size Sets Costs)))) true (!((raiseC Size Sets Costs) == (raiseC Size Sets Costs))))) = true → (!(cond (cond (decide ((1 + ((Sets.map List.length).sum : Int) + (Costs.length : Int)) < 0)) true (!((raiseP Size Sets Costs) == (raiseP Size Sets Costs)))) true (!((raiseC Size Sets Costs) == (raiseC Size Sets Costs))))) = true) ∧ (true = true) ∧ (((cond (cond (decide ((1 + ((Sets.map List.length).sum : Int) + (Costs.length : Int)) < 0)) true (!((raiseP Size Sets Costs) == (raiseP Size Sets Costs)))) true (!((raiseC Size Sets Costs) == (raiseC Size Sets Costs)))) = true → true = true)) ∧ (((cond (cond (decide ((1 + ((Sets.map List.length).sum : Int) + (Costs.length : Int)) < 0)) true (!((raiseP Size Sets Costs) == (raiseP Size Sets Costs)))) true (!((raiseC Size Sets Costs) == (raiseC Size Sets Costs)))) = false → (!(cond (cond (decide ((1 + ((Sets.map List.length).sum : Int) + (Costs.length : Int)) < 0)) true (!((raiseP Size Sets Costs) == (raiseP Size Sets Costs)))) true (!((raiseC Size Sets Costs) == (raiseC Size Sets Costs))))) = true)) ∧ (((cond (cond (cond (decide ((1 + ((Sets.map List.length).sum : Int) + (Costs.length : Int)) < 0)) true (!((raiseP Size Sets Costs) == (raiseP Size Sets Costs)))) true (!((raiseC Size Sets Costs) == (raiseC Size Sets Costs)))) true ((goodSys Size Sets Costs) != (goodSys Size Sets Costs))) = true → ((false = true))) ∧ ((cond (cond (cond (decide ((1 + ((Sets.map List.length).sum : Int) + (Costs.length : Int)) < 0)) true (!((raiseP Size Sets Costs) == (raiseP Size Sets Costs)))) true (!((raiseC Size Sets Costs) == (raiseC Size Sets Costs)))) true ((goodSys Size Sets Costs) != (goodSys Size Sets Costs))) = false → ((raiseP Size Sets Costs).length = (raiseP Size Sets Costs).length) ∧ ((marks 1 (raiseP Size Sets Costs).length).length = (raiseP Size Sets Costs).length) ∧ (PW Try.prog 35 3 (raiseP Size Sets Costs) (marks 1 (raiseP Size Sets Costs).length) 1 (1 + ((raiseP Size Sets Costs).length : Int))) ∧ ((raiseC Size Sets Costs).length = (raiseC Size Sets Costs).length) ∧ ((marks (1 + ((raiseP Size Sets Costs).length : Int)) (raiseC Size Sets Costs).length).length = (raiseC Size Sets Costs).length) ∧ (PW Try.prog 35 3 (raiseC Size Sets Costs) (marks (1 + ((raiseP Size Sets Costs).length : Int)) (raiseC Size Sets Costs).length) (1 + ((raiseP Size Sets Costs).length : Int)) ((1 + ((raiseP Size Sets Costs).length : Int)) + ((raiseC Size Sets Costs).length : Int))) ∧ ((raiseP Size Sets Costs).length = (marks 1 (raiseP Size Sets Costs).length).length) ∧ (PC Try.prog 36 [.sl (.ints (marks 1 (raiseP Size Sets Costs).length)), .int .i64 1] (.one (.d (.int .i64 (1 + ((marks 1 (raiseP Size Sets Costs).length).length : Int)))))) ∧ (((decide ((1 + ((marks 1 (raiseP Size Sets Costs).length).length : Int)) < 0)) = true → ((false = true))) ∧ ((decide ((1 + ((marks 1 (raiseP Size Sets Costs).length).length : Int)) < 0)) = false → ((raiseC Size Sets Costs).length = (marks (1 + ((raiseP Size Sets Costs).length : Int)) (raiseC Size Sets Costs).length).length) ∧ (PC Try.prog 36 [.sl (.ints (marks (1 + ((raiseP Size Sets Costs).length : Int)) (raiseC Size Sets Costs).length)), .int .i64 (1 + ((marks 1 (raiseP Size Sets Costs).length).length : Int))] (.one (.d (.int .i64 ((1 + ((marks 1 (raiseP Size Sets Costs).length).length : Int)) + ((marks (1 + ((raiseP Size Sets Costs).length : Int)) (raiseC Size Sets Costs).length).length : Int)))))) ∧ (((decide (((1 + ((marks 1 (raiseP Size Sets Costs).length).length : Int)) + ((marks (1 + ((raiseP Size Sets Costs).length : Int)) (raiseC Size Sets Costs).length).length : Int)) < 0)) = true → ((false = true))) ∧ ((decide (((1 + ((marks 1 (raiseP Size Sets Costs).length).length : Int)) + ((marks (1 + ((raiseP Size Sets Costs).length : Int)) (raiseC Size Sets Costs).length).length : Int)) < 0)) = false → (((((1 + ((marks 1 (raiseP Size Sets Costs).length).length : Int)) + ((marks (1 + ((raiseP Size Sets Costs).length : Int)) (raiseC Size Sets Costs).length).length : Int)) != ((1 + ((raiseP Size Sets Costs).length : Int)) + ((raiseC Size Sets Costs).length : Int))) = true → ((false = true))) ∧ ((((1 + ((marks 1 (raiseP Size Sets Costs).length).length : Int)) + ((marks (1 + ((raiseP Size Sets Costs).length : Int)) (raiseC Size Sets Costs).length).length : Int)) != ((1 + ((raiseP Size Sets Costs).length : Int)) + ((raiseC Size Sets Costs).length : Int))) = false → (PC Try.prog 57 [.agg [.int .i64 Size, .sl (.rows Sets), .sl (.ints Costs)]] (.one (.d (.agg [.int .i64 Size, .sl (.rows Sets), .sl (.ints Costs)])))) ∧ (PC Try.prog 60 [.agg [.int .i64 Size, .sl (.rows Sets), .sl (.ints Costs)]] (.tup [.own 3 (.ints (raiseP Size Sets Costs)), .own 3 (.ints (raiseC Size Sets Costs)), .d (.bool (goodSys Size Sets Costs))])) ∧ ((raiseP Size Sets Costs).length = (raiseP Size Sets Costs).length) ∧ (PC Try.prog 32 [.sl (.ints (raiseP Size Sets Costs)), .sl (.ints (raiseP Size Sets Costs))] (.one (.d (.bool ((raiseP Size Sets Costs) == (raiseP Size Sets Costs)))))) ∧ ((!(!((raiseP Size Sets Costs) == (raiseP Size Sets Costs)))) = true → (!(!((raiseP Size Sets Costs) == (raiseP Size Sets Costs)))) = true) ∧ ((!(!((raiseP Size Sets Costs) == (raiseP Size Sets Costs)))) = true → (!(!((raiseP Size Sets Costs) == (raiseP Size Sets Costs)))) = true) ∧ (((!(!((raiseP Size Sets Costs) == (raiseP Size Sets Costs)))) = true → (raiseC Size Sets Costs).length = (raiseC Size Sets Costs).length)) ∧ ((!(!((raiseP Size Sets Costs) == (raiseP Size Sets Costs)))) = true → PC Try.prog 32 [.sl (.ints (raiseC Size Sets Costs)), .sl (.ints (raiseC Size Sets Costs))] (.one (.d (.bool ((raiseC Size Sets Costs) == (raiseC Size Sets Costs)))))) ∧ ((!(!((raiseP Size Sets Costs) == (raiseP Size Sets Costs)))) = true → (!(!((raiseP Size Sets Costs) == (raiseP Size Sets Costs)))) = true) ∧ (true = true) ∧ (((!((raiseP Size Sets Costs) == (raiseP Size Sets Costs))) = true → true = true)) ∧ (((!((raiseP Size Sets Costs) == (raiseP Size Sets Costs))) = false → (!(!((raiseP Size Sets Costs) == (raiseP Size Sets Costs)))) = true)) ∧ ((!(cond (!((raiseP Size Sets Costs) == (raiseP Size Sets Costs))) true (!((raiseC Size Sets Costs) == (raiseC Size Sets Costs))))) = true → (!(cond (!((raiseP Size Sets Costs) == (raiseP Size Sets Costs))) true (!((raiseC Size Sets Costs) == (raiseC Size Sets Costs))))) = true) ∧ ((!(cond (!((raiseP Size Sets Costs) == (raiseP Size Sets Costs))) true (!((raiseC Size Sets Costs) == (raiseC Size Sets Costs))))) = true → (!(cond (!((raiseP Size Sets Costs) == (raiseP Size Sets Costs))) true (!((raiseC Size Sets Costs) == (raiseC Size Sets Costs))))) = true) ∧ (true = true) ∧ (((cond (!((raiseP Size Sets Costs) == (raiseP Size Sets Costs))) true (!((raiseC Size Sets Costs) == (raiseC Size Sets Costs)))) = true → true = true)) ∧ (((cond (!((raiseP Size Sets Costs) == (raiseP Size Sets Costs))) true (!((raiseC Size Sets Costs) == (raiseC Size Sets Costs)))) = false → (!(cond (!((raiseP Size Sets Costs) == (raiseP Size Sets Costs))) true (!((raiseC Size Sets Costs) == (raiseC Size Sets Costs))))) = true)) ∧ (((cond (cond (!((raiseP Size Sets Costs) == (raiseP Size Sets Costs))) true (!((raiseC Size Sets Costs) == (raiseC Size Sets Costs)))) true ((goodSys Size Sets Costs) != (goodSys Size Sets Costs))) = true → ((false = true))) ∧ ((cond (cond (!((raiseP Size Sets Costs) == (raiseP Size Sets Costs))) true (!((raiseC Size Sets Costs) == (raiseC Size Sets Costs)))) true ((goodSys Size Sets Costs) != (goodSys Size Sets Costs))) = false → ((raiseP Size Sets Costs).length = (marks 1 (raiseP Size Sets Costs).length).length) ∧ (PC Try.prog 36 [.sl (.ints (marks 1 (raiseP Size Sets Costs).length)), .int .i64 1] (.one (.d (.int .i64 (1 + ((marks 1 (raiseP Size Sets Costs).length).length : Int)))))) ∧ (((decide ((1 + ((marks 1 (raiseP Size Sets Costs).length).length : Int)) < 0)) = true → ((false = true))) ∧ ((decide ((1 + ((marks 1 (raiseP Size Sets Costs).length).length : Int)) < 0)) = false → ((raiseC Size Sets Costs).length = (marks (1 + ((raiseP Size Sets Costs).length : Int)) (raiseC Size Sets Costs).length).length) ∧ (PC Try.prog 36 [.sl (.ints (marks (1 + ((raiseP Size Sets Costs).length : Int)) (raiseC Size Sets Costs).length)), .int .i64 (1 + ((marks 1 (raiseP Size Sets Costs).length).length : Int))] (.one (.d (.int .i64 ((1 + ((marks 1 (raiseP Size Sets Costs).length).length : Int)) + ((marks (1 + ((raiseP Size Sets Costs).length : Int)) (raiseC Size Sets Costs).length).length : Int)))))) ∧ (((decide (((1 + ((marks 1 (raiseP Size Sets Costs).length).length : Int)) + ((marks (1 + ((raiseP Size Sets Costs).length : Int)) (raiseC Size Sets Costs).length).length : Int)) < 0)) = true → ((false = true))) ∧ ((decide (((1 + ((marks 1 (raiseP Size Sets Costs).length).length : Int)) + ((marks (1 + ((raiseP Size Sets Costs).length : Int)) (raiseC Size Sets Costs).length).length : Int)) < 0)) = false → (((((1 + ((marks 1 (raiseP Size Sets Costs).length).length : Int)) + ((marks (1 + ((raiseP Size Sets Costs).length : Int)) (raiseC Size Sets Costs).length).length : Int)) != ((1 + ((raiseP Size Sets Costs).length : Int)) + ((raiseC Size Sets Costs).length : Int))) = true → ((false = true))) ∧ ((((1 + ((marks 1 (raiseP Size Sets Costs).length).length : Int)) + ((marks (1 + ((raiseP Size Sets Costs).length : Int)) (raiseC Size Sets Costs).length).length : Int)) != ((1 + ((raiseP Size Sets Costs).length : Int)) + ((raiseC Size Sets Costs).length : Int))) = false → ((true = true))))))))))))))))))))))))
theorem l_FnExactRaisePrices_vc (Size : Int) (Sets : List (List Int)) (Costs : List Int)  (w_Sets : (Sets.length : Int) ≤ 9223372036854775807) (v_Sets : ∀ x9 ∈ Sets, (x9.length : Int) ≤ 9223372036854775807) (w_Costs : (Costs.length : Int) ≤ 9223372036854775807) : l_FnExactRaisePrices_P Size Sets Costs := by
  unfold l_FnExactRaisePrices_P
  refine ⟨?_, ?_, ?_⟩
  · refine l_szSystem_pc Size Sets Costs 1048576 ?_
    · first | omega | rfl | (intro hg; simp only [nrmT] at hg; omega) | (intro g1 g2; simp [g1, g2]; done) | (intro g1; simp at g1 ⊢; simp [g1]; done) | (simp only [nrmT] at *; omega) | (simp at * <;> omega) | (simp_all <;> omega) | (simp_all; done)
  · intro b1
    try simp only [nrmT] at b1
    exact rfl
  · intro b2
    try simp only [nrmT] at b2
    refine ⟨?_, s_RaisePrices_pc Size Sets Costs, ?_, i_RaisePrices_pc Size Sets Costs, rfl, l_eqIntS_pc (raiseP Size Sets Costs) (raiseP Size Sets Costs), id, id, fun _ => rfl, fun _ => l_eqIntS_pc (raiseC Size Sets Costs) (raiseC Size Sets Costs), id, rfl, fun _ => rfl, ?_, id, id, rfl, fun _ => rfl, ?_, ?_, ?_⟩
    · refine l_toSystem_pc Size Sets Costs ?_ ?_ ?_
      · have := szSys_bound b2; omega
      · have h := (szSys_bound b2).2.1
        intro xs hx
        have h := h xs hx
        omega
      · have := szSys_bound b2; omega
    · refine l_toSystem_pc Size Sets Costs ?_ ?_ ?_
      · have := szSys_bound b2; omega
      · have h := (szSys_bound b2).2.1
        intro xs hx
        have h := h xs hx
        omega
      · have := szSys_bound b2; omega
    · intro h; rw [h]; rfl
    · intro h; rw [h]; rfl
    · intro b3
      first | (exfalso; simp only [marks_len] at b3; omega) | (simp at b3; done) | (exfalso; simp only [marks_len] at b3; simp at b3; done) | omega | rfl | (intro hg; simp only [nrmT] at hg; omega) | (intro g1 g2; simp [g1, g2]; done) | (intro g1; simp at g1 ⊢; simp [g1]; done) | (simp only [nrmT] at *; omega) | (simp at * <;> omega) | (simp_all <;> omega) | (simp_all; done)
    · intro b4
      refine ⟨rfl, ?_, l_eqSystem_pc Size Sets Costs Size Sets Costs, ?_, ?_⟩
      · refine l_toSystem_pc Size Sets Costs ?_ ?_ ?_
        · have := szSys_bound b2; omega
        · have h := (szSys_bound b2).2.1
          intro xs hx
          have h := h xs hx
          omega
        · have := szSys_bound b2; omega
      · intro b5
        try simp only [Bool.not_eq_true', Bool.not_eq_false', Bool.not_not] at b5
        first | (exfalso; simp only [marks_len] at b5; omega) | (simp at b5; done) | (exfalso; simp only [marks_len] at b5; simp at b5; done) | omega | rfl | (intro hg; simp only [nrmT] at hg; omega) | (intro g1 g2; simp [g1, g2]; done) | (intro g1; simp at g1 ⊢; simp [g1]; done) | (simp only [nrmT] at *; omega) | (simp at * <;> omega) | (simp_all <;> omega) | (simp_all; done)
      · intro b6
        try simp only [Bool.not_eq_true', Bool.not_eq_false', Bool.not_not] at b6
        refine ⟨?_, id, id, fun _ => rfl, fun _ => l_eqIntS_pc (raiseP Size Sets Costs) (raiseP Size Sets Costs), id, rfl, fun _ => rfl, ?_, id, id, fun _ => rfl, fun _ => l_eqIntS_pc (raiseC Size Sets Costs) (raiseC Size Sets Costs), id, rfl, fun _ => rfl, ?_, id, id, rfl, fun _ => rfl, ?_, ?_, ?_⟩
        · refine laws_markSystem_g_pg (Sets.map List.length) Costs.length 1 ?_ ?_ ?_
          · first | omega | rfl | (intro hg; simp only [nrmT] at hg; omega) | (intro g1 g2; simp [g1, g2]; done) | (intro g1; simp at g1 ⊢; simp [g1]; done) | (simp only [nrmT] at *; omega) | (simp at * <;> omega) | (simp_all <;> omega) | (simp_all; done)
          · rw [List.length_map]; have hz := szSys_bound b2; omega
          · have hz := szSys_bound b2
            have hs := sum_lens20 (xss := Sets) (by omega) (fun xs hx => by have := hz.2.1 xs hx; omega)
            omega
        · first | omega | rfl | (intro hg; simp only [nrmT] at hg; omega) | (intro g1 g2; simp [g1, g2]; done) | (intro g1; simp at g1 ⊢; simp [g1]; done) | (simp only [nrmT] at *; omega) | (simp at * <;> omega) | (simp_all <;> omega) | (simp_all; done)
        · intro h; rw [h]; rfl
        · intro h; rw [h]; rfl
        · intro b7
          first | (exfalso; simp only [marks_len] at b7; omega) | (simp at b7; done) | (exfalso; simp only [marks_len] at b7; simp at b7; done) | omega | rfl | (intro hg; simp only [nrmT] at hg; omega) | (intro g1 g2; simp [g1, g2]; done) | (intro g1; simp at g1 ⊢; simp [g1]; done) | (simp only [nrmT] at *; omega) | (simp at * <;> omega) | (simp_all <;> omega) | (simp_all; done)
        · intro b8
          refine ⟨rfl, marks_len _ _, ?_, rfl, marks_len _ _, ?_, ?_, ?_, ?_, ?_⟩
          · refine laws_markIntS_w_pw (raiseP Size Sets Costs) 1 ?_ ?_
            · first | omega | rfl | (intro hg; simp only [nrmT] at hg; omega) | (intro g1 g2; simp [g1, g2]; done) | (intro g1; simp at g1 ⊢; simp [g1]; done) | (simp only [nrmT] at *; omega) | (simp at * <;> omega) | (simp_all <;> omega) | (simp_all; done)
            · have := @raiseP_len Size Sets Costs
              have := @raiseC_len Size Sets Costs
              omega
          · refine laws_markIntS_w_pw (raiseC Size Sets Costs) (1 + ((raiseP Size Sets Costs).length : Int)) ?_ ?_
            · first | omega | rfl | (intro hg; simp only [nrmT] at hg; omega) | (intro g1 g2; simp [g1, g2]; done) | (intro g1; simp at g1 ⊢; simp [g1]; done) | (simp only [nrmT] at *; omega) | (simp at * <;> omega) | (simp_all <;> omega) | (simp_all; done)
            · have := @raiseP_len Size Sets Costs
              have := @raiseC_len Size Sets Costs
              omega
          · simp only [marks_len]
          · refine l_heldIntS_pc (marks 1 (raiseP Size Sets Costs).length) 1 ?_ ?_ ?_
            · first | omega | rfl | (intro hg; simp only [nrmT] at hg; omega) | (intro g1 g2; simp [g1, g2]; done) | (intro g1; simp at g1 ⊢; simp [g1]; done) | (simp only [nrmT] at *; omega) | (simp at * <;> omega) | (simp_all <;> omega) | (simp_all; done)
            · simp only [marks_len]
            · simp only [marks_len]
              have := @raiseP_len Size Sets Costs
              have := @raiseC_len Size Sets Costs
              omega
          · intro b9
            try simp only [nrmT] at b9
            first | (exfalso; simp only [marks_len] at b9; omega) | (simp at b9; done) | (exfalso; simp only [marks_len] at b9; simp at b9; done) | omega | rfl | (intro hg; simp only [nrmT] at hg; omega) | (intro g1 g2; simp [g1, g2]; done) | (intro g1; simp at g1 ⊢; simp [g1]; done) | (simp only [nrmT] at *; omega) | (simp at * <;> omega) | (simp_all <;> omega) | (simp_all; done)
          · intro b10
            try simp only [nrmT] at b10
            refine ⟨?_, ?_, ?_, ?_⟩
            · simp only [marks_len]
            · refine l_heldIntS_pc (marks (1 + ((raiseP Size Sets Costs).length : Int)) (raiseC Size Sets Costs).length) (1 + ((marks 1 (raiseP Size Sets Costs).length).length : Int)) ?_ ?_ ?_
              · first | omega | rfl | (intro hg; simp only [nrmT] at hg; omega) | (intro g1 g2; simp [g1, g2]; done) | (intro g1; simp at g1 ⊢; simp [g1]; done) | (simp only [nrmT] at *; omega) | (simp at * <;> omega) | (simp_all <;> omega) | (simp_all; done)
              · simp only [marks_len]
              · simp only [marks_len]
                have := @raiseP_len Size Sets Costs
                have := @raiseC_len Size Sets Costs
                omega
            · intro b11
              try simp only [nrmT] at b11
              first | (exfalso; simp only [marks_len] at b11; omega) | (simp at b11; done) | (exfalso; simp only [marks_len] at b11; simp at b11; done) | omega | rfl | (intro hg; simp only [nrmT] at hg; omega) | (intro g1 g2; simp [g1, g2]; done) | (intro g1; simp at g1 ⊢; simp [g1]; done) | (simp only [nrmT] at *; omega) | (simp at * <;> omega) | (simp_all <;> omega) | (simp_all; done)
            · intro b12
              try simp only [nrmT] at b12
              refine ⟨?_, ?_⟩
              · intro b13
                try simp only [nrmT] at b13
                first | (exfalso; simp only [marks_len] at b13; omega) | (simp at b13; done) | (exfalso; simp only [marks_len] at b13; simp at b13; done) | omega | rfl | (intro hg; simp only [nrmT] at hg; omega) | (intro g1 g2; simp [g1, g2]; done) | (intro g1; simp at g1 ⊢; simp [g1]; done) | (simp only [nrmT] at *; omega) | (simp at * <;> omega) | (simp_all <;> omega) | (simp_all; done)
              · intro b14
                try simp only [nrmT] at b14
                refine ⟨?_, i_RaisePrices_pc Size Sets Costs, rfl, l_eqIntS_pc (raiseP Size Sets Costs) (raiseP Size Sets Costs), id, id, fun _ => rfl, fun _ => l_eqIntS_pc (raiseC Size Sets Costs) (raiseC Size Sets Costs), id, rfl, fun _ => rfl, ?_, id, id, rfl, fun _ => rfl, ?_, ?_, ?_⟩
                · refine l_toSystem_pc Size Sets Costs ?_ ?_ ?_
                  · have := szSys_bound b2; omega
                  · have h := (szSys_bound b2).2.1
                    intro xs hx
                    have h := h xs hx
                    omega
                  · have := szSys_bound b2; omega
                · intro h; rw [h]; rfl
                · intro h; rw [h]; rfl
                · intro b15
                  first | (exfalso; simp only [marks_len] at b15; omega) | (simp at b15; done) | (exfalso; simp only [marks_len] at b15; simp at b15; done) | omega | rfl | (intro hg; simp only [nrmT] at hg; omega) | (intro g1 g2; simp [g1, g2]; done) | (intro g1; simp at g1 ⊢; simp [g1]; done) | (simp only [nrmT] at *; omega) | (simp at * <;> omega) | (simp_all <;> omega) | (simp_all; done)
                · intro b16
                  refine ⟨?_, ?_, ?_, ?_⟩
                  · simp only [marks_len]
                  · refine l_heldIntS_pc (marks 1 (raiseP Size Sets Costs).length) 1 ?_ ?_ ?_
                    · first | omega | rfl | (intro hg; simp only [nrmT] at hg; omega) | (intro g1 g2; simp [g1, g2]; done) | (intro g1; simp at g1 ⊢; simp [g1]; done) | (simp only [nrmT] at *; omega) | (simp at * <;> omega) | (simp_all <;> omega) | (simp_all; done)
                    · simp only [marks_len]
                    · simp only [marks_len]
                      have := @raiseP_len Size Sets Costs
                      have := @raiseC_len Size Sets Costs
                      omega
                  · intro b17
                    try simp only [nrmT] at b17
                    first | (exfalso; simp only [marks_len] at b17; omega) | (simp at b17; done) | (exfalso; simp only [marks_len] at b17; simp at b17; done) | omega | rfl | (intro hg; simp only [nrmT] at hg; omega) | (intro g1 g2; simp [g1, g2]; done) | (intro g1; simp at g1 ⊢; simp [g1]; done) | (simp only [nrmT] at *; omega) | (simp at * <;> omega) | (simp_all <;> omega) | (simp_all; done)
                  · intro b18
                    try simp only [nrmT] at b18
                    refine ⟨?_, ?_, ?_, ?_⟩
                    · simp only [marks_len]
                    · refine l_heldIntS_pc (marks (1 + ((raiseP Size Sets Costs).length : Int)) (raiseC Size Sets Costs).length) (1 + ((marks 1 (raiseP Size Sets Costs).length).length : Int)) ?_ ?_ ?_
                      · first | omega | rfl | (intro hg; simp only [nrmT] at hg; omega) | (intro g1 g2; simp [g1, g2]; done) | (intro g1; simp at g1 ⊢; simp [g1]; done) | (simp only [nrmT] at *; omega) | (simp at * <;> omega) | (simp_all <;> omega) | (simp_all; done)
                      · simp only [marks_len]
                      · simp only [marks_len]
                        have := @raiseP_len Size Sets Costs
                        have := @raiseC_len Size Sets Costs
                        omega
                    · intro b19
                      try simp only [nrmT] at b19
                      first | (exfalso; simp only [marks_len] at b19; omega) | (simp at b19; done) | (exfalso; simp only [marks_len] at b19; simp at b19; done) | omega | rfl | (intro hg; simp only [nrmT] at hg; omega) | (intro g1 g2; simp [g1, g2]; done) | (intro g1; simp at g1 ⊢; simp [g1]; done) | (simp only [nrmT] at *; omega) | (simp at * <;> omega) | (simp_all <;> omega) | (simp_all; done)
                    · intro b20
                      try simp only [nrmT] at b20
                      refine ⟨?_, ?_⟩
                      · intro b21
                        try simp only [nrmT] at b21
                        first | (exfalso; simp only [marks_len] at b21; omega) | (simp at b21; done) | (exfalso; simp only [marks_len] at b21; simp at b21; done) | omega | rfl | (intro hg; simp only [nrmT] at hg; omega) | (intro g1 g2; simp [g1, g2]; done) | (intro g1; simp at g1 ⊢; simp [g1]; done) | (simp only [nrmT] at *; omega) | (simp at * <;> omega) | (simp_all <;> omega) | (simp_all; done)
                      · intro b22
                        try simp only [nrmT] at b22
                        exact rfl
theorem l_FnExactRaisePrices_pc (Size : Int) (Sets : List (List Int)) (Costs : List Int)  : PC Try.prog 12 [.agg [.int .i64 Size, .sl (.rows Sets), .sl (.ints Costs)]] (.one (.d (.bool true))) :=
  pc_wf @Try.call12 fun hw => pc_by (by kernel_rfl) Try.func12 @Try.call12 (by kernel_rfl) l_FnExactRaisePrices_C (l_FnExactRaisePrices_A Size Sets Costs) (by kernel_rfl) (l_FnExactRaisePrices_vc Size Sets Costs hw.1.2.1.1 hw.1.2.1.2 hw.1.2.2.1) (by kernel_rfl)
end Go.Proofs.Ytijdbfbeobflnaa
