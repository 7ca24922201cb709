/- Contracts. -/
import Derived.Test.YtmcbcomcejgbcaaPw
import Derived.Test.YtmcbcomcejgbcaaProg
import Derived.KernelRfl
set_option linter.unusedVariables false
set_option linter.unusedSimpArgs false
namespace Go.Proofs.Ytmcbcomcejgbcaa
open Go

def s_l1In_C (f : FuncId) (ds : List D) : Orc := .no
def s_l1In_A (x : Int) (a : Int) (b : Int) : Ann := .none
def s_l1In_P (x : Int) (a : Int) (b : Int) : Prop :=
  ((decide (x ≥ a)) = true → (decide (x ≥ a)) = true) ∧ ((decide (x ≥ a)) = true → (decide (x ≥ a)) = true) ∧ (true = true) ∧ (((decide (x ≥ a)) = true → (decide (x ≥ a)) = true)) ∧ (((decide (x ≥ a)) = false → true = true)) ∧ (((cond (decide (x ≥ a)) (decide (x ≤ b)) false) = (inB x a b)))
theorem s_l1In_vc (x : Int) (a : Int) (b : Int)   : s_l1In_P x a b := by
  unfold s_l1In_P
  refine ⟨id, id, rfl, id, fun _ => rfl, ?_⟩
  · first | omega | rfl | (intro hg; simp only [nrmT] at hg; omega) | (intro g1 g2; simp [g1, g2]; done) | (intro g1; simp at g1 ⊢; simp [g1]; done) | (simp only [nrmT] at *; omega) | (simp at * <;> omega) | (simp_all <;> omega) | (simp_all; done) | (simp [inB]; omega) | (simp only [inB]; by_cases h : a ≤ x <;> simp_all)
theorem s_l1In_pc (x : Int) (a : Int) (b : Int)  : PC Try.prog 81 [.int .i64 x, .int .i64 a, .int .i64 b] (.one (.d (.bool (inB x a b)))) :=
  pc_wf @Try.call81 fun _ => pc_by (by kernel_rfl) Try.func81 @Try.call81 (by kernel_rfl) s_l1In_C (s_l1In_A x a b) (by kernel_rfl) (s_l1In_vc x a b) (by kernel_rfl)
def s_l1In_orc : List D → Orc := orcN [none, none, none] fun ds => match ds with
  | [.int .i64 x, .int .i64 a, .int .i64 b] => some (.one (.d (.bool (inB x a b))))
  | _ => none

def i_between_C (f : FuncId) (ds : List D) : Orc := .no
def i_between_A (x : Int) (a : Int) (b : Int) : Ann := .none
def i_between_P (x : Int) (a : Int) (b : Int) : Prop :=
  ((decide (x ≥ a)) = true → (decide (x ≥ a)) = true) ∧ ((decide (x ≥ a)) = true → (decide (x ≥ a)) = true) ∧ (true = true) ∧ (((decide (x ≥ a)) = true → (decide (x ≥ a)) = true)) ∧ (((decide (x ≥ a)) = false → true = true)) ∧ (((cond (decide (x ≥ a)) (decide (x ≤ b)) false) = (inB x a b)))
theorem i_between_vc (x : Int) (a : Int) (b : Int)   : i_between_P x a b := by
  unfold i_between_P
  refine ⟨id, id, rfl, id, fun _ => rfl, ?_⟩
  · first | omega | rfl | (intro hg; simp only [nrmT] at hg; omega) | (intro g1 g2; simp [g1, g2]; done) | (intro g1; simp at g1 ⊢; simp [g1]; done) | (simp only [nrmT] at *; omega) | (simp at * <;> omega) | (simp_all <;> omega) | (simp_all; done) | (simp [inB]; omega) | (simp only [inB]; by_cases h : a ≤ x <;> simp_all)
theorem i_between_pc (x : Int) (a : Int) (b : Int)  : PC Try.prog 82 [.int .i64 x, .int .i64 a, .int .i64 b] (.one (.d (.bool (inB x a b)))) :=
  pc_wf @Try.call82 fun _ => pc_by (by kernel_rfl) Try.func82 @Try.call82 (by kernel_rfl) i_between_C (i_between_A x a b) (by kernel_rfl) (i_between_vc x a b) (by kernel_rfl)
def i_between_orc : List D → Orc := orcN [none, none, none] fun ds => match ds with
  | [.int .i64 x, .int .i64 a, .int .i64 b] => some (.one (.d (.bool (inB x a b))))
  | _ => none

def sz1 (n : Nat) (left : Int) : Int := if left - n < 0 then -1 else left - n
def szTo (xss : List (List Int)) (left : Int) (k : Nat) : Int := foldTo (fun l k => if l < 0 then l else sz1 (xss.getD k []).length l) left k
def szRows (xss : List (List Int)) (left : Int) : Int := if left - xss.length < 0 then -1 else szTo xss (left - xss.length) xss.length
theorem szTo_stuck {xss : List (List Int)} {left : Int} {k : Nat} (h : szTo xss left k < 0) : ∀ n, k ≤ n → szTo xss left n = szTo xss left k
  | 0, hk => by have : k = 0 := by omega
                rw [this]
  | n + 1, hk => by
    by_cases e : k = n + 1
    · rw [e]
    · have h2 := szTo_stuck h n (by omega)
      show (if szTo xss left n < 0 then szTo xss left n else _) = _
      rw [h2, if_pos h]
theorem szTo_step {xss : List (List Int)} {left : Int} {i : Int} (h0 : 0 ≤ i) (h : 0 ≤ szTo xss left i.toNat) : szTo xss left (i + 1).toNat = sz1 (xss.getD i.toNat []).length (szTo xss left i.toNat) := by
  have e : (i + 1).toNat = i.toNat + 1 := by omega
  rw [e]
  show (if szTo xss left i.toNat < 0 then _ else _) = _
  rw [if_neg (by omega)]
  rfl
theorem szTo_bound {xss : List (List Int)} {left : Int} : ∀ k, k ≤ xss.length → 0 ≤ szTo xss left k → szTo xss left k ≤ left ∧ ∀ j, j < k → ((xss.getD j []).length : Int) ≤ left
  | 0, _, _ => ⟨Int.le_refl _, fun j hj => by omega⟩
  | k + 1, hk, h => by
    have e : szTo xss left (k + 1) = if szTo xss left k < 0 then szTo xss left k else sz1 (xss.getD k []).length (szTo xss left k) := rfl
    rw [e] at h ⊢
    by_cases h2 : szTo xss left k < 0
    · rw [if_pos h2] at h; omega
    · rw [if_neg h2] at h ⊢
      obtain ⟨h3, h4⟩ := szTo_bound (xss := xss) (left := left) k (by omega) (by omega)
      unfold sz1 at h ⊢
      by_cases h5 : szTo xss left k - ((xss.getD k []).length : Int) < 0
      · rw [if_pos h5] at h; omega
      · rw [if_neg h5] at h ⊢
        refine ⟨by omega, fun j hj => ?_⟩
        by_cases ej : j = k
        · rw [ej]; omega
        · exact h4 j (by omega)
theorem szRows_bound {xss : List (List Int)} {left : Int} (h : 0 ≤ szRows xss left) : szRows xss left ≤ left ∧ (xss.length : Int) ≤ left ∧ ∀ xs ∈ xss, (xs.length : Int) ≤ left := by
  unfold szRows at h ⊢
  by_cases h2 : left - (xss.length : Int) < 0
  · rw [if_pos h2] at h; omega
  · rw [if_neg h2] at h ⊢
    obtain ⟨h3, h4⟩ := szTo_bound _ (Nat.le_refl _) h
    refine ⟨by omega, by omega, fun xs hx => ?_⟩
    obtain ⟨k, hk, rfl⟩ := List.mem_iff_getElem.1 hx
    have := h4 k hk
    simp [hk] at this
    omega
theorem sz1_neg {n : Nat} {left : Int} (h : sz1 n left < 0) : sz1 n left = -1 := by
  unfold sz1 at *
  by_cases c : left - (n : Int) < 0
  · rw [if_pos c]
  · rw [if_neg c] at h; omega
theorem sz1_bound {n : Nat} {left : Int} (h : 0 ≤ sz1 n left) : sz1 n left ≤ left ∧ (n : Int) ≤ left := by
  unfold sz1 at *
  split at h <;> simp_all <;> omega

def l_szIntS_C (f : FuncId) (ds : List D) : Orc := .no
def l_szIntS_A (xs : List Int) (left : Int) : Ann := .none
def l_szIntS_P (xs : List Int) (left : Int) : Prop :=
  (-9223372036854775808 ≤ (left - (xs.length : Int)) ∧ (left - (xs.length : Int)) ≤ 9223372036854775807) ∧ (((decide ((left - (xs.length : Int)) < 0)) = true → ((((-1) : Int) = (sz1 xs.length left)))) ∧ ((decide ((left - (xs.length : Int)) < 0)) = false → (((left - (xs.length : Int)) = (sz1 xs.length left)))))
theorem l_szIntS_vc (xs : List Int) (left : Int) (hl : 0 ≤ left ∧ left ≤ 1048576) (w_xs : (xs.length : Int) ≤ 9223372036854775807) : l_szIntS_P xs left := by
  unfold l_szIntS_P
  refine ⟨?_, ?_, ?_⟩
  · first | omega | rfl | (intro hg; simp only [nrmT] at hg; omega) | (intro g1 g2; simp [g1, g2]; done) | (intro g1; simp at g1 ⊢; simp [g1]; done) | (simp only [nrmT] at *; omega) | (simp at * <;> omega) | (simp_all <;> omega) | (simp_all; done)
  · intro b1
    try simp only [nrmT] at b1
    unfold sz1; split <;> omega
  · intro b2
    try simp only [nrmT] at b2
    unfold sz1; split <;> omega
theorem l_szIntS_pc (xs : List Int) (left : Int) (hl : 0 ≤ left ∧ left ≤ 1048576) : PC Try.prog 84 [.sl (.ints xs), .int .i64 left] (.one (.d (.int .i64 (sz1 xs.length left)))) :=
  pc_wf @Try.call84 fun hw => pc_by (by kernel_rfl) Try.func84 @Try.call84 (by kernel_rfl) l_szIntS_C (l_szIntS_A xs left) (by kernel_rfl) (l_szIntS_vc xs left hl hw.1) (by kernel_rfl)
def l_szIntS_orc : List D → Orc := orcN [some .ints, none] fun ds => match ds with
  | [.sl (.ints xs), .int .i64 left] => some (.one (.d (.int .i64 (sz1 xs.length left))))
  | _ => none

abbrev l_szIntSS_JJ0 (xss : List (List Int)) (left : Int) (left1 : Int) (i : Int) : Prop := (0 ≤ i) ∧ (i ≤ (xss.length : Int)) ∧ (left1 = szTo xss (left - xss.length) i.toNat) ∧ (0 ≤ left1 ∧ left1 ≤ 1048576) ∧ (0 ≤ left - (xss.length : Int))
abbrev l_szIntSS_mJ0 (xss : List (List Int)) (left : Int) (left1 : Int) (i : Int) : Nat := (xss.length - i).toNat
def l_szIntSS_C (f : FuncId) (ds : List D) : Orc := bif Nat.beq f 84 then l_szIntS_orc ds else .no
def l_szIntSS_A (xss : List (List Int)) (left : Int) : Ann := .two (.none) (.two (.none) (.two (.none) (.two (.two (.none) (.loop (cut2 (fun (left1 : Int) (i : Int) => l_szIntSS_JJ0 xss left left1 i) (fun (left1 : Int) (i : Int) => [(0, .d false (.sl (.rows xss))), (1, .d true (.int .i64 left1)), (5, .d true (.int .i64 i))]) (fun (left1 : Int) (i : Int) => [])) (fun g => l_szIntSS_mJ0 xss left g.1 g.2) (fun _ => .none))) (.none))))
def l_szIntSS_P (xss : List (List Int)) (left : Int) : Prop :=
  (-9223372036854775808 ≤ (left - (xss.length : Int)) ∧ (left - (xss.length : Int)) ≤ 9223372036854775807) ∧ (((decide ((left - (xss.length : Int)) < 0)) = true → ((((-1) : Int) = (szRows xss left)))) ∧ ((decide ((left - (xss.length : Int)) < 0)) = false → ((∃ left1' : Int, ∃ i' : Int, (l_szIntSS_JJ0 xss left left1' i') ∧ (xss = xss) ∧ ((left - (xss.length : Int)) = left1') ∧ ((0 : Int) = i')) ∧ (∀ left1 : Int, ∀ i : Int, (l_szIntSS_JJ0 xss left left1 i) → (((decide (i < (xss.length : Int))) = true → ((0 : Int) ≤ i) ∧ ((i : Int) < xss.length) ∧ (i.toNat < xss.length) ∧ (PC Try.prog 84 [.sl (.ints (xss.getD i.toNat [])), .int .i64 left1] (.one (.d (.int .i64 (sz1 (xss.getD i.toNat []).length left1))))) ∧ (((decide ((sz1 (xss.getD i.toNat []).length left1) < 0)) = true → ((((-1) : Int) = (szRows xss left)))) ∧ ((decide ((sz1 (xss.getD i.toNat []).length left1) < 0)) = false → (-9223372036854775808 ≤ (i + 1) ∧ (i + 1) ≤ 9223372036854775807) ∧ (∃ left1' : Int, ∃ i' : Int, (l_szIntSS_JJ0 xss left left1' i') ∧ (l_szIntSS_mJ0 xss left left1' i' < l_szIntSS_mJ0 xss left left1 i) ∧ (xss = xss) ∧ ((sz1 (xss.getD i.toNat []).length left1) = left1') ∧ ((i + 1) = i'))))) ∧ ((decide (i < (xss.length : Int))) = false → ((left1 = (szRows xss left)))))))))
theorem l_szIntSS_vc (xss : List (List Int)) (left : Int) (hl : 0 ≤ left ∧ left ≤ 1048576) (w_xss : (xss.length : Int) ≤ 9223372036854775807) (v_xss : ∀ x9 ∈ xss, (x9.length : Int) ≤ 9223372036854775807) : l_szIntSS_P xss left := by
  unfold l_szIntSS_P
  refine ⟨?_, ?_, ?_⟩
  · first | omega | rfl | (intro hg; simp only [nrmT] at hg; omega) | (intro g1 g2; simp [g1, g2]; done) | (intro g1; simp at g1 ⊢; simp [g1]; done) | (simp only [nrmT] at *; omega) | (simp at * <;> omega) | (simp_all <;> omega) | (simp_all; done)
  · intro b1
    try simp only [nrmT] at b1
    unfold szRows; rw [if_pos (by omega)]
  · intro b2
    try simp only [nrmT] at b2
    refine ⟨?_, ?_⟩
    · refine ⟨(left - (xss.length : Int)), 0, ?_⟩
      refine ⟨?_, rfl, rfl, rfl⟩
      · refine ⟨?_, ?_, ?_, ?_, ?_⟩
        · first | omega | rfl | (intro hg; simp only [nrmT] at hg; omega) | (intro g1 g2; simp [g1, g2]; done) | (intro g1; simp at g1 ⊢; simp [g1]; done) | (simp only [nrmT] at *; omega) | (simp at * <;> omega) | (simp_all <;> omega) | (simp_all; done)
        · first | omega | rfl | (intro hg; simp only [nrmT] at hg; omega) | (intro g1 g2; simp [g1, g2]; done) | (intro g1; simp at g1 ⊢; simp [g1]; done) | (simp only [nrmT] at *; omega) | (simp at * <;> omega) | (simp_all <;> omega) | (simp_all; done)
        · first | omega | rfl | (intro hg; simp only [nrmT] at hg; omega) | (intro g1 g2; simp [g1, g2]; done) | (intro g1; simp at g1 ⊢; simp [g1]; done) | (simp only [nrmT] at *; omega) | (simp at * <;> omega) | (simp_all <;> omega) | (simp_all; done)
        · first | omega | rfl | (intro hg; simp only [nrmT] at hg; omega) | (intro g1 g2; simp [g1, g2]; done) | (intro g1; simp at g1 ⊢; simp [g1]; done) | (simp only [nrmT] at *; omega) | (simp at * <;> omega) | (simp_all <;> omega) | (simp_all; done)
        · first | omega | rfl | (intro hg; simp only [nrmT] at hg; omega) | (intro g1 g2; simp [g1, g2]; done) | (intro g1; simp at g1 ⊢; simp [g1]; done) | (simp only [nrmT] at *; omega) | (simp at * <;> omega) | (simp_all <;> omega) | (simp_all; done)
    · intro left1 i hJ
      obtain ⟨h1, h2, h3, h4, h5⟩ := hJ
      refine ⟨?_, ?_⟩
      · intro b3
        try simp only [nrmT] at b3
        refine ⟨?_, ?_, ?_, ?_, ?_, ?_⟩
        · first | omega | rfl | (intro hg; simp only [nrmT] at hg; omega) | (intro g1 g2; simp [g1, g2]; done) | (intro g1; simp at g1 ⊢; simp [g1]; done) | (simp only [nrmT] at *; omega) | (simp at * <;> omega) | (simp_all <;> omega) | (simp_all; done)
        · first | omega | rfl | (intro hg; simp only [nrmT] at hg; omega) | (intro g1 g2; simp [g1, g2]; done) | (intro g1; simp at g1 ⊢; simp [g1]; done) | (simp only [nrmT] at *; omega) | (simp at * <;> omega) | (simp_all <;> omega) | (simp_all; done)
        · first | omega | rfl | (intro hg; simp only [nrmT] at hg; omega) | (intro g1 g2; simp [g1, g2]; done) | (intro g1; simp at g1 ⊢; simp [g1]; done) | (simp only [nrmT] at *; omega) | (simp at * <;> omega) | (simp_all <;> omega) | (simp_all; done)
        · refine l_szIntS_pc (xss.getD i.toNat []) left1 ?_
          · first | omega | rfl | (intro hg; simp only [nrmT] at hg; omega) | (intro g1 g2; simp [g1, g2]; done) | (intro g1; simp at g1 ⊢; simp [g1]; done) | (simp only [nrmT] at *; omega) | (simp at * <;> omega) | (simp_all <;> omega) | (simp_all; done)
        · intro b4
          try simp only [nrmT] at b4
          have e := szTo_step (xss := xss) (left := left - xss.length) h1 (by omega)
          rw [← h3] at e
          have e2 := szTo_stuck (k := (i + 1).toNat) (by rw [e]; exact b4) xss.length (by omega)
          unfold szRows
          rw [if_neg (by omega), e2, e]
          exact (sz1_neg b4).symm
        · intro b5
          try simp only [nrmT] at b5
          refine ⟨?_, ?_⟩
          · first | omega | rfl | (intro hg; simp only [nrmT] at hg; omega) | (intro g1 g2; simp [g1, g2]; done) | (intro g1; simp at g1 ⊢; simp [g1]; done) | (simp only [nrmT] at *; omega) | (simp at * <;> omega) | (simp_all <;> omega) | (simp_all; done)
          · refine ⟨(sz1 (xss.getD i.toNat []).length left1), (i + 1), ?_⟩
            refine ⟨?_, ?_, rfl, rfl, rfl⟩
            · refine ⟨?_, ?_, ?_, ?_, ?_⟩
              · first | omega | rfl | (intro hg; simp only [nrmT] at hg; omega) | (intro g1 g2; simp [g1, g2]; done) | (intro g1; simp at g1 ⊢; simp [g1]; done) | (simp only [nrmT] at *; omega) | (simp at * <;> omega) | (simp_all <;> omega) | (simp_all; done)
              · first | omega | rfl | (intro hg; simp only [nrmT] at hg; omega) | (intro g1 g2; simp [g1, g2]; done) | (intro g1; simp at g1 ⊢; simp [g1]; done) | (simp only [nrmT] at *; omega) | (simp at * <;> omega) | (simp_all <;> omega) | (simp_all; done)
              · rw [h3, szTo_step h1 (by omega)]
              · have := sz1_bound (n := (xss.getD i.toNat []).length) (left := left1) (by omega)
                omega
              · first | omega | rfl | (intro hg; simp only [nrmT] at hg; omega) | (intro g1 g2; simp [g1, g2]; done) | (intro g1; simp at g1 ⊢; simp [g1]; done) | (simp only [nrmT] at *; omega) | (simp at * <;> omega) | (simp_all <;> omega) | (simp_all; done)
            · first | (show _ < _; omega) | (simp only [l_szIntSS_mJ0]; omega) | (simp only [l_szIntSS_mJ0] at *; simp at *; omega)
      · intro b6
        try simp only [nrmT] at b6
        unfold szRows
        rw [if_neg (by omega), h3]
        have : i.toNat = xss.length := by omega
        rw [this]
theorem l_szIntSS_pc (xss : List (List Int)) (left : Int) (hl : 0 ≤ left ∧ left ≤ 1048576) : PC Try.prog 83 [.sl (.rows xss), .int .i64 left] (.one (.d (.int .i64 (szRows xss left)))) :=
  pc_wf @Try.call83 fun hw => pc_by (by kernel_rfl) Try.func83 @Try.call83 (by kernel_rfl) l_szIntSS_C (l_szIntSS_A xss left) (by kernel_rfl) (l_szIntSS_vc xss left hl hw.1.1 hw.1.2) (by kernel_rfl)
def l_szIntSS_orc : List D → Orc := orcN [some .rows, none] fun ds => match ds with
  | [.sl (.rows xss), .int .i64 left] => some (.one (.d (.int .i64 (szRows xss left))))
  | _ => none

def risingP (xs : List Int) (lo hi : Int) (k : Nat) : Bool := inB (xs.getD k 0) lo hi && (decide (k = 0) || decide (xs.getD (k - 1) 0 < xs.getD k 0))
def rising (xs : List Int) (lo hi : Int) : Bool := allTo (risingP xs lo hi) xs.length
theorem rising_step {xs : List Int} {lo hi i : Int} (h0 : 0 ≤ i) {c : Bool} (hc : (cond (!(inB (xs.getD i.toNat 0) lo hi)) true (cond (decide (i > 0)) (decide (xs.getD (i - 1).toNat 0 ≥ xs.getD i.toNat 0)) false)) = c) :
    risingP xs lo hi i.toNat = !c := by
  subst hc
  have e : (i - 1).toNat = i.toNat - 1 := by omega
  unfold risingP
  rw [e]
  cases inB (xs.getD i.toNat 0) lo hi
  · rfl
  · by_cases h : i > 0
    · have h2 : ¬ i.toNat = 0 := by omega
      simp [h, h2]
      by_cases h3 : xs[i.toNat - 1]?.getD 0 < xs[i.toNat]?.getD 0
      · simp [h3]
      · simp [h3]; omega
    · have h2 : i.toNat = 0 := by omega
      simp [h, h2]

abbrev s_l1Rising_JJ0 (xs : List Int) (lo : Int) (hi : Int) (i : Int) : Prop := (0 ≤ i) ∧ (i ≤ (xs.length : Int)) ∧ (allTo (risingP xs lo hi) i.toNat = true)
abbrev s_l1Rising_mJ0 (xs : List Int) (lo : Int) (hi : Int) (i : Int) : Nat := (xs.length - i).toNat
def s_l1Rising_C (f : FuncId) (ds : List D) : Orc := bif Nat.beq f 81 then s_l1In_orc ds else .no
def s_l1Rising_A (xs : List Int) (lo : Int) (hi : Int) : Ann := .two (.none) (.two (.two (.none) (.loop (cut1 (fun (i : Int) => s_l1Rising_JJ0 xs lo hi i) (fun (i : Int) => [(0, .d false (.sl (.ints xs))), (1, .d false (.int .i64 lo)), (2, .d false (.int .i64 hi)), (7, .d true (.int .i64 i))]) (fun (i : Int) => [])) (fun g => s_l1Rising_mJ0 xs lo hi g) (fun _ => .none))) (.none))
def s_l1Rising_P (xs : List Int) (lo : Int) (hi : Int) : Prop :=
  ((∃ i' : Int, (s_l1Rising_JJ0 xs lo hi i') ∧ (xs = xs) ∧ (lo = lo) ∧ (hi = hi) ∧ ((0 : Int) = i')) ∧ (∀ i : Int, (s_l1Rising_JJ0 xs lo hi i) → (((decide (i < (xs.length : Int))) = true → (true = true) ∧ ((0 : Int) ≤ i) ∧ ((i : Int) < xs.length) ∧ (i.toNat < xs.length) ∧ (PC Try.prog 81 [.int .i64 (xs.getD i.toNat 0), .int .i64 lo, .int .i64 hi] (.one (.d (.bool (inB (xs.getD i.toNat 0) lo hi))))) ∧ ((!(!(inB (xs.getD i.toNat 0) lo hi))) = true → (!(!(inB (xs.getD i.toNat 0) lo hi))) = true) ∧ ((!(!(inB (xs.getD i.toNat 0) lo hi))) = true → (!(!(inB (xs.getD i.toNat 0) lo hi))) = true) ∧ (((!(!(inB (xs.getD i.toNat 0) lo hi))) && (decide (i > 0))) = true → ((!(!(inB (xs.getD i.toNat 0) lo hi))) && (decide (i > 0))) = true) ∧ ((((!(!(inB (xs.getD i.toNat 0) lo hi))) && (decide (i > 0))) = true → -9223372036854775808 ≤ (i - 1) ∧ (i - 1) ≤ 9223372036854775807)) ∧ (((!(!(inB (xs.getD i.toNat 0) lo hi))) && (decide (i > 0))) = true → ((!(!(inB (xs.getD i.toNat 0) lo hi))) && (decide (i > 0))) = true) ∧ (((!(!(inB (xs.getD i.toNat 0) lo hi))) && (decide (i > 0))) = true → ((!(!(inB (xs.getD i.toNat 0) lo hi))) && (decide (i > 0))) = true) ∧ ((((!(!(inB (xs.getD i.toNat 0) lo hi))) && (decide (i > 0))) = true → (0 : Int) ≤ (i - 1))) ∧ ((((!(!(inB (xs.getD i.toNat 0) lo hi))) && (decide (i > 0))) = true → ((i - 1) : Int) < xs.length)) ∧ (((!(!(inB (xs.getD i.toNat 0) lo hi))) && (decide (i > 0))) = true → ((!(!(inB (xs.getD i.toNat 0) lo hi))) && (decide (i > 0))) = true) ∧ ((((!(!(inB (xs.getD i.toNat 0) lo hi))) && (decide (i > 0))) = true → (i - 1).toNat < xs.length)) ∧ (((!(!(inB (xs.getD i.toNat 0) lo hi))) && (decide (i > 0))) = true → ((!(!(inB (xs.getD i.toNat 0) lo hi))) && (decide (i > 0))) = true) ∧ (((!(!(inB (xs.getD i.toNat 0) lo hi))) && (decide (i > 0))) = true → ((!(!(inB (xs.getD i.toNat 0) lo hi))) && (decide (i > 0))) = true) ∧ ((((!(!(inB (xs.getD i.toNat 0) lo hi))) && (decide (i > 0))) = true → (0 : Int) ≤ i)) ∧ ((((!(!(inB (xs.getD i.toNat 0) lo hi))) && (decide (i > 0))) = true → (i : Int) < xs.length)) ∧ (((!(!(inB (xs.getD i.toNat 0) lo hi))) && (decide (i > 0))) = true → ((!(!(inB (xs.getD i.toNat 0) lo hi))) && (decide (i > 0))) = true) ∧ ((((!(!(inB (xs.getD i.toNat 0) lo hi))) && (decide (i > 0))) = true → i.toNat < xs.length)) ∧ (((!(!(inB (xs.getD i.toNat 0) lo hi))) && (decide (i > 0))) = true → ((!(!(inB (xs.getD i.toNat 0) lo hi))) && (decide (i > 0))) = true) ∧ (((!(!(inB (xs.getD i.toNat 0) lo hi))) && (decide (i > 0))) = true → ((!(!(inB (xs.getD i.toNat 0) lo hi))) && (decide (i > 0))) = true) ∧ (((!(!(inB (xs.getD i.toNat 0) lo hi))) = true → (!(!(inB (xs.getD i.toNat 0) lo hi))) = true)) ∧ (((!(!(inB (xs.getD i.toNat 0) lo hi))) = true → (decide (i > 0)) = true → ((!(!(inB (xs.getD i.toNat 0) lo hi))) && (decide (i > 0))) = true)) ∧ (((!(!(inB (xs.getD i.toNat 0) lo hi))) = true → (decide (i > 0)) = false → true = true)) ∧ (true = true) ∧ (((!(inB (xs.getD i.toNat 0) lo hi)) = true → true = true)) ∧ (((!(inB (xs.getD i.toNat 0) lo hi)) = false → (!(!(inB (xs.getD i.toNat 0) lo hi))) = true)) ∧ (((cond (!(inB (xs.getD i.toNat 0) lo hi)) true (cond (decide (i > 0)) (decide ((xs.getD ((i - 1).toNat) 0) ≥ (xs.getD i.toNat 0))) false)) = true → ((false = (rising xs lo hi)))) ∧ ((cond (!(inB (xs.getD i.toNat 0) lo hi)) true (cond (decide (i > 0)) (decide ((xs.getD ((i - 1).toNat) 0) ≥ (xs.getD i.toNat 0))) false)) = false → (-9223372036854775808 ≤ (i + 1) ∧ (i + 1) ≤ 9223372036854775807) ∧ (∃ i' : Int, (s_l1Rising_JJ0 xs lo hi i') ∧ (s_l1Rising_mJ0 xs lo hi i' < s_l1Rising_mJ0 xs lo hi i) ∧ (xs = xs) ∧ (lo = lo) ∧ (hi = hi) ∧ ((i + 1) = i'))))) ∧ ((decide (i < (xs.length : Int))) = false → ((true = (rising xs lo hi)))))))
theorem s_l1Rising_vc (xs : List Int) (lo : Int) (hi : Int)  (w_xs : (xs.length : Int) ≤ 9223372036854775807) : s_l1Rising_P xs lo hi := by
  unfold s_l1Rising_P
  refine ⟨?_, ?_⟩
  · refine ⟨0, ?_⟩
    refine ⟨?_, rfl, rfl, rfl, rfl⟩
    · refine ⟨?_, ?_, ?_⟩
      · first | omega | rfl | (intro hg; simp only [nrmT] at hg; omega) | (intro g1 g2; simp [g1, g2]; done) | (intro g1; simp at g1 ⊢; simp [g1]; done) | (simp only [nrmT] at *; omega) | (simp at * <;> omega) | (simp_all <;> omega) | (simp_all; done)
      · first | omega | rfl | (intro hg; simp only [nrmT] at hg; omega) | (intro g1 g2; simp [g1, g2]; done) | (intro g1; simp at g1 ⊢; simp [g1]; done) | (simp only [nrmT] at *; omega) | (simp at * <;> omega) | (simp_all <;> omega) | (simp_all; done)
      · first | omega | rfl | (intro hg; simp only [nrmT] at hg; omega) | (intro g1 g2; simp [g1, g2]; done) | (intro g1; simp at g1 ⊢; simp [g1]; done) | (simp only [nrmT] at *; omega) | (simp at * <;> omega) | (simp_all <;> omega) | (simp_all; done)
  · intro i hJ
    obtain ⟨h1, h2, h3⟩ := hJ
    refine ⟨?_, ?_⟩
    · intro b1
      try simp only [nrmT] at b1
      refine ⟨rfl, ?_, ?_, ?_, s_l1In_pc (xs.getD i.toNat 0) lo hi, id, id, id, ?_, id, id, ?_, ?_, id, ?_, id, id, ?_, ?_, id, ?_, id, id, id, ?_, fun _ _ => rfl, rfl, fun _ => rfl, ?_, ?_, ?_⟩
      · first | omega | rfl | (intro hg; simp only [nrmT] at hg; omega) | (intro g1 g2; simp [g1, g2]; done) | (intro g1; simp at g1 ⊢; simp [g1]; done) | (simp only [nrmT] at *; omega) | (simp at * <;> omega) | (simp_all <;> omega) | (simp_all; done)
      · first | omega | rfl | (intro hg; simp only [nrmT] at hg; omega) | (intro g1 g2; simp [g1, g2]; done) | (intro g1; simp at g1 ⊢; simp [g1]; done) | (simp only [nrmT] at *; omega) | (simp at * <;> omega) | (simp_all <;> omega) | (simp_all; done)
      · first | omega | rfl | (intro hg; simp only [nrmT] at hg; omega) | (intro g1 g2; simp [g1, g2]; done) | (intro g1; simp at g1 ⊢; simp [g1]; done) | (simp only [nrmT] at *; omega) | (simp at * <;> omega) | (simp_all <;> omega) | (simp_all; done)
      · first | omega | rfl | (intro hg; simp only [nrmT] at hg; omega) | (intro g1 g2; simp [g1, g2]; done) | (intro g1; simp at g1 ⊢; simp [g1]; done) | (simp only [nrmT] at *; omega) | (simp at * <;> omega) | (simp_all <;> omega) | (simp_all; done)
      · first | omega | rfl | (intro hg; simp only [nrmT] at hg; omega) | (intro g1 g2; simp [g1, g2]; done) | (intro g1; simp at g1 ⊢; simp [g1]; done) | (simp only [nrmT] at *; omega) | (simp at * <;> omega) | (simp_all <;> omega) | (simp_all; done)
      · first | omega | rfl | (intro hg; simp only [nrmT] at hg; omega) | (intro g1 g2; simp [g1, g2]; done) | (intro g1; simp at g1 ⊢; simp [g1]; done) | (simp only [nrmT] at *; omega) | (simp at * <;> omega) | (simp_all <;> omega) | (simp_all; done)
      · first | omega | rfl | (intro hg; simp only [nrmT] at hg; omega) | (intro g1 g2; simp [g1, g2]; done) | (intro g1; simp at g1 ⊢; simp [g1]; done) | (simp only [nrmT] at *; omega) | (simp at * <;> omega) | (simp_all <;> omega) | (simp_all; done)
      · first | omega | rfl | (intro hg; simp only [nrmT] at hg; omega) | (intro g1 g2; simp [g1, g2]; done) | (intro g1; simp at g1 ⊢; simp [g1]; done) | (simp only [nrmT] at *; omega) | (simp at * <;> omega) | (simp_all <;> omega) | (simp_all; done)
      · first | omega | rfl | (intro hg; simp only [nrmT] at hg; omega) | (intro g1 g2; simp [g1, g2]; done) | (intro g1; simp at g1 ⊢; simp [g1]; done) | (simp only [nrmT] at *; omega) | (simp at * <;> omega) | (simp_all <;> omega) | (simp_all; done)
      · first | omega | rfl | (intro hg; simp only [nrmT] at hg; omega) | (intro g1 g2; simp [g1, g2]; done) | (intro g1; simp at g1 ⊢; simp [g1]; done) | (simp only [nrmT] at *; omega) | (simp at * <;> omega) | (simp_all <;> omega) | (simp_all; done)
      · first | omega | rfl | (intro hg; simp only [nrmT] at hg; omega) | (intro g1 g2; simp [g1, g2]; done) | (intro g1; simp at g1 ⊢; simp [g1]; done) | (simp only [nrmT] at *; omega) | (simp at * <;> omega) | (simp_all <;> omega) | (simp_all; done)
      · first | omega | rfl | (intro hg; simp only [nrmT] at hg; omega) | (intro g1 g2; simp [g1, g2]; done) | (intro g1; simp at g1 ⊢; simp [g1]; done) | (simp only [nrmT] at *; omega) | (simp at * <;> omega) | (simp_all <;> omega) | (simp_all; done)
      · intro b2
        have e := rising_step h1 b2
        exact (allTo_falseI h1 (by omega) e).symm
      · intro b3
        refine ⟨?_, ?_⟩
        · first | omega | rfl | (intro hg; simp only [nrmT] at hg; omega) | (intro g1 g2; simp [g1, g2]; done) | (intro g1; simp at g1 ⊢; simp [g1]; done) | (simp only [nrmT] at *; omega) | (simp at * <;> omega) | (simp_all <;> omega) | (simp_all; done)
        · refine ⟨(i + 1), ?_⟩
          refine ⟨?_, ?_, rfl, rfl, rfl, rfl⟩
          · refine ⟨?_, ?_, ?_⟩
            · first | omega | rfl | (intro hg; simp only [nrmT] at hg; omega) | (intro g1 g2; simp [g1, g2]; done) | (intro g1; simp at g1 ⊢; simp [g1]; done) | (simp only [nrmT] at *; omega) | (simp at * <;> omega) | (simp_all <;> omega) | (simp_all; done)
            · first | omega | rfl | (intro hg; simp only [nrmT] at hg; omega) | (intro g1 g2; simp [g1, g2]; done) | (intro g1; simp at g1 ⊢; simp [g1]; done) | (simp only [nrmT] at *; omega) | (simp at * <;> omega) | (simp_all <;> omega) | (simp_all; done)
            · have e := rising_step h1 b3
              exact allTo_step h1 h3 e
          · first | (show _ < _; omega) | (simp only [s_l1Rising_mJ0]; omega) | (simp only [s_l1Rising_mJ0] at *; simp at *; omega)
    · intro b4
      try simp only [nrmT] at b4
      have e : i.toNat = xs.length := by omega
      rw [e] at h3
      exact h3.symm
theorem s_l1Rising_pc (xs : List Int) (lo : Int) (hi : Int)  : PC Try.prog 119 [.sl (.ints xs), .int .i64 lo, .int .i64 hi] (.one (.d (.bool (rising xs lo hi)))) :=
  pc_wf @Try.call119 fun hw => pc_by (by kernel_rfl) Try.func119 @Try.call119 (by kernel_rfl) s_l1Rising_C (s_l1Rising_A xs lo hi) (by kernel_rfl) (s_l1Rising_vc xs lo hi hw.1) (by kernel_rfl)
def s_l1Rising_orc : List D → Orc := orcN [some .ints, none, none] fun ds => match ds with
  | [.sl (.ints xs), .int .i64 lo, .int .i64 hi] => some (.one (.d (.bool (rising xs lo hi))))
  | _ => none

abbrev i_isRising_JJ0 (xs : List Int) (below : Int) (i : Int) : Prop := (0 ≤ i) ∧ (i ≤ (xs.length : Int)) ∧ (allTo (risingP xs 0 (below - 1)) i.toNat = true)
abbrev i_isRising_mJ0 (xs : List Int) (below : Int) (i : Int) : Nat := (xs.length - i).toNat
def i_isRising_C (f : FuncId) (ds : List D) : Orc := bif Nat.beq f 82 then i_between_orc ds else .no
def i_isRising_A (xs : List Int) (below : Int) : Ann := .two (.none) (.two (.two (.none) (.loop (cut1 (fun (i : Int) => i_isRising_JJ0 xs below i) (fun (i : Int) => [(0, .d false (.sl (.ints xs))), (1, .d false (.int .i64 below)), (7, .d false (.sl (.ints xs))), (8, .d true (.int .i64 (xs.length : Int))), (9, .d true (.int .i64 i))]) (fun (i : Int) => [])) (fun g => i_isRising_mJ0 xs below g) (fun _ => .none))) (.none))
def i_isRising_P (xs : List Int) (below : Int) : Prop :=
  ((∃ i' : Int, (i_isRising_JJ0 xs below i') ∧ (xs = xs) ∧ (below = below) ∧ (xs = xs) ∧ ((xs.length : Int) = (xs.length : Int)) ∧ ((0 : Int) = i')) ∧ (∀ i : Int, (i_isRising_JJ0 xs below i) → (((decide (i < (xs.length : Int))) = true → ((0 : Int) ≤ i) ∧ ((i : Int) < xs.length) ∧ (i.toNat < xs.length) ∧ (-9223372036854775808 ≤ (below - 1) ∧ (below - 1) ≤ 9223372036854775807) ∧ (PC Try.prog 82 [.int .i64 (xs.getD i.toNat 0), .int .i64 0, .int .i64 (below - 1)] (.one (.d (.bool (inB (xs.getD i.toNat 0) 0 (below - 1)))))) ∧ ((!(!(inB (xs.getD i.toNat 0) 0 (below - 1)))) = true → (!(!(inB (xs.getD i.toNat 0) 0 (below - 1)))) = true) ∧ ((!(!(inB (xs.getD i.toNat 0) 0 (below - 1)))) = true → (!(!(inB (xs.getD i.toNat 0) 0 (below - 1)))) = true) ∧ (((!(!(inB (xs.getD i.toNat 0) 0 (below - 1)))) && (decide (i > 0))) = true → ((!(!(inB (xs.getD i.toNat 0) 0 (below - 1)))) && (decide (i > 0))) = true) ∧ ((((!(!(inB (xs.getD i.toNat 0) 0 (below - 1)))) && (decide (i > 0))) = true → -9223372036854775808 ≤ (i - 1) ∧ (i - 1) ≤ 9223372036854775807)) ∧ (((!(!(inB (xs.getD i.toNat 0) 0 (below - 1)))) && (decide (i > 0))) = true → ((!(!(inB (xs.getD i.toNat 0) 0 (below - 1)))) && (decide (i > 0))) = true) ∧ (((!(!(inB (xs.getD i.toNat 0) 0 (below - 1)))) && (decide (i > 0))) = true → ((!(!(inB (xs.getD i.toNat 0) 0 (below - 1)))) && (decide (i > 0))) = true) ∧ ((((!(!(inB (xs.getD i.toNat 0) 0 (below - 1)))) && (decide (i > 0))) = true → (0 : Int) ≤ (i - 1))) ∧ ((((!(!(inB (xs.getD i.toNat 0) 0 (below - 1)))) && (decide (i > 0))) = true → ((i - 1) : Int) < xs.length)) ∧ (((!(!(inB (xs.getD i.toNat 0) 0 (below - 1)))) && (decide (i > 0))) = true → ((!(!(inB (xs.getD i.toNat 0) 0 (below - 1)))) && (decide (i > 0))) = true) ∧ ((((!(!(inB (xs.getD i.toNat 0) 0 (below - 1)))) && (decide (i > 0))) = true → (i - 1).toNat < xs.length)) ∧ (((!(!(inB (xs.getD i.toNat 0) 0 (below - 1)))) && (decide (i > 0))) = true → ((!(!(inB (xs.getD i.toNat 0) 0 (below - 1)))) && (decide (i > 0))) = true) ∧ (((!(!(inB (xs.getD i.toNat 0) 0 (below - 1)))) && (decide (i > 0))) = true → ((!(!(inB (xs.getD i.toNat 0) 0 (below - 1)))) && (decide (i > 0))) = true) ∧ (((!(!(inB (xs.getD i.toNat 0) 0 (below - 1)))) = true → (!(!(inB (xs.getD i.toNat 0) 0 (below - 1)))) = true)) ∧ (((!(!(inB (xs.getD i.toNat 0) 0 (below - 1)))) = true → (decide (i > 0)) = true → ((!(!(inB (xs.getD i.toNat 0) 0 (below - 1)))) && (decide (i > 0))) = true)) ∧ (((!(!(inB (xs.getD i.toNat 0) 0 (below - 1)))) = true → (decide (i > 0)) = false → true = true)) ∧ (true = true) ∧ (((!(inB (xs.getD i.toNat 0) 0 (below - 1))) = true → true = true)) ∧ (((!(inB (xs.getD i.toNat 0) 0 (below - 1))) = false → (!(!(inB (xs.getD i.toNat 0) 0 (below - 1)))) = true)) ∧ (((cond (!(inB (xs.getD i.toNat 0) 0 (below - 1))) true (cond (decide (i > 0)) (decide ((xs.getD i.toNat 0) ≤ (xs.getD ((i - 1).toNat) 0))) false)) = true → ((false = (rising xs 0 (below - 1))))) ∧ ((cond (!(inB (xs.getD i.toNat 0) 0 (below - 1))) true (cond (decide (i > 0)) (decide ((xs.getD i.toNat 0) ≤ (xs.getD ((i - 1).toNat) 0))) false)) = false → (-9223372036854775808 ≤ (i + 1) ∧ (i + 1) ≤ 9223372036854775807) ∧ (∃ i' : Int, (i_isRising_JJ0 xs below i') ∧ (i_isRising_mJ0 xs below i' < i_isRising_mJ0 xs below i) ∧ (xs = xs) ∧ (below = below) ∧ (xs = xs) ∧ ((xs.length : Int) = (xs.length : Int)) ∧ ((i + 1) = i'))))) ∧ ((decide (i < (xs.length : Int))) = false → ((true = (rising xs 0 (below - 1))))))))
theorem i_isRising_vc (xs : List Int) (below : Int) (hb : -9223372036854775808 < below ∧ below ≤ 9223372036854775807) (w_xs : (xs.length : Int) ≤ 9223372036854775807) : i_isRising_P xs below := by
  unfold i_isRising_P
  refine ⟨?_, ?_⟩
  · refine ⟨0, ?_⟩
    refine ⟨?_, rfl, rfl, rfl, rfl, rfl⟩
    · refine ⟨?_, ?_, ?_⟩
      · first | omega | rfl | (intro hg; simp only [nrmT] at hg; omega) | (intro g1 g2; simp [g1, g2]; done) | (intro g1; simp at g1 ⊢; simp [g1]; done) | (simp only [nrmT] at *; omega) | (simp at * <;> omega) | (simp_all <;> omega) | (simp_all; done)
      · first | omega | rfl | (intro hg; simp only [nrmT] at hg; omega) | (intro g1 g2; simp [g1, g2]; done) | (intro g1; simp at g1 ⊢; simp [g1]; done) | (simp only [nrmT] at *; omega) | (simp at * <;> omega) | (simp_all <;> omega) | (simp_all; done)
      · first | omega | rfl | (intro hg; simp only [nrmT] at hg; omega) | (intro g1 g2; simp [g1, g2]; done) | (intro g1; simp at g1 ⊢; simp [g1]; done) | (simp only [nrmT] at *; omega) | (simp at * <;> omega) | (simp_all <;> omega) | (simp_all; done)
  · intro i hJ
    obtain ⟨h1, h2, h3⟩ := hJ
    refine ⟨?_, ?_⟩
    · intro b1
      try simp only [nrmT] at b1
      refine ⟨?_, ?_, ?_, ?_, i_between_pc (xs.getD i.toNat 0) 0 (below - 1), id, id, id, ?_, id, id, ?_, ?_, id, ?_, id, id, id, ?_, fun _ _ => rfl, rfl, fun _ => rfl, ?_, ?_, ?_⟩
      · first | omega | rfl | (intro hg; simp only [nrmT] at hg; omega) | (intro g1 g2; simp [g1, g2]; done) | (intro g1; simp at g1 ⊢; simp [g1]; done) | (simp only [nrmT] at *; omega) | (simp at * <;> omega) | (simp_all <;> omega) | (simp_all; done)
      · first | omega | rfl | (intro hg; simp only [nrmT] at hg; omega) | (intro g1 g2; simp [g1, g2]; done) | (intro g1; simp at g1 ⊢; simp [g1]; done) | (simp only [nrmT] at *; omega) | (simp at * <;> omega) | (simp_all <;> omega) | (simp_all; done)
      · first | omega | rfl | (intro hg; simp only [nrmT] at hg; omega) | (intro g1 g2; simp [g1, g2]; done) | (intro g1; simp at g1 ⊢; simp [g1]; done) | (simp only [nrmT] at *; omega) | (simp at * <;> omega) | (simp_all <;> omega) | (simp_all; done)
      · first | omega | rfl | (intro hg; simp only [nrmT] at hg; omega) | (intro g1 g2; simp [g1, g2]; done) | (intro g1; simp at g1 ⊢; simp [g1]; done) | (simp only [nrmT] at *; omega) | (simp at * <;> omega) | (simp_all <;> omega) | (simp_all; done)
      · first | omega | rfl | (intro hg; simp only [nrmT] at hg; omega) | (intro g1 g2; simp [g1, g2]; done) | (intro g1; simp at g1 ⊢; simp [g1]; done) | (simp only [nrmT] at *; omega) | (simp at * <;> omega) | (simp_all <;> omega) | (simp_all; done)
      · first | omega | rfl | (intro hg; simp only [nrmT] at hg; omega) | (intro g1 g2; simp [g1, g2]; done) | (intro g1; simp at g1 ⊢; simp [g1]; done) | (simp only [nrmT] at *; omega) | (simp at * <;> omega) | (simp_all <;> omega) | (simp_all; done)
      · first | omega | rfl | (intro hg; simp only [nrmT] at hg; omega) | (intro g1 g2; simp [g1, g2]; done) | (intro g1; simp at g1 ⊢; simp [g1]; done) | (simp only [nrmT] at *; omega) | (simp at * <;> omega) | (simp_all <;> omega) | (simp_all; done)
      · first | omega | rfl | (intro hg; simp only [nrmT] at hg; omega) | (intro g1 g2; simp [g1, g2]; done) | (intro g1; simp at g1 ⊢; simp [g1]; done) | (simp only [nrmT] at *; omega) | (simp at * <;> omega) | (simp_all <;> omega) | (simp_all; done)
      · first | omega | rfl | (intro hg; simp only [nrmT] at hg; omega) | (intro g1 g2; simp [g1, g2]; done) | (intro g1; simp at g1 ⊢; simp [g1]; done) | (simp only [nrmT] at *; omega) | (simp at * <;> omega) | (simp_all <;> omega) | (simp_all; done)
      · first | omega | rfl | (intro hg; simp only [nrmT] at hg; omega) | (intro g1 g2; simp [g1, g2]; done) | (intro g1; simp at g1 ⊢; simp [g1]; done) | (simp only [nrmT] at *; omega) | (simp at * <;> omega) | (simp_all <;> omega) | (simp_all; done)
      · intro b2
        have e := rising_step h1 b2
        exact (allTo_falseI h1 (by omega) e).symm
      · intro b3
        refine ⟨?_, ?_⟩
        · first | omega | rfl | (intro hg; simp only [nrmT] at hg; omega) | (intro g1 g2; simp [g1, g2]; done) | (intro g1; simp at g1 ⊢; simp [g1]; done) | (simp only [nrmT] at *; omega) | (simp at * <;> omega) | (simp_all <;> omega) | (simp_all; done)
        · refine ⟨(i + 1), ?_⟩
          refine ⟨?_, ?_, rfl, rfl, rfl, rfl, rfl⟩
          · refine ⟨?_, ?_, ?_⟩
            · first | omega | rfl | (intro hg; simp only [nrmT] at hg; omega) | (intro g1 g2; simp [g1, g2]; done) | (intro g1; simp at g1 ⊢; simp [g1]; done) | (simp only [nrmT] at *; omega) | (simp at * <;> omega) | (simp_all <;> omega) | (simp_all; done)
            · first | omega | rfl | (intro hg; simp only [nrmT] at hg; omega) | (intro g1 g2; simp [g1, g2]; done) | (intro g1; simp at g1 ⊢; simp [g1]; done) | (simp only [nrmT] at *; omega) | (simp at * <;> omega) | (simp_all <;> omega) | (simp_all; done)
            · have e := rising_step h1 b3
              exact allTo_step h1 h3 e
          · first | (show _ < _; omega) | (simp only [i_isRising_mJ0]; omega) | (simp only [i_isRising_mJ0] at *; simp at *; omega)
    · intro b4
      try simp only [nrmT] at b4
      have e : i.toNat = xs.length := by omega
      rw [e] at h3
      exact h3.symm
theorem i_isRising_pc (xs : List Int) (below : Int) (hb : -9223372036854775808 < below ∧ below ≤ 9223372036854775807) : PC Try.prog 90 [.sl (.ints xs), .int .i64 below] (.one (.d (.bool (rising xs 0 (below - 1))))) :=
  pc_wf @Try.call90 fun hw => pc_by (by kernel_rfl) Try.func90 @Try.call90 (by kernel_rfl) i_isRising_C (i_isRising_A xs below) (by kernel_rfl) (i_isRising_vc xs below hb hw.1) (by kernel_rfl)
def i_isRising_orc : List D → Orc := orcN [some .ints, none] fun ds => match ds with
  | [.sl (.ints xs), .int .i64 below] => some (.one (.d (.bool (rising xs 0 (below - 1)))))
  | _ => none

theorem len_beq (m n : Nat) : ((m : Int) == (n : Int)) = decide (m = n) := by
  rw [Bool.eq_iff_iff]; simp only [beq_iff_eq, decide_eq_true_eq]; omega
theorem len_le (m n : Nat) : decide ((m : Int) ≤ (n : Int)) = decide (m ≤ n) := by
  rw [Bool.eq_iff_iff]; simp only [decide_eq_true_eq]; omega
theorem all_end {α : Type} {p : α → Bool} {d : α} {xs : List α} {i : Int} (h2 : (xs.length : Int) ≤ i) (h2' : i ≤ (xs.length : Int)) (h3 : allTo (fun k => p (xs.getD k d)) i.toNat = true) : xs.all p = true := by
  have e : i.toNat = xs.length := by omega
  rw [e, allTo_list] at h3; exact h3
theorem all_no {α : Type} {p : α → Bool} {d : α} {xs : List α} {i : Int} (h0 : 0 ≤ i) (h : i < (xs.length : Int)) (h3 : p (xs.getD i.toNat d) = false) : xs.all p = false := by
  rw [← allTo_list (d := d)]; exact allTo_falseI h0 h h3

abbrev s_l6Sets_JJ0 (size : Int) (xss : List (List Int)) (i : Int) : Prop := (0 ≤ i) ∧ (i ≤ (xss.length : Int)) ∧ (allTo (fun k => rising (xss.getD k []) 0 (size - 1)) i.toNat = true)
abbrev s_l6Sets_mJ0 (size : Int) (xss : List (List Int)) (i : Int) : Nat := (xss.length - i).toNat
def s_l6Sets_C (f : FuncId) (ds : List D) : Orc := bif Nat.beq f 119 then s_l1Rising_orc ds else .no
def s_l6Sets_A (size : Int) (xss : List (List Int)) : Ann := .two (.none) (.two (.two (.none) (.loop (cut1 (fun (i : Int) => s_l6Sets_JJ0 size xss i) (fun (i : Int) => [(0, .d false (.int .i64 size)), (1, .d false (.sl (.rows xss))), (5, .d true (.int .i64 i))]) (fun (i : Int) => [])) (fun g => s_l6Sets_mJ0 size xss g) (fun _ => .none))) (.none))
def s_l6Sets_P (size : Int) (xss : List (List Int)) : Prop :=
  ((∃ i' : Int, (s_l6Sets_JJ0 size xss i') ∧ (size = size) ∧ (xss = xss) ∧ ((0 : Int) = i')) ∧ (∀ i : Int, (s_l6Sets_JJ0 size xss i) → (((decide (i < (xss.length : Int))) = true → ((0 : Int) ≤ i) ∧ ((i : Int) < xss.length) ∧ (i.toNat < xss.length) ∧ (-9223372036854775808 ≤ (size - 1) ∧ (size - 1) ≤ 9223372036854775807) ∧ (PC Try.prog 119 [.sl (.ints (xss.getD i.toNat [])), .int .i64 0, .int .i64 (size - 1)] (.one (.d (.bool (rising (xss.getD i.toNat []) 0 (size - 1)))))) ∧ (((!(rising (xss.getD i.toNat []) 0 (size - 1))) = true → ((false = (xss.all (fun xs => rising xs 0 (size - 1)) && decide (xss.length ≤ 8))))) ∧ ((!(rising (xss.getD i.toNat []) 0 (size - 1))) = false → (-9223372036854775808 ≤ (i + 1) ∧ (i + 1) ≤ 9223372036854775807) ∧ (∃ i' : Int, (s_l6Sets_JJ0 size xss i') ∧ (s_l6Sets_mJ0 size xss i' < s_l6Sets_mJ0 size xss i) ∧ (size = size) ∧ (xss = xss) ∧ ((i + 1) = i'))))) ∧ ((decide (i < (xss.length : Int))) = false → (((decide ((xss.length : Int) ≤ 8)) = (xss.all (fun xs => rising xs 0 (size - 1)) && decide (xss.length ≤ 8))))))))
theorem s_l6Sets_vc (size : Int) (xss : List (List Int)) (hb : 0 ≤ size ∧ size ≤ 8) (w_xss : (xss.length : Int) ≤ 9223372036854775807) (v_xss : ∀ x9 ∈ xss, (x9.length : Int) ≤ 9223372036854775807) : s_l6Sets_P size xss := by
  unfold s_l6Sets_P
  refine ⟨?_, ?_⟩
  · refine ⟨0, ?_⟩
    refine ⟨?_, rfl, rfl, rfl⟩
    · refine ⟨?_, ?_, ?_⟩
      · first | omega | rfl | (intro hg; simp only [nrmT] at hg; omega) | (intro g1 g2; simp [g1, g2]; done) | (intro g1; simp at g1 ⊢; simp [g1]; done) | (simp only [nrmT] at *; omega) | (simp at * <;> omega) | (simp_all <;> omega) | (simp_all; done)
      · first | omega | rfl | (intro hg; simp only [nrmT] at hg; omega) | (intro g1 g2; simp [g1, g2]; done) | (intro g1; simp at g1 ⊢; simp [g1]; done) | (simp only [nrmT] at *; omega) | (simp at * <;> omega) | (simp_all <;> omega) | (simp_all; done)
      · first | omega | rfl | (intro hg; simp only [nrmT] at hg; omega) | (intro g1 g2; simp [g1, g2]; done) | (intro g1; simp at g1 ⊢; simp [g1]; done) | (simp only [nrmT] at *; omega) | (simp at * <;> omega) | (simp_all <;> omega) | (simp_all; done)
  · intro i hJ
    obtain ⟨h1, h2, h3⟩ := hJ
    refine ⟨?_, ?_⟩
    · intro b1
      try simp only [nrmT] at b1
      refine ⟨?_, ?_, ?_, ?_, s_l1Rising_pc (xss.getD i.toNat []) 0 (size - 1), ?_, ?_⟩
      · first | omega | rfl | (intro hg; simp only [nrmT] at hg; omega) | (intro g1 g2; simp [g1, g2]; done) | (intro g1; simp at g1 ⊢; simp [g1]; done) | (simp only [nrmT] at *; omega) | (simp at * <;> omega) | (simp_all <;> omega) | (simp_all; done)
      · first | omega | rfl | (intro hg; simp only [nrmT] at hg; omega) | (intro g1 g2; simp [g1, g2]; done) | (intro g1; simp at g1 ⊢; simp [g1]; done) | (simp only [nrmT] at *; omega) | (simp at * <;> omega) | (simp_all <;> omega) | (simp_all; done)
      · first | omega | rfl | (intro hg; simp only [nrmT] at hg; omega) | (intro g1 g2; simp [g1, g2]; done) | (intro g1; simp at g1 ⊢; simp [g1]; done) | (simp only [nrmT] at *; omega) | (simp at * <;> omega) | (simp_all <;> omega) | (simp_all; done)
      · first | omega | rfl | (intro hg; simp only [nrmT] at hg; omega) | (intro g1 g2; simp [g1, g2]; done) | (intro g1; simp at g1 ⊢; simp [g1]; done) | (simp only [nrmT] at *; omega) | (simp at * <;> omega) | (simp_all <;> omega) | (simp_all; done)
      · intro b2
        try simp only [nrmT] at b2
        rw [all_no (d := []) h1 (by omega) b2]; rfl
      · intro b3
        try simp only [nrmT] at b3
        refine ⟨?_, ?_⟩
        · first | omega | rfl | (intro hg; simp only [nrmT] at hg; omega) | (intro g1 g2; simp [g1, g2]; done) | (intro g1; simp at g1 ⊢; simp [g1]; done) | (simp only [nrmT] at *; omega) | (simp at * <;> omega) | (simp_all <;> omega) | (simp_all; done)
        · refine ⟨(i + 1), ?_⟩
          refine ⟨?_, ?_, rfl, rfl, rfl⟩
          · refine ⟨?_, ?_, ?_⟩
            · first | omega | rfl | (intro hg; simp only [nrmT] at hg; omega) | (intro g1 g2; simp [g1, g2]; done) | (intro g1; simp at g1 ⊢; simp [g1]; done) | (simp only [nrmT] at *; omega) | (simp at * <;> omega) | (simp_all <;> omega) | (simp_all; done)
            · first | omega | rfl | (intro hg; simp only [nrmT] at hg; omega) | (intro g1 g2; simp [g1, g2]; done) | (intro g1; simp at g1 ⊢; simp [g1]; done) | (simp only [nrmT] at *; omega) | (simp at * <;> omega) | (simp_all <;> omega) | (simp_all; done)
            · exact allTo_step h1 h3 b3
          · first | (show _ < _; omega) | (simp only [s_l6Sets_mJ0]; omega) | (simp only [s_l6Sets_mJ0] at *; simp at *; omega)
    · intro b4
      try simp only [nrmT] at b4
      rw [all_end (p := fun xs => rising xs 0 (size - 1)) (d := []) (by omega) h2 h3, Bool.true_and]; exact len_le _ 8
theorem s_l6Sets_pc (size : Int) (xss : List (List Int)) (hb : 0 ≤ size ∧ size ≤ 8) : PC Try.prog 146 [.int .i64 size, .sl (.rows xss)] (.one (.d (.bool (xss.all (fun xs => rising xs 0 (size - 1)) && decide (xss.length ≤ 8))))) :=
  pc_wf @Try.call146 fun hw => pc_by (by kernel_rfl) Try.func146 @Try.call146 (by kernel_rfl) s_l6Sets_C (s_l6Sets_A size xss) (by kernel_rfl) (s_l6Sets_vc size xss hb hw.2.1.1 hw.2.1.2) (by kernel_rfl)
def s_l6Sets_orc : List D → Orc := orcN [none, some .rows] fun ds => match ds with
  | [.int .i64 size, .sl (.rows xss)] => some (.one (.d (.bool (xss.all (fun xs => rising xs 0 (size - 1)) && decide (xss.length ≤ 8)))))
  | _ => none

def goodSys (size : Int) (sets : List (List Int)) (costs : List Int) : Bool :=
  inB size 0 8 && decide (sets.length ≤ 8) && decide (costs.length = sets.length) && costs.all (fun x => inB x 1 99) && sets.all (fun xs => rising xs 0 (size - 1))
theorem inB_le {x lo hi : Int} (h : inB x lo hi = true) : lo ≤ x ∧ x ≤ hi := of_decide_eq_true h

abbrev s_l6Good_JJ0 (Size : Int) (Sets : List (List Int)) (Costs : List Int) (i : Int) : Prop := (0 ≤ i) ∧ (i ≤ (Costs.length : Int)) ∧ (allTo (fun k => inB (Costs.getD k 0) 1 99) i.toNat = true)
abbrev s_l6Good_mJ0 (Size : Int) (Sets : List (List Int)) (Costs : List Int) (i : Int) : Nat := (Costs.length - i).toNat
def s_l6Good_C (f : FuncId) (ds : List D) : Orc := bif Nat.beq f 81 then s_l1In_orc ds else bif Nat.beq f 146 then s_l6Sets_orc ds else .no
def s_l6Good_A (Size : Int) (Sets : List (List Int)) (Costs : List Int) : Ann := .two (.none) (.two (.two (.none) (.loop (cut1 (fun (i : Int) => s_l6Good_JJ0 Size Sets Costs i) (fun (i : Int) => [(1, .ptr 1 0), (3, .d true (.int .i64 i))]) (fun (i : Int) => [(1, .box 31 [.d false (.int .i64 Size), .d false (.sl (.rows Sets)), .d false (.sl (.ints Costs))])])) (fun g => s_l6Good_mJ0 Size Sets Costs g) (fun _ => .none))) (.none))
def s_l6Good_P (Size : Int) (Sets : List (List Int)) (Costs : List Int) : Prop :=
  ((∃ i' : Int, (s_l6Good_JJ0 Size Sets Costs i') ∧ ((0 : Int) = i') ∧ (Size = Size) ∧ (Sets = Sets) ∧ (Costs = Costs)) ∧ (∀ i : Int, (s_l6Good_JJ0 Size Sets Costs i) → (((decide (i < (Costs.length : Int))) = true → ((0 : Int) ≤ i) ∧ ((i : Int) < Costs.length) ∧ (i.toNat < Costs.length) ∧ (PC Try.prog 81 [.int .i64 (Costs.getD i.toNat 0), .int .i64 1, .int .i64 99] (.one (.d (.bool (inB (Costs.getD i.toNat 0) 1 99))))) ∧ (((!(inB (Costs.getD i.toNat 0) 1 99)) = true → ((false = (goodSys Size Sets Costs)))) ∧ ((!(inB (Costs.getD i.toNat 0) 1 99)) = false → (-9223372036854775808 ≤ (i + 1) ∧ (i + 1) ≤ 9223372036854775807) ∧ (∃ i' : Int, (s_l6Good_JJ0 Size Sets Costs i') ∧ (s_l6Good_mJ0 Size Sets Costs i' < s_l6Good_mJ0 Size Sets Costs i) ∧ ((i + 1) = i') ∧ (Size = Size) ∧ (Sets = Sets) ∧ (Costs = Costs))))) ∧ ((decide (i < (Costs.length : Int))) = false → (PC Try.prog 81 [.int .i64 Size, .int .i64 0, .int .i64 8] (.one (.d (.bool (inB Size 0 8))))) ∧ ((inB Size 0 8) = true → (inB Size 0 8) = true) ∧ ((inB Size 0 8) = true → (inB Size 0 8) = true) ∧ ((inB Size 0 8) = true → (inB Size 0 8) = true) ∧ ((inB Size 0 8) = true → (inB Size 0 8) = true) ∧ ((inB Size 0 8) = true → PC Try.prog 146 [.int .i64 Size, .sl (.rows Sets)] (.one (.d (.bool (Sets.all (fun xs => rising xs 0 (Size - 1)) && decide (Sets.length ≤ 8)))))) ∧ (true = true) ∧ (((inB Size 0 8) = true → (inB Size 0 8) = true)) ∧ (((inB Size 0 8) = false → true = true)) ∧ ((cond (inB Size 0 8) (Sets.all (fun xs => rising xs 0 (Size - 1)) && decide (Sets.length ≤ 8)) false) = true → (cond (inB Size 0 8) (Sets.all (fun xs => rising xs 0 (Size - 1)) && decide (Sets.length ≤ 8)) false) = true) ∧ ((cond (inB Size 0 8) (Sets.all (fun xs => rising xs 0 (Size - 1)) && decide (Sets.length ≤ 8)) false) = true → (cond (inB Size 0 8) (Sets.all (fun xs => rising xs 0 (Size - 1)) && decide (Sets.length ≤ 8)) false) = true) ∧ ((cond (inB Size 0 8) (Sets.all (fun xs => rising xs 0 (Size - 1)) && decide (Sets.length ≤ 8)) false) = true → (cond (inB Size 0 8) (Sets.all (fun xs => rising xs 0 (Size - 1)) && decide (Sets.length ≤ 8)) false) = true) ∧ ((cond (inB Size 0 8) (Sets.all (fun xs => rising xs 0 (Size - 1)) && decide (Sets.length ≤ 8)) false) = true → (cond (inB Size 0 8) (Sets.all (fun xs => rising xs 0 (Size - 1)) && decide (Sets.length ≤ 8)) false) = true) ∧ ((cond (inB Size 0 8) (Sets.all (fun xs => rising xs 0 (Size - 1)) && decide (Sets.length ≤ 8)) false) = true → (cond (inB Size 0 8) (Sets.all (fun xs => rising xs 0 (Size - 1)) && decide (Sets.length ≤ 8)) false) = true) ∧ ((cond (inB Size 0 8) (Sets.all (fun xs => rising xs 0 (Size - 1)) && decide (Sets.length ≤ 8)) false) = true → (cond (inB Size 0 8) (Sets.all (fun xs => rising xs 0 (Size - 1)) && decide (Sets.length ≤ 8)) false) = true) ∧ (true = true) ∧ (((cond (inB Size 0 8) (Sets.all (fun xs => rising xs 0 (Size - 1)) && decide (Sets.length ≤ 8)) false) = true → (cond (inB Size 0 8) (Sets.all (fun xs => rising xs 0 (Size - 1)) && decide (Sets.length ≤ 8)) false) = true)) ∧ (((cond (inB Size 0 8) (Sets.all (fun xs => rising xs 0 (Size - 1)) && decide (Sets.length ≤ 8)) false) = false → true = true)) ∧ (((cond (cond (inB Size 0 8) (Sets.all (fun xs => rising xs 0 (Size - 1)) && decide (Sets.length ≤ 8)) false) ((Costs.length : Int) == (Sets.length : Int)) false) = (goodSys Size Sets Costs)))))))
theorem s_l6Good_vc (Size : Int) (Sets : List (List Int)) (Costs : List Int)  (w_Sets : (Sets.length : Int) ≤ 9223372036854775807) (v_Sets : ∀ x9 ∈ Sets, (x9.length : Int) ≤ 9223372036854775807) (w_Costs : (Costs.length : Int) ≤ 9223372036854775807) : s_l6Good_P Size Sets Costs := by
  unfold s_l6Good_P
  refine ⟨?_, ?_⟩
  · refine ⟨0, ?_⟩
    refine ⟨?_, rfl, rfl, rfl, rfl⟩
    · refine ⟨?_, ?_, ?_⟩
      · first | omega | rfl | (intro hg; simp only [nrmT] at hg; omega) | (intro g1 g2; simp [g1, g2]; done) | (intro g1; simp at g1 ⊢; simp [g1]; done) | (simp only [nrmT] at *; omega) | (simp at * <;> omega) | (simp_all <;> omega) | (simp_all; done)
      · first | omega | rfl | (intro hg; simp only [nrmT] at hg; omega) | (intro g1 g2; simp [g1, g2]; done) | (intro g1; simp at g1 ⊢; simp [g1]; done) | (simp only [nrmT] at *; omega) | (simp at * <;> omega) | (simp_all <;> omega) | (simp_all; done)
      · first | omega | rfl | (intro hg; simp only [nrmT] at hg; omega) | (intro g1 g2; simp [g1, g2]; done) | (intro g1; simp at g1 ⊢; simp [g1]; done) | (simp only [nrmT] at *; omega) | (simp at * <;> omega) | (simp_all <;> omega) | (simp_all; done)
  · intro i hJ
    obtain ⟨h1, h2, h3⟩ := hJ
    refine ⟨?_, ?_⟩
    · intro b1
      try simp only [nrmT] at b1
      refine ⟨?_, ?_, ?_, s_l1In_pc (Costs.getD i.toNat 0) 1 99, ?_, ?_⟩
      · first | omega | rfl | (intro hg; simp only [nrmT] at hg; omega) | (intro g1 g2; simp [g1, g2]; done) | (intro g1; simp at g1 ⊢; simp [g1]; done) | (simp only [nrmT] at *; omega) | (simp at * <;> omega) | (simp_all <;> omega) | (simp_all; done)
      · first | omega | rfl | (intro hg; simp only [nrmT] at hg; omega) | (intro g1 g2; simp [g1, g2]; done) | (intro g1; simp at g1 ⊢; simp [g1]; done) | (simp only [nrmT] at *; omega) | (simp at * <;> omega) | (simp_all <;> omega) | (simp_all; done)
      · first | omega | rfl | (intro hg; simp only [nrmT] at hg; omega) | (intro g1 g2; simp [g1, g2]; done) | (intro g1; simp at g1 ⊢; simp [g1]; done) | (simp only [nrmT] at *; omega) | (simp at * <;> omega) | (simp_all <;> omega) | (simp_all; done)
      · intro b2
        try simp only [nrmT] at b2
        unfold goodSys
        rw [all_no (p := fun x => inB x 1 99) (d := 0) h1 (by omega) b2]
        simp
      · intro b3
        try simp only [nrmT] at b3
        refine ⟨?_, ?_⟩
        · first | omega | rfl | (intro hg; simp only [nrmT] at hg; omega) | (intro g1 g2; simp [g1, g2]; done) | (intro g1; simp at g1 ⊢; simp [g1]; done) | (simp only [nrmT] at *; omega) | (simp at * <;> omega) | (simp_all <;> omega) | (simp_all; done)
        · refine ⟨(i + 1), ?_⟩
          refine ⟨?_, ?_, rfl, rfl, rfl, rfl⟩
          · refine ⟨?_, ?_, ?_⟩
            · first | omega | rfl | (intro hg; simp only [nrmT] at hg; omega) | (intro g1 g2; simp [g1, g2]; done) | (intro g1; simp at g1 ⊢; simp [g1]; done) | (simp only [nrmT] at *; omega) | (simp at * <;> omega) | (simp_all <;> omega) | (simp_all; done)
            · first | omega | rfl | (intro hg; simp only [nrmT] at hg; omega) | (intro g1 g2; simp [g1, g2]; done) | (intro g1; simp at g1 ⊢; simp [g1]; done) | (simp only [nrmT] at *; omega) | (simp at * <;> omega) | (simp_all <;> omega) | (simp_all; done)
            · exact allTo_step h1 h3 b3
          · first | (show _ < _; omega) | (simp only [s_l6Good_mJ0]; omega) | (simp only [s_l6Good_mJ0] at *; simp at *; omega)
    · intro b4
      try simp only [nrmT] at b4
      refine ⟨s_l1In_pc Size 0 8, id, id, id, id, ?_, rfl, id, fun _ => rfl, id, id, id, id, id, id, rfl, id, fun _ => rfl, ?_⟩
      · intro hg
        refine s_l6Sets_pc Size Sets ?_
        · exact inB_le hg
      · unfold goodSys
        rw [all_end (p := fun x => inB x 1 99) (d := 0) (by omega) h2 h3, len_beq]
        cases inB Size 0 8 <;> cases decide (Sets.length ≤ 8) <;> cases Sets.all (fun xs => rising xs 0 (Size - 1)) <;> cases decide (Costs.length = Sets.length) <;> rfl
theorem s_l6Good_pc (Size : Int) (Sets : List (List Int)) (Costs : List Int)  : PC Try.prog 85 [.agg [.int .i64 Size, .sl (.rows Sets), .sl (.ints Costs)]] (.one (.d (.bool (goodSys Size Sets Costs)))) :=
  pc_wf @Try.call85 fun hw => pc_by (by kernel_rfl) Try.func85 @Try.call85 (by kernel_rfl) s_l6Good_C (s_l6Good_A Size Sets Costs) (by kernel_rfl) (s_l6Good_vc Size Sets Costs hw.1.2.1.1 hw.1.2.1.2 hw.1.2.2.1) (by kernel_rfl)
def s_l6Good_orc : List D → Orc := orcN [none] fun ds => match ds with
  | [.agg [.int .i64 Size, .sl (.rows Sets), .sl (.ints Costs)]] => some (.one (.d (.bool (goodSys Size Sets Costs))))
  | _ => none

def s_IsSystem_C (f : FuncId) (ds : List D) : Orc := bif Nat.beq f 85 then s_l6Good_orc ds else .no
def s_IsSystem_A (Size : Int) (Sets : List (List Int)) (Costs : List Int) : Ann := .none
def s_IsSystem_P (Size : Int) (Sets : List (List Int)) (Costs : List Int) : Prop :=
  (PC Try.prog 85 [.agg [.int .i64 Size, .sl (.rows Sets), .sl (.ints Costs)]] (.one (.d (.bool (goodSys Size Sets Costs))))) ∧ (((goodSys Size Sets Costs) = (goodSys Size Sets Costs)))
theorem s_IsSystem_vc (Size : Int) (Sets : List (List Int)) (Costs : List Int)  (w_Sets : (Sets.length : Int) ≤ 9223372036854775807) (v_Sets : ∀ x9 ∈ Sets, (x9.length : Int) ≤ 9223372036854775807) (w_Costs : (Costs.length : Int) ≤ 9223372036854775807) : s_IsSystem_P Size Sets Costs := by
  unfold s_IsSystem_P
  refine ⟨s_l6Good_pc Size Sets Costs, rfl⟩
theorem s_IsSystem_pc (Size : Int) (Sets : List (List Int)) (Costs : List Int)  : PC Try.prog 26 [.agg [.int .i64 Size, .sl (.rows Sets), .sl (.ints Costs)]] (.one (.d (.bool (goodSys Size Sets Costs)))) :=
  pc_wf @Try.call26 fun hw => pc_by (by kernel_rfl) Try.func26 @Try.call26 (by kernel_rfl) s_IsSystem_C (s_IsSystem_A Size Sets Costs) (by kernel_rfl) (s_IsSystem_vc Size Sets Costs hw.1.2.1.1 hw.1.2.1.2 hw.1.2.2.1) (by kernel_rfl)
def s_IsSystem_orc : List D → Orc := orcN [none] fun ds => match ds with
  | [.agg [.int .i64 Size, .sl (.rows Sets), .sl (.ints Costs)]] => some (.one (.d (.bool (goodSys Size Sets Costs))))
  | _ => none

def i_areBetween_1_C (f : FuncId) (ds : List D) : Orc := bif Nat.beq f 82 then i_between_orc ds else .no
def i_areBetween_1_A (x : Int) (lo : Int) (hi : Int) : Ann := .none
def i_areBetween_1_P (x : Int) (lo : Int) (hi : Int) : Prop :=
  (PC Try.prog 82 [.int .i64 x, .int .i64 lo, .int .i64 hi] (.one (.d (.bool (inB x lo hi))))) ∧ (((!(inB x lo hi)) = (!(inB x lo hi))))
theorem i_areBetween_1_vc (x : Int) (lo : Int) (hi : Int)   : i_areBetween_1_P x lo hi := by
  unfold i_areBetween_1_P
  refine ⟨i_between_pc x lo hi, rfl⟩
theorem i_areBetween_1_pc (x : Int) (lo : Int) (hi : Int)  : PC Try.prog 147 [.int .i64 x, .bx [.int .i64 lo] 0, .bx [.int .i64 hi] 0] (.one (.d (.bool (!(inB x lo hi))))) :=
  pc_wf @Try.call147 fun _ => pc_by (by kernel_rfl) Try.func147 @Try.call147 (by kernel_rfl) i_areBetween_1_C (i_areBetween_1_A x lo hi) (by kernel_rfl) (i_areBetween_1_vc x lo hi) (by kernel_rfl)
def i_areBetween_1_orc : List D → Orc := orcN [none, none, none] fun ds => match ds with
  | [.int .i64 x, .bx [.int .i64 lo] 0, .bx [.int .i64 hi] 0] => some (.one (.d (.bool (!(inB x lo hi)))))
  | _ => none

abbrev slices_IndexFunc_int_int_aB_JJ0 (xs : List Int) (lo : Int) (hi : Int) (i : Int) : Prop := (0 ≤ i) ∧ (i ≤ (xs.length : Int)) ∧ (∀ k, k < i.toNat → (fun x => !(inB x lo hi)) (xs.getD k 0) = false)
abbrev slices_IndexFunc_int_int_aB_mJ0 (xs : List Int) (lo : Int) (hi : Int) (i : Int) : Nat := (xs.length - i).toNat
def slices_IndexFunc_int_int_aB_C (f : FuncId) (ds : List D) : Orc := bif Nat.beq f 147 then i_areBetween_1_orc ds else .no
def slices_IndexFunc_int_int_aB_A (xs : List Int) (lo : Int) (hi : Int) : Ann := .two (.none) (.two (.two (.none) (.loop (cut1 (fun (i : Int) => slices_IndexFunc_int_int_aB_JJ0 xs lo hi i) (fun (i : Int) => [(0, .d false (.sl (.ints xs))), (1, .d false (.fn 147 [.bx [.int .i64 lo] 0, .bx [.int .i64 hi] 0])), (7, .d true (.int .i64 (xs.length : Int))), (8, .d true (.int .i64 i))]) (fun (i : Int) => [])) (fun g => slices_IndexFunc_int_int_aB_mJ0 xs lo hi g) (fun _ => .none))) (.none))
def slices_IndexFunc_int_int_aB_P (xs : List Int) (lo : Int) (hi : Int) : Prop :=
  ((∃ i' : Int, (slices_IndexFunc_int_int_aB_JJ0 xs lo hi i') ∧ (xs = xs) ∧ ((.fn 147 [.bx [.int .i64 lo] 0, .bx [.int .i64 hi] 0] : D) = (.fn 147 [.bx [.int .i64 lo] 0, .bx [.int .i64 hi] 0] : D)) ∧ ((xs.length : Int) = (xs.length : Int)) ∧ ((0 : Int) = i')) ∧ (∀ i : Int, (slices_IndexFunc_int_int_aB_JJ0 xs lo hi i) → (((decide (i < (xs.length : Int))) = true → ((0 : Int) ≤ i) ∧ ((i : Int) < xs.length) ∧ (i.toNat < xs.length) ∧ (PC Try.prog 147 [.int .i64 (xs.getD i.toNat 0), .bx [.int .i64 lo] 0, .bx [.int .i64 hi] 0] (.one (.d (.bool (!(inB (xs.getD i.toNat 0) lo hi)))))) ∧ (((!(inB (xs.getD i.toNat 0) lo hi)) = true → ((i = (idxI (fun x => !(inB x lo hi)) xs)))) ∧ ((!(inB (xs.getD i.toNat 0) lo hi)) = false → (-9223372036854775808 ≤ (i + 1) ∧ (i + 1) ≤ 9223372036854775807) ∧ (∃ i' : Int, (slices_IndexFunc_int_int_aB_JJ0 xs lo hi i') ∧ (slices_IndexFunc_int_int_aB_mJ0 xs lo hi i' < slices_IndexFunc_int_int_aB_mJ0 xs lo hi i) ∧ (xs = xs) ∧ ((.fn 147 [.bx [.int .i64 lo] 0, .bx [.int .i64 hi] 0] : D) = (.fn 147 [.bx [.int .i64 lo] 0, .bx [.int .i64 hi] 0] : D)) ∧ ((xs.length : Int) = (xs.length : Int)) ∧ ((i + 1) = i'))))) ∧ ((decide (i < (xs.length : Int))) = false → ((((-1) : Int) = (idxI (fun x => !(inB x lo hi)) xs)))))))
theorem slices_IndexFunc_int_int_aB_vc (xs : List Int) (lo : Int) (hi : Int)  (w_xs : (xs.length : Int) ≤ 9223372036854775807) : slices_IndexFunc_int_int_aB_P xs lo hi := by
  unfold slices_IndexFunc_int_int_aB_P
  refine ⟨?_, ?_⟩
  · refine ⟨0, ?_⟩
    refine ⟨?_, rfl, rfl, rfl, rfl⟩
    · refine ⟨?_, ?_, ?_⟩
      · first | omega | rfl | (intro hg; simp only [nrmT] at hg; omega) | (intro g1 g2; simp [g1, g2]; done) | (intro g1; simp at g1 ⊢; simp [g1]; done) | (simp only [nrmT] at *; omega) | (simp at * <;> omega) | (simp_all <;> omega) | (simp_all; done)
      · first | omega | rfl | (intro hg; simp only [nrmT] at hg; omega) | (intro g1 g2; simp [g1, g2]; done) | (intro g1; simp at g1 ⊢; simp [g1]; done) | (simp only [nrmT] at *; omega) | (simp at * <;> omega) | (simp_all <;> omega) | (simp_all; done)
      · first | omega | rfl | (intro hg; simp only [nrmT] at hg; omega) | (intro g1 g2; simp [g1, g2]; done) | (intro g1; simp at g1 ⊢; simp [g1]; done) | (simp only [nrmT] at *; omega) | (simp at * <;> omega) | (simp_all <;> omega) | (simp_all; done)
  · intro i hJ
    obtain ⟨h1, h2, h3⟩ := hJ
    refine ⟨?_, ?_⟩
    · intro b1
      try simp only [nrmT] at b1
      refine ⟨?_, ?_, ?_, i_areBetween_1_pc (xs.getD i.toNat 0) lo hi, ?_, ?_⟩
      · first | omega | rfl | (intro hg; simp only [nrmT] at hg; omega) | (intro g1 g2; simp [g1, g2]; done) | (intro g1; simp at g1 ⊢; simp [g1]; done) | (simp only [nrmT] at *; omega) | (simp at * <;> omega) | (simp_all <;> omega) | (simp_all; done)
      · first | omega | rfl | (intro hg; simp only [nrmT] at hg; omega) | (intro g1 g2; simp [g1, g2]; done) | (intro g1; simp at g1 ⊢; simp [g1]; done) | (simp only [nrmT] at *; omega) | (simp at * <;> omega) | (simp_all <;> omega) | (simp_all; done)
      · first | omega | rfl | (intro hg; simp only [nrmT] at hg; omega) | (intro g1 g2; simp [g1, g2]; done) | (intro g1; simp at g1 ⊢; simp [g1]; done) | (simp only [nrmT] at *; omega) | (simp at * <;> omega) | (simp_all <;> omega) | (simp_all; done)
      · intro b2
        try simp only [nrmT] at b2
        exact idx_found (p := fun x => !(inB x lo hi)) h1 b1 h3 (by simpa using b2)
      · intro b3
        try simp only [nrmT] at b3
        refine ⟨?_, ?_⟩
        · first | omega | rfl | (intro hg; simp only [nrmT] at hg; omega) | (intro g1 g2; simp [g1, g2]; done) | (intro g1; simp at g1 ⊢; simp [g1]; done) | (simp only [nrmT] at *; omega) | (simp at * <;> omega) | (simp_all <;> omega) | (simp_all; done)
        · refine ⟨(i + 1), ?_⟩
          refine ⟨?_, ?_, rfl, rfl, rfl, rfl⟩
          · refine ⟨?_, ?_, ?_⟩
            · first | omega | rfl | (intro hg; simp only [nrmT] at hg; omega) | (intro g1 g2; simp [g1, g2]; done) | (intro g1; simp at g1 ⊢; simp [g1]; done) | (simp only [nrmT] at *; omega) | (simp at * <;> omega) | (simp_all <;> omega) | (simp_all; done)
            · first | omega | rfl | (intro hg; simp only [nrmT] at hg; omega) | (intro g1 g2; simp [g1, g2]; done) | (intro g1; simp at g1 ⊢; simp [g1]; done) | (simp only [nrmT] at *; omega) | (simp at * <;> omega) | (simp_all <;> omega) | (simp_all; done)
            · exact idx_step (p := fun x => !(inB x lo hi)) h1 h3 (by simpa using b3)
          · first | (show _ < _; omega) | (simp only [slices_IndexFunc_int_int_aB_mJ0]; omega) | (simp only [slices_IndexFunc_int_int_aB_mJ0] at *; simp at *; omega)
    · intro b4
      try simp only [nrmT] at b4
      exact (idx_none (by omega) h3).symm
theorem slices_IndexFunc_int_int_aB_pc (xs : List Int) (lo : Int) (hi : Int)  : PC Try.prog 160 [.sl (.ints xs), .fn 147 [.bx [.int .i64 lo] 0, .bx [.int .i64 hi] 0]] (.one (.d (.int .i64 (idxI (fun x => !(inB x lo hi)) xs)))) :=
  pc_wf @Try.call160 fun hw => pc_by (by kernel_rfl) Try.func160 @Try.call160 (by kernel_rfl) slices_IndexFunc_int_int_aB_C (slices_IndexFunc_int_int_aB_A xs lo hi) (by kernel_rfl) (slices_IndexFunc_int_int_aB_vc xs lo hi hw.1) (by kernel_rfl)
def slices_IndexFunc_int_int_aB_orc : List D → Orc := orcN [some .ints, none] fun ds => match ds with
  | [.sl (.ints xs), .fn f0 [.bx [.int .i64 lo] 0, .bx [.int .i64 hi] 0]] => bif Nat.beq f0 147 then some (.one (.d (.int .i64 (idxI (fun x => !(inB x lo hi)) xs)))) else none
  | _ => none

def slices_ContainsFunc_int_int_aB_C (f : FuncId) (ds : List D) : Orc := bif Nat.beq f 160 then slices_IndexFunc_int_int_aB_orc ds else .no
def slices_ContainsFunc_int_int_aB_A (xs : List Int) (lo : Int) (hi : Int) : Ann := .none
def slices_ContainsFunc_int_int_aB_P (xs : List Int) (lo : Int) (hi : Int) : Prop :=
  (PC Try.prog 160 [.sl (.ints xs), .fn 147 [.bx [.int .i64 lo] 0, .bx [.int .i64 hi] 0]] (.one (.d (.int .i64 (idxI (fun x => !(inB x lo hi)) xs))))) ∧ (((decide ((idxI (fun x => !(inB x lo hi)) xs) ≥ 0)) = (xs.any (fun x => !(inB x lo hi)))))
theorem slices_ContainsFunc_int_int_aB_vc (xs : List Int) (lo : Int) (hi : Int)  (w_xs : (xs.length : Int) ≤ 9223372036854775807) : slices_ContainsFunc_int_int_aB_P xs lo hi := by
  unfold slices_ContainsFunc_int_int_aB_P
  refine ⟨slices_IndexFunc_int_int_aB_pc xs lo hi, ?_⟩
  · exact idx_any _ _
theorem slices_ContainsFunc_int_int_aB_pc (xs : List Int) (lo : Int) (hi : Int)  : PC Try.prog 114 [.sl (.ints xs), .fn 147 [.bx [.int .i64 lo] 0, .bx [.int .i64 hi] 0]] (.one (.d (.bool (xs.any (fun x => !(inB x lo hi)))))) :=
  pc_wf @Try.call114 fun hw => pc_by (by kernel_rfl) Try.func114 @Try.call114 (by kernel_rfl) slices_ContainsFunc_int_int_aB_C (slices_ContainsFunc_int_int_aB_A xs lo hi) (by kernel_rfl) (slices_ContainsFunc_int_int_aB_vc xs lo hi hw.1) (by kernel_rfl)
def slices_ContainsFunc_int_int_aB_orc : List D → Orc := orcN [some .ints, none] fun ds => match ds with
  | [.sl (.ints xs), .fn f0 [.bx [.int .i64 lo] 0, .bx [.int .i64 hi] 0]] => bif Nat.beq f0 147 then some (.one (.d (.bool (xs.any (fun x => !(inB x lo hi)))))) else none
  | _ => none

def i_areBetween_C (f : FuncId) (ds : List D) : Orc := bif Nat.beq f 114 then slices_ContainsFunc_int_int_aB_orc ds else .no
def i_areBetween_A (xs : List Int) (lo : Int) (hi : Int) : Ann := .none
def i_areBetween_P (xs : List Int) (lo : Int) (hi : Int) : Prop :=
  (PC Try.prog 114 [.sl (.ints xs), .fn 147 [.bx [.int .i64 lo] 0, .bx [.int .i64 hi] 0]] (.one (.d (.bool (xs.any (fun x => !(inB x lo hi))))))) ∧ (((!(xs.any (fun x => !(inB x lo hi)))) = (xs.all (fun x => inB x lo hi))))
theorem i_areBetween_vc (xs : List Int) (lo : Int) (hi : Int)  (w_xs : (xs.length : Int) ≤ 9223372036854775807) : i_areBetween_P xs lo hi := by
  unfold i_areBetween_P
  refine ⟨slices_ContainsFunc_int_int_aB_pc xs lo hi, ?_⟩
  · exact any_not _ _
theorem i_areBetween_pc (xs : List Int) (lo : Int) (hi : Int)  : PC Try.prog 87 [.sl (.ints xs), .int .i64 lo, .int .i64 hi] (.one (.d (.bool (xs.all (fun x => inB x lo hi))))) :=
  pc_wf @Try.call87 fun hw => pc_by (by kernel_rfl) Try.func87 @Try.call87 (by kernel_rfl) i_areBetween_C (i_areBetween_A xs lo hi) (by kernel_rfl) (i_areBetween_vc xs lo hi hw.1) (by kernel_rfl)
def i_areBetween_orc : List D → Orc := orcN [some .ints, none, none] fun ds => match ds with
  | [.sl (.ints xs), .int .i64 lo, .int .i64 hi] => some (.one (.d (.bool (xs.all (fun x => inB x lo hi)))))
  | _ => none

def i_IsSystem_1_C (f : FuncId) (ds : List D) : Orc := bif Nat.beq f 90 then i_isRising_orc ds else .no
def i_IsSystem_1_A (xs : List Int) (Size : Int) (Sets : List (List Int)) (Costs : List Int) : Ann := .none
def i_IsSystem_1_P (xs : List Int) (Size : Int) (Sets : List (List Int)) (Costs : List Int) : Prop :=
  (PC Try.prog 90 [.sl (.ints xs), .int .i64 Size] (.one (.d (.bool (rising xs 0 (Size - 1)))))) ∧ (((!(rising xs 0 (Size - 1))) = (!(rising xs 0 (Size - 1)))))
theorem i_IsSystem_1_vc (xs : List Int) (Size : Int) (Sets : List (List Int)) (Costs : List Int) (hb : -9223372036854775808 < Size ∧ Size ≤ 9223372036854775807) (w_xs : (xs.length : Int) ≤ 9223372036854775807) (w_Sets : (Sets.length : Int) ≤ 9223372036854775807) (v_Sets : ∀ x9 ∈ Sets, (x9.length : Int) ≤ 9223372036854775807) (w_Costs : (Costs.length : Int) ≤ 9223372036854775807) : i_IsSystem_1_P xs Size Sets Costs := by
  unfold i_IsSystem_1_P
  refine ⟨?_, rfl⟩
  · refine i_isRising_pc xs Size ?_
    · first | omega | rfl | (intro hg; simp only [nrmT] at hg; omega) | (intro g1 g2; simp [g1, g2]; done) | (intro g1; simp at g1 ⊢; simp [g1]; done) | (simp only [nrmT] at *; omega) | (simp at * <;> omega) | (simp_all <;> omega) | (simp_all; done)
theorem i_IsSystem_1_pc (xs : List Int) (Size : Int) (Sets : List (List Int)) (Costs : List Int) (hb : -9223372036854775808 < Size ∧ Size ≤ 9223372036854775807) : PC Try.prog 89 [.sl (.ints xs), .bx [.int .i64 Size, .sl (.rows Sets), .sl (.ints Costs)] 0] (.one (.d (.bool (!(rising xs 0 (Size - 1)))))) :=
  pc_wf @Try.call89 fun hw => pc_by (by kernel_rfl) Try.func89 @Try.call89 (by kernel_rfl) i_IsSystem_1_C (i_IsSystem_1_A xs Size Sets Costs) (by kernel_rfl) (i_IsSystem_1_vc xs Size Sets Costs hb hw.1 hw.2.1.2.1.1 hw.2.1.2.1.2 hw.2.1.2.2.1) (by kernel_rfl)
def i_IsSystem_1_orc : List D → Orc := orcN [some .ints, none] fun ds => match ds with
  | [.sl (.ints xs), .bx [.int .i64 Size, .sl (.rows Sets), .sl (.ints Costs)] 0] => some (.one (.d (.bool (!(rising xs 0 (Size - 1))))))
  | _ => none

abbrev slices_IndexFunc_int_int_iS_JJ0 (xs : List (List Int)) (Size : Int) (Sets : List (List Int)) (Costs : List Int) (i : Int) : Prop := (0 ≤ i) ∧ (i ≤ (xs.length : Int)) ∧ (∀ k, k < i.toNat → (fun x => !(rising x 0 (Size - 1))) (xs.getD k []) = false)
abbrev slices_IndexFunc_int_int_iS_mJ0 (xs : List (List Int)) (Size : Int) (Sets : List (List Int)) (Costs : List Int) (i : Int) : Nat := (xs.length - i).toNat
def slices_IndexFunc_int_int_iS_C (f : FuncId) (ds : List D) : Orc := bif Nat.beq f 89 then i_IsSystem_1_orc ds else .no
def slices_IndexFunc_int_int_iS_A (xs : List (List Int)) (Size : Int) (Sets : List (List Int)) (Costs : List Int) : Ann := .two (.none) (.two (.two (.none) (.loop (cut1 (fun (i : Int) => slices_IndexFunc_int_int_iS_JJ0 xs Size Sets Costs i) (fun (i : Int) => [(0, .d false (.sl (.rows xs))), (1, .d false (.fn 89 [.bx [.int .i64 Size, .sl (.rows Sets), .sl (.ints Costs)] 0])), (7, .d true (.int .i64 (xs.length : Int))), (8, .d true (.int .i64 i))]) (fun (i : Int) => [])) (fun g => slices_IndexFunc_int_int_iS_mJ0 xs Size Sets Costs g) (fun _ => .none))) (.none))
def slices_IndexFunc_int_int_iS_P (xs : List (List Int)) (Size : Int) (Sets : List (List Int)) (Costs : List Int) : Prop :=
  ((∃ i' : Int, (slices_IndexFunc_int_int_iS_JJ0 xs Size Sets Costs i') ∧ (xs = xs) ∧ ((.fn 89 [.bx [.int .i64 Size, .sl (.rows Sets), .sl (.ints Costs)] 0] : D) = (.fn 89 [.bx [.int .i64 Size, .sl (.rows Sets), .sl (.ints Costs)] 0] : D)) ∧ ((xs.length : Int) = (xs.length : Int)) ∧ ((0 : Int) = i')) ∧ (∀ i : Int, (slices_IndexFunc_int_int_iS_JJ0 xs Size Sets Costs i) → (((decide (i < (xs.length : Int))) = true → ((0 : Int) ≤ i) ∧ ((i : Int) < xs.length) ∧ (i.toNat < xs.length) ∧ (PC Try.prog 89 [.sl (.ints (xs.getD i.toNat [])), .bx [.int .i64 Size, .sl (.rows Sets), .sl (.ints Costs)] 0] (.one (.d (.bool (!(rising (xs.getD i.toNat []) 0 (Size - 1))))))) ∧ (((!(rising (xs.getD i.toNat []) 0 (Size - 1))) = true → ((i = (idxI (fun x => !(rising x 0 (Size - 1))) xs)))) ∧ ((!(rising (xs.getD i.toNat []) 0 (Size - 1))) = false → (-9223372036854775808 ≤ (i + 1) ∧ (i + 1) ≤ 9223372036854775807) ∧ (∃ i' : Int, (slices_IndexFunc_int_int_iS_JJ0 xs Size Sets Costs i') ∧ (slices_IndexFunc_int_int_iS_mJ0 xs Size Sets Costs i' < slices_IndexFunc_int_int_iS_mJ0 xs Size Sets Costs i) ∧ (xs = xs) ∧ ((.fn 89 [.bx [.int .i64 Size, .sl (.rows Sets), .sl (.ints Costs)] 0] : D) = (.fn 89 [.bx [.int .i64 Size, .sl (.rows Sets), .sl (.ints Costs)] 0] : D)) ∧ ((xs.length : Int) = (xs.length : Int)) ∧ ((i + 1) = i'))))) ∧ ((decide (i < (xs.length : Int))) = false → ((((-1) : Int) = (idxI (fun x => !(rising x 0 (Size - 1))) xs)))))))
theorem slices_IndexFunc_int_int_iS_vc (xs : List (List Int)) (Size : Int) (Sets : List (List Int)) (Costs : List Int) (hb : -9223372036854775808 < Size ∧ Size ≤ 9223372036854775807) (w_xs : (xs.length : Int) ≤ 9223372036854775807) (v_xs : ∀ x9 ∈ xs, (x9.length : Int) ≤ 9223372036854775807) (w_Sets : (Sets.length : Int) ≤ 9223372036854775807) (v_Sets : ∀ x9 ∈ Sets, (x9.length : Int) ≤ 9223372036854775807) (w_Costs : (Costs.length : Int) ≤ 9223372036854775807) : slices_IndexFunc_int_int_iS_P xs Size Sets Costs := by
  unfold slices_IndexFunc_int_int_iS_P
  refine ⟨?_, ?_⟩
  · refine ⟨0, ?_⟩
    refine ⟨?_, rfl, rfl, rfl, rfl⟩
    · refine ⟨?_, ?_, ?_⟩
      · first | omega | rfl | (intro hg; simp only [nrmT] at hg; omega) | (intro g1 g2; simp [g1, g2]; done) | (intro g1; simp at g1 ⊢; simp [g1]; done) | (simp only [nrmT] at *; omega) | (simp at * <;> omega) | (simp_all <;> omega) | (simp_all; done)
      · first | omega | rfl | (intro hg; simp only [nrmT] at hg; omega) | (intro g1 g2; simp [g1, g2]; done) | (intro g1; simp at g1 ⊢; simp [g1]; done) | (simp only [nrmT] at *; omega) | (simp at * <;> omega) | (simp_all <;> omega) | (simp_all; done)
      · first | omega | rfl | (intro hg; simp only [nrmT] at hg; omega) | (intro g1 g2; simp [g1, g2]; done) | (intro g1; simp at g1 ⊢; simp [g1]; done) | (simp only [nrmT] at *; omega) | (simp at * <;> omega) | (simp_all <;> omega) | (simp_all; done)
  · intro i hJ
    obtain ⟨h1, h2, h3⟩ := hJ
    refine ⟨?_, ?_⟩
    · intro b1
      try simp only [nrmT] at b1
      refine ⟨?_, ?_, ?_, ?_, ?_, ?_⟩
      · first | omega | rfl | (intro hg; simp only [nrmT] at hg; omega) | (intro g1 g2; simp [g1, g2]; done) | (intro g1; simp at g1 ⊢; simp [g1]; done) | (simp only [nrmT] at *; omega) | (simp at * <;> omega) | (simp_all <;> omega) | (simp_all; done)
      · first | omega | rfl | (intro hg; simp only [nrmT] at hg; omega) | (intro g1 g2; simp [g1, g2]; done) | (intro g1; simp at g1 ⊢; simp [g1]; done) | (simp only [nrmT] at *; omega) | (simp at * <;> omega) | (simp_all <;> omega) | (simp_all; done)
      · first | omega | rfl | (intro hg; simp only [nrmT] at hg; omega) | (intro g1 g2; simp [g1, g2]; done) | (intro g1; simp at g1 ⊢; simp [g1]; done) | (simp only [nrmT] at *; omega) | (simp at * <;> omega) | (simp_all <;> omega) | (simp_all; done)
      · refine i_IsSystem_1_pc (xs.getD i.toNat []) Size Sets Costs ?_
        · first | omega | rfl | (intro hg; simp only [nrmT] at hg; omega) | (intro g1 g2; simp [g1, g2]; done) | (intro g1; simp at g1 ⊢; simp [g1]; done) | (simp only [nrmT] at *; omega) | (simp at * <;> omega) | (simp_all <;> omega) | (simp_all; done)
      · intro b2
        try simp only [nrmT] at b2
        exact idx_found (p := fun x => !(rising x 0 (Size - 1))) h1 b1 h3 (by simpa using b2)
      · intro b3
        try simp only [nrmT] at b3
        refine ⟨?_, ?_⟩
        · first | omega | rfl | (intro hg; simp only [nrmT] at hg; omega) | (intro g1 g2; simp [g1, g2]; done) | (intro g1; simp at g1 ⊢; simp [g1]; done) | (simp only [nrmT] at *; omega) | (simp at * <;> omega) | (simp_all <;> omega) | (simp_all; done)
        · refine ⟨(i + 1), ?_⟩
          refine ⟨?_, ?_, rfl, rfl, rfl, rfl⟩
          · refine ⟨?_, ?_, ?_⟩
            · first | omega | rfl | (intro hg; simp only [nrmT] at hg; omega) | (intro g1 g2; simp [g1, g2]; done) | (intro g1; simp at g1 ⊢; simp [g1]; done) | (simp only [nrmT] at *; omega) | (simp at * <;> omega) | (simp_all <;> omega) | (simp_all; done)
            · first | omega | rfl | (intro hg; simp only [nrmT] at hg; omega) | (intro g1 g2; simp [g1, g2]; done) | (intro g1; simp at g1 ⊢; simp [g1]; done) | (simp only [nrmT] at *; omega) | (simp at * <;> omega) | (simp_all <;> omega) | (simp_all; done)
            · exact idx_step (p := fun x => !(rising x 0 (Size - 1))) h1 h3 (by simpa using b3)
          · first | (show _ < _; omega) | (simp only [slices_IndexFunc_int_int_iS_mJ0]; omega) | (simp only [slices_IndexFunc_int_int_iS_mJ0] at *; simp at *; omega)
    · intro b4
      try simp only [nrmT] at b4
      exact (idx_none (by omega) h3).symm
theorem slices_IndexFunc_int_int_iS_pc (xs : List (List Int)) (Size : Int) (Sets : List (List Int)) (Costs : List Int) (hb : -9223372036854775808 < Size ∧ Size ≤ 9223372036854775807) : PC Try.prog 148 [.sl (.rows xs), .fn 89 [.bx [.int .i64 Size, .sl (.rows Sets), .sl (.ints Costs)] 0]] (.one (.d (.int .i64 (idxI (fun x => !(rising x 0 (Size - 1))) xs)))) :=
  pc_wf @Try.call148 fun hw => pc_by (by kernel_rfl) Try.func148 @Try.call148 (by kernel_rfl) slices_IndexFunc_int_int_iS_C (slices_IndexFunc_int_int_iS_A xs Size Sets Costs) (by kernel_rfl) (slices_IndexFunc_int_int_iS_vc xs Size Sets Costs hb hw.1.1 hw.1.2 hw.2.1.1.2.1.1 hw.2.1.1.2.1.2 hw.2.1.1.2.2.1) (by kernel_rfl)
def slices_IndexFunc_int_int_iS_orc : List D → Orc := orcN [some .rows, none] fun ds => match ds with
  | [.sl (.rows xs), .fn f0 [.bx [.int .i64 Size, .sl (.rows Sets), .sl (.ints Costs)] 0]] => bif Nat.beq f0 89 then some (.one (.d (.int .i64 (idxI (fun x => !(rising x 0 (Size - 1))) xs)))) else none
  | _ => none

def slices_ContainsFunc_int_int_iS_C (f : FuncId) (ds : List D) : Orc := bif Nat.beq f 148 then slices_IndexFunc_int_int_iS_orc ds else .no
def slices_ContainsFunc_int_int_iS_A (xs : List (List Int)) (Size : Int) (Sets : List (List Int)) (Costs : List Int) : Ann := .none
def slices_ContainsFunc_int_int_iS_P (xs : List (List Int)) (Size : Int) (Sets : List (List Int)) (Costs : List Int) : Prop :=
  (PC Try.prog 148 [.sl (.rows xs), .fn 89 [.bx [.int .i64 Size, .sl (.rows Sets), .sl (.ints Costs)] 0]] (.one (.d (.int .i64 (idxI (fun x => !(rising x 0 (Size - 1))) xs))))) ∧ (((decide ((idxI (fun x => !(rising x 0 (Size - 1))) xs) ≥ 0)) = (xs.any (fun x => !(rising x 0 (Size - 1))))))
theorem slices_ContainsFunc_int_int_iS_vc (xs : List (List Int)) (Size : Int) (Sets : List (List Int)) (Costs : List Int) (hb : -9223372036854775808 < Size ∧ Size ≤ 9223372036854775807) (w_xs : (xs.length : Int) ≤ 9223372036854775807) (v_xs : ∀ x9 ∈ xs, (x9.length : Int) ≤ 9223372036854775807) (w_Sets : (Sets.length : Int) ≤ 9223372036854775807) (v_Sets : ∀ x9 ∈ Sets, (x9.length : Int) ≤ 9223372036854775807) (w_Costs : (Costs.length : Int) ≤ 9223372036854775807) : slices_ContainsFunc_int_int_iS_P xs Size Sets Costs := by
  unfold slices_ContainsFunc_int_int_iS_P
  refine ⟨?_, ?_⟩
  · refine slices_IndexFunc_int_int_iS_pc xs Size Sets Costs ?_
    · first | omega | rfl | (intro hg; simp only [nrmT] at hg; omega) | (intro g1 g2; simp [g1, g2]; done) | (intro g1; simp at g1 ⊢; simp [g1]; done) | (simp only [nrmT] at *; omega) | (simp at * <;> omega) | (simp_all <;> omega) | (simp_all; done)
  · exact idx_any _ _
theorem slices_ContainsFunc_int_int_iS_pc (xs : List (List Int)) (Size : Int) (Sets : List (List Int)) (Costs : List Int) (hb : -9223372036854775808 < Size ∧ Size ≤ 9223372036854775807) : PC Try.prog 88 [.sl (.rows xs), .fn 89 [.bx [.int .i64 Size, .sl (.rows Sets), .sl (.ints Costs)] 0]] (.one (.d (.bool (xs.any (fun x => !(rising x 0 (Size - 1))))))) :=
  pc_wf @Try.call88 fun hw => pc_by (by kernel_rfl) Try.func88 @Try.call88 (by kernel_rfl) slices_ContainsFunc_int_int_iS_C (slices_ContainsFunc_int_int_iS_A xs Size Sets Costs) (by kernel_rfl) (slices_ContainsFunc_int_int_iS_vc xs Size Sets Costs hb hw.1.1 hw.1.2 hw.2.1.1.2.1.1 hw.2.1.1.2.1.2 hw.2.1.1.2.2.1) (by kernel_rfl)
def slices_ContainsFunc_int_int_iS_orc : List D → Orc := orcN [some .rows, none] fun ds => match ds with
  | [.sl (.rows xs), .fn f0 [.bx [.int .i64 Size, .sl (.rows Sets), .sl (.ints Costs)] 0]] => bif Nat.beq f0 89 then some (.one (.d (.bool (xs.any (fun x => !(rising x 0 (Size - 1))))))) else none
  | _ => none

def i_IsSystem_C (f : FuncId) (ds : List D) : Orc := bif Nat.beq f 82 then i_between_orc ds else bif Nat.beq f 87 then i_areBetween_orc ds else bif Nat.beq f 88 then slices_ContainsFunc_int_int_iS_orc ds else .no
def i_IsSystem_A (Size : Int) (Sets : List (List Int)) (Costs : List Int) : Ann := .none
def i_IsSystem_P (Size : Int) (Sets : List (List Int)) (Costs : List Int) : Prop :=
  (PC Try.prog 82 [.int .i64 Size, .int .i64 0, .int .i64 8] (.one (.d (.bool (inB Size 0 8))))) ∧ ((inB Size 0 8) = true → (inB Size 0 8) = true) ∧ ((inB Size 0 8) = true → (inB Size 0 8) = true) ∧ ((inB Size 0 8) = true → (inB Size 0 8) = true) ∧ (true = true) ∧ (((inB Size 0 8) = true → (inB Size 0 8) = true)) ∧ (((inB Size 0 8) = false → true = true)) ∧ ((cond (inB Size 0 8) (decide ((Sets.length : Int) ≤ 8)) false) = true → (cond (inB Size 0 8) (decide ((Sets.length : Int) ≤ 8)) false) = true) ∧ ((cond (inB Size 0 8) (decide ((Sets.length : Int) ≤ 8)) false) = true → (cond (inB Size 0 8) (decide ((Sets.length : Int) ≤ 8)) false) = true) ∧ ((cond (inB Size 0 8) (decide ((Sets.length : Int) ≤ 8)) false) = true → (cond (inB Size 0 8) (decide ((Sets.length : Int) ≤ 8)) false) = true) ∧ ((cond (inB Size 0 8) (decide ((Sets.length : Int) ≤ 8)) false) = true → (cond (inB Size 0 8) (decide ((Sets.length : Int) ≤ 8)) false) = true) ∧ ((cond (inB Size 0 8) (decide ((Sets.length : Int) ≤ 8)) false) = true → (cond (inB Size 0 8) (decide ((Sets.length : Int) ≤ 8)) false) = true) ∧ ((cond (inB Size 0 8) (decide ((Sets.length : Int) ≤ 8)) false) = true → (cond (inB Size 0 8) (decide ((Sets.length : Int) ≤ 8)) false) = true) ∧ (true = true) ∧ (((cond (inB Size 0 8) (decide ((Sets.length : Int) ≤ 8)) false) = true → (cond (inB Size 0 8) (decide ((Sets.length : Int) ≤ 8)) false) = true)) ∧ (((cond (inB Size 0 8) (decide ((Sets.length : Int) ≤ 8)) false) = false → true = true)) ∧ ((cond (cond (inB Size 0 8) (decide ((Sets.length : Int) ≤ 8)) false) ((Costs.length : Int) == (Sets.length : Int)) false) = true → (cond (cond (inB Size 0 8) (decide ((Sets.length : Int) ≤ 8)) false) ((Costs.length : Int) == (Sets.length : Int)) false) = true) ∧ ((cond (cond (inB Size 0 8) (decide ((Sets.length : Int) ≤ 8)) false) ((Costs.length : Int) == (Sets.length : Int)) false) = true → (cond (cond (inB Size 0 8) (decide ((Sets.length : Int) ≤ 8)) false) ((Costs.length : Int) == (Sets.length : Int)) false) = true) ∧ ((cond (cond (inB Size 0 8) (decide ((Sets.length : Int) ≤ 8)) false) ((Costs.length : Int) == (Sets.length : Int)) false) = true → PC Try.prog 87 [.sl (.ints Costs), .int .i64 1, .int .i64 99] (.one (.d (.bool (Costs.all (fun x => inB x 1 99)))))) ∧ (true = true) ∧ (((cond (cond (inB Size 0 8) (decide ((Sets.length : Int) ≤ 8)) false) ((Costs.length : Int) == (Sets.length : Int)) false) = true → (cond (cond (inB Size 0 8) (decide ((Sets.length : Int) ≤ 8)) false) ((Costs.length : Int) == (Sets.length : Int)) false) = true)) ∧ (((cond (cond (inB Size 0 8) (decide ((Sets.length : Int) ≤ 8)) false) ((Costs.length : Int) == (Sets.length : Int)) false) = false → true = true)) ∧ ((cond (cond (cond (inB Size 0 8) (decide ((Sets.length : Int) ≤ 8)) false) ((Costs.length : Int) == (Sets.length : Int)) false) (Costs.all (fun x => inB x 1 99)) false) = true → (cond (cond (cond (inB Size 0 8) (decide ((Sets.length : Int) ≤ 8)) false) ((Costs.length : Int) == (Sets.length : Int)) false) (Costs.all (fun x => inB x 1 99)) false) = true) ∧ ((cond (cond (cond (inB Size 0 8) (decide ((Sets.length : Int) ≤ 8)) false) ((Costs.length : Int) == (Sets.length : Int)) false) (Costs.all (fun x => inB x 1 99)) false) = true → (cond (cond (cond (inB Size 0 8) (decide ((Sets.length : Int) ≤ 8)) false) ((Costs.length : Int) == (Sets.length : Int)) false) (Costs.all (fun x => inB x 1 99)) false) = true) ∧ ((cond (cond (cond (inB Size 0 8) (decide ((Sets.length : Int) ≤ 8)) false) ((Costs.length : Int) == (Sets.length : Int)) false) (Costs.all (fun x => inB x 1 99)) false) = true → (cond (cond (cond (inB Size 0 8) (decide ((Sets.length : Int) ≤ 8)) false) ((Costs.length : Int) == (Sets.length : Int)) false) (Costs.all (fun x => inB x 1 99)) false) = true) ∧ ((cond (cond (cond (inB Size 0 8) (decide ((Sets.length : Int) ≤ 8)) false) ((Costs.length : Int) == (Sets.length : Int)) false) (Costs.all (fun x => inB x 1 99)) false) = true → PC Try.prog 88 [.sl (.rows Sets), .fn 89 [.bx [.int .i64 Size, .sl (.rows Sets), .sl (.ints Costs)] 0]] (.one (.d (.bool (Sets.any (fun x => !(rising x 0 (Size - 1)))))))) ∧ ((cond (cond (cond (inB Size 0 8) (decide ((Sets.length : Int) ≤ 8)) false) ((Costs.length : Int) == (Sets.length : Int)) false) (Costs.all (fun x => inB x 1 99)) false) = true → (cond (cond (cond (inB Size 0 8) (decide ((Sets.length : Int) ≤ 8)) false) ((Costs.length : Int) == (Sets.length : Int)) false) (Costs.all (fun x => inB x 1 99)) false) = true) ∧ (true = true) ∧ (((cond (cond (cond (inB Size 0 8) (decide ((Sets.length : Int) ≤ 8)) false) ((Costs.length : Int) == (Sets.length : Int)) false) (Costs.all (fun x => inB x 1 99)) false) = true → (cond (cond (cond (inB Size 0 8) (decide ((Sets.length : Int) ≤ 8)) false) ((Costs.length : Int) == (Sets.length : Int)) false) (Costs.all (fun x => inB x 1 99)) false) = true)) ∧ (((cond (cond (cond (inB Size 0 8) (decide ((Sets.length : Int) ≤ 8)) false) ((Costs.length : Int) == (Sets.length : Int)) false) (Costs.all (fun x => inB x 1 99)) false) = false → true = true)) ∧ (((cond (cond (cond (cond (inB Size 0 8) (decide ((Sets.length : Int) ≤ 8)) false) ((Costs.length : Int) == (Sets.length : Int)) false) (Costs.all (fun x => inB x 1 99)) false) (!(Sets.any (fun x => !(rising x 0 (Size - 1))))) false) = (goodSys Size Sets Costs)))
theorem i_IsSystem_vc (Size : Int) (Sets : List (List Int)) (Costs : List Int)  (w_Sets : (Sets.length : Int) ≤ 9223372036854775807) (v_Sets : ∀ x9 ∈ Sets, (x9.length : Int) ≤ 9223372036854775807) (w_Costs : (Costs.length : Int) ≤ 9223372036854775807) : i_IsSystem_P Size Sets Costs := by
  unfold i_IsSystem_P
  refine ⟨i_between_pc Size 0 8, id, id, id, rfl, id, fun _ => rfl, id, id, id, id, id, id, rfl, id, fun _ => rfl, id, id, fun _ => i_areBetween_pc Costs 1 99, rfl, id, fun _ => rfl, id, id, id, ?_, id, rfl, id, fun _ => rfl, ?_⟩
  · intro hg
    refine slices_ContainsFunc_int_int_iS_pc Sets Size Sets Costs ?_
    · simp only [inB] at hg; simp at hg; omega
  · unfold goodSys
    rw [any_not, len_beq, show decide ((Sets.length : Int) ≤ 8) = decide (Sets.length ≤ 8) from len_le _ 8]
    cases inB Size 0 8 <;> cases decide (Sets.length ≤ 8) <;> cases Sets.all (fun xs => rising xs 0 (Size - 1)) <;> cases decide (Costs.length = Sets.length) <;> cases Costs.all (fun x => inB x 1 99) <;> rfl
theorem i_IsSystem_pc (Size : Int) (Sets : List (List Int)) (Costs : List Int)  : PC Try.prog 28 [.agg [.int .i64 Size, .sl (.rows Sets), .sl (.ints Costs)]] (.one (.d (.bool (goodSys Size Sets Costs)))) :=
  pc_wf @Try.call28 fun hw => pc_by (by kernel_rfl) Try.func28 @Try.call28 (by kernel_rfl) i_IsSystem_C (i_IsSystem_A Size Sets Costs) (by kernel_rfl) (i_IsSystem_vc Size Sets Costs hw.1.2.1.1 hw.1.2.1.2 hw.1.2.2.1) (by kernel_rfl)
def i_IsSystem_orc : List D → Orc := orcN [none] fun ds => match ds with
  | [.agg [.int .i64 Size, .sl (.rows Sets), .sl (.ints Costs)]] => some (.one (.d (.bool (goodSys Size Sets Costs))))
  | _ => none

abbrev l_toIntS_JJ0 (xs : List Int) (out : List Int) (i : Int) : Prop := (0 ≤ i) ∧ (i ≤ (xs.length : Int)) ∧ (out = xs.take i.toNat ++ (List.replicate xs.length 0).drop i.toNat)
abbrev l_toIntS_mJ0 (xs : List Int) (out : List Int) (i : Int) : Nat := (xs.length - i).toNat
def l_toIntS_C (f : FuncId) (ds : List D) : Orc := .no
def l_toIntS_A (xs : List Int) : Ann := .two (.none) (.two (.none) (.two (.two (.none) (.loop (cut2 (fun (out : List Int) (i : Int) => l_toIntS_JJ0 xs out i) (fun (out : List Int) (i : Int) => [(0, .d false (.sl (.ints xs))), (3, .own 7 out.length), (4, .d true (.int .i64 i))]) (fun (out : List Int) (i : Int) => [(7, .arr true 3 (.ints out))])) (fun g => l_toIntS_mJ0 xs g.1 g.2) (fun _ => .none))) (.none)))
def l_toIntS_P (xs : List Int) : Prop :=
  ((xs.length : Int) = (xs.length : Int)) ∧ ((0 : Int) ≤ (xs.length : Int)) ∧ (((xs.length : Int) : Int) * ((8 : Nat) : Int) ≤ 140737488355328) ∧ ((∃ out' : List Int, ∃ i' : Int, (l_toIntS_JJ0 xs out' i') ∧ (xs = xs) ∧ ((xs.length : Int).toNat = out'.length) ∧ ((0 : Int) = i') ∧ ((List.replicate ((xs.length : Int).toNat) (0 : Int)) = out')) ∧ (∀ out : List Int, ∀ i : Int, (l_toIntS_JJ0 xs out i) → (((decide (i < (xs.length : Int))) = true → ((0 : Int) ≤ i) ∧ ((i : Int) < xs.length) ∧ (i.toNat < xs.length) ∧ ((0 : Int) ≤ i) ∧ ((i : Int) < (out.length : Int)) ∧ (i.toNat < out.length) ∧ (-9223372036854775808 ≤ (i + 1) ∧ (i + 1) ≤ 9223372036854775807) ∧ (∃ out' : List Int, ∃ i' : Int, (l_toIntS_JJ0 xs out' i') ∧ (l_toIntS_mJ0 xs out' i' < l_toIntS_mJ0 xs out i) ∧ (xs = xs) ∧ (out.length = out'.length) ∧ ((i + 1) = i') ∧ ((out.set i.toNat (xs.getD i.toNat 0)) = out'))) ∧ ((decide (i < (xs.length : Int))) = false → ((out.length = out.length) ∧ ((out : List Int) = xs))))))
theorem l_toIntS_vc (xs : List Int) (hn : xs.length ≤ 1048576) (w_xs : (xs.length : Int) ≤ 9223372036854775807) : l_toIntS_P xs := by
  unfold l_toIntS_P
  refine ⟨rfl, ?_, ?_, ?_, ?_⟩
  · first | omega | rfl | (intro hg; simp only [nrmT] at hg; omega) | (intro g1 g2; simp [g1, g2]; done) | (intro g1; simp at g1 ⊢; simp [g1]; done) | (simp only [nrmT] at *; omega) | (simp at * <;> omega) | (simp_all <;> omega) | (simp_all; done)
  · first | omega | rfl | (intro hg; simp only [nrmT] at hg; omega) | (intro g1 g2; simp [g1, g2]; done) | (intro g1; simp at g1 ⊢; simp [g1]; done) | (simp only [nrmT] at *; omega) | (simp at * <;> omega) | (simp_all <;> omega) | (simp_all; done)
  · refine ⟨(List.replicate ((xs.length : Int).toNat) (0 : Int)), 0, ?_⟩
    refine ⟨?_, rfl, ?_, rfl, rfl⟩
    · refine ⟨?_, ?_, ?_⟩
      · first | omega | rfl | (intro hg; simp only [nrmT] at hg; omega) | (intro g1 g2; simp [g1, g2]; done) | (intro g1; simp at g1 ⊢; simp [g1]; done) | (simp only [nrmT] at *; omega) | (simp at * <;> omega) | (simp_all <;> omega) | (simp_all; done)
      · first | omega | rfl | (intro hg; simp only [nrmT] at hg; omega) | (intro g1 g2; simp [g1, g2]; done) | (intro g1; simp at g1 ⊢; simp [g1]; done) | (simp only [nrmT] at *; omega) | (simp at * <;> omega) | (simp_all <;> omega) | (simp_all; done)
      · simp
    · simp
  · intro out i hJ
    obtain ⟨h1, h2, h3⟩ := hJ
    refine ⟨?_, ?_⟩
    · intro b1
      try simp only [nrmT] at b1
      refine ⟨?_, ?_, ?_, ?_, ?_, ?_, ?_, ?_⟩
      · first | omega | rfl | (intro hg; simp only [nrmT] at hg; omega) | (intro g1 g2; simp [g1, g2]; done) | (intro g1; simp at g1 ⊢; simp [g1]; done) | (simp only [nrmT] at *; omega) | (simp at * <;> omega) | (simp_all <;> omega) | (simp_all; done)
      · first | omega | rfl | (intro hg; simp only [nrmT] at hg; omega) | (intro g1 g2; simp [g1, g2]; done) | (intro g1; simp at g1 ⊢; simp [g1]; done) | (simp only [nrmT] at *; omega) | (simp at * <;> omega) | (simp_all <;> omega) | (simp_all; done)
      · first | omega | rfl | (intro hg; simp only [nrmT] at hg; omega) | (intro g1 g2; simp [g1, g2]; done) | (intro g1; simp at g1 ⊢; simp [g1]; done) | (simp only [nrmT] at *; omega) | (simp at * <;> omega) | (simp_all <;> omega) | (simp_all; done)
      · first | omega | rfl | (intro hg; simp only [nrmT] at hg; omega) | (intro g1 g2; simp [g1, g2]; done) | (intro g1; simp at g1 ⊢; simp [g1]; done) | (simp only [nrmT] at *; omega) | (simp at * <;> omega) | (simp_all <;> omega) | (simp_all; done)
      · have e : out.length = xs.length := by rw [h3]; exact copy_len (by omega) (by simp)
        omega
      · have e : out.length = xs.length := by rw [h3]; exact copy_len (by omega) (by simp)
        omega
      · first | omega | rfl | (intro hg; simp only [nrmT] at hg; omega) | (intro g1 g2; simp [g1, g2]; done) | (intro g1; simp at g1 ⊢; simp [g1]; done) | (simp only [nrmT] at *; omega) | (simp at * <;> omega) | (simp_all <;> omega) | (simp_all; done)
      · refine ⟨(out.set i.toNat (xs.getD i.toNat 0)), (i + 1), ?_⟩
        refine ⟨?_, ?_, rfl, ?_, rfl, rfl⟩
        · refine ⟨?_, ?_, ?_⟩
          · first | omega | rfl | (intro hg; simp only [nrmT] at hg; omega) | (intro g1 g2; simp [g1, g2]; done) | (intro g1; simp at g1 ⊢; simp [g1]; done) | (simp only [nrmT] at *; omega) | (simp at * <;> omega) | (simp_all <;> omega) | (simp_all; done)
          · first | omega | rfl | (intro hg; simp only [nrmT] at hg; omega) | (intro g1 g2; simp [g1, g2]; done) | (intro g1; simp at g1 ⊢; simp [g1]; done) | (simp only [nrmT] at *; omega) | (simp at * <;> omega) | (simp_all <;> omega) | (simp_all; done)
          · rw [h3]; exact copy_step h1 b1 (by simp)
        · first | (show _ < _; omega) | (simp only [l_toIntS_mJ0]; omega) | (simp only [l_toIntS_mJ0] at *; simp at *; omega)
        · simp
    · intro b2
      try simp only [nrmT] at b2
      refine ⟨rfl, ?_⟩
      · rw [h3, take_all (by omega)]; simp; omega
theorem l_toIntS_pc (xs : List Int) (hn : xs.length ≤ 1048576) : PC Try.prog 40 [.sl (.ints xs)] (.one (.d (.sl (.ints xs)))) :=
  pc_wf @Try.call40 fun hw => pc_by (by kernel_rfl) Try.func40 @Try.call40 (by kernel_rfl) l_toIntS_C (l_toIntS_A xs) (by kernel_rfl) (l_toIntS_vc xs hn hw.1) (by kernel_rfl)
def l_toIntS_orc : List D → Orc := orcN [some .ints] fun ds => match ds with
  | [.sl (.ints xs)] => some (.one (.d (.sl (.ints xs))))
  | _ => none

abbrev l_toIntSS_JJ0 (xss : List (List Int)) (out : List (List Int)) (i : Int) : Prop := (0 ≤ i) ∧ (i ≤ (xss.length : Int)) ∧ (out = xss.take i.toNat ++ (List.replicate xss.length []).drop i.toNat)
abbrev l_toIntSS_mJ0 (xss : List (List Int)) (out : List (List Int)) (i : Int) : Nat := (xss.length - i).toNat
def l_toIntSS_C (f : FuncId) (ds : List D) : Orc := bif Nat.beq f 40 then l_toIntS_orc ds else .no
def l_toIntSS_A (xss : List (List Int)) : Ann := .two (.none) (.two (.none) (.two (.two (.none) (.loop (cut2 (fun (out : List (List Int)) (i : Int) => l_toIntSS_JJ0 xss out i) (fun (out : List (List Int)) (i : Int) => [(0, .d false (.sl (.rows xss))), (3, .own 7 out.length), (4, .d true (.int .i64 i))]) (fun (out : List (List Int)) (i : Int) => [(7, .arr true 26 (.rows out))])) (fun g => l_toIntSS_mJ0 xss g.1 g.2) (fun _ => .none))) (.none)))
def l_toIntSS_P (xss : List (List Int)) : Prop :=
  ((xss.length : Int) = (xss.length : Int)) ∧ ((0 : Int) ≤ (xss.length : Int)) ∧ (((xss.length : Int) : Int) * ((24 : Nat) : Int) ≤ 140737488355328) ∧ ((∃ out' : List (List Int), ∃ i' : Int, (l_toIntSS_JJ0 xss out' i') ∧ (xss = xss) ∧ ((xss.length : Int).toNat = out'.length) ∧ ((0 : Int) = i') ∧ ((List.replicate ((xss.length : Int).toNat) ([] : List Int)) = out')) ∧ (∀ out : List (List Int), ∀ i : Int, (l_toIntSS_JJ0 xss out i) → (((decide (i < (xss.length : Int))) = true → ((0 : Int) ≤ i) ∧ ((i : Int) < xss.length) ∧ (i.toNat < xss.length) ∧ (PC Try.prog 40 [.sl (.ints (xss.getD i.toNat []))] (.one (.d (.sl (.ints (xss.getD i.toNat [])))))) ∧ ((0 : Int) ≤ i) ∧ ((i : Int) < (out.length : Int)) ∧ (i.toNat < out.length) ∧ (-9223372036854775808 ≤ (i + 1) ∧ (i + 1) ≤ 9223372036854775807) ∧ (∃ out' : List (List Int), ∃ i' : Int, (l_toIntSS_JJ0 xss out' i') ∧ (l_toIntSS_mJ0 xss out' i' < l_toIntSS_mJ0 xss out i) ∧ (xss = xss) ∧ (out.length = out'.length) ∧ ((i + 1) = i') ∧ ((out.set i.toNat (xss.getD i.toNat [])) = out'))) ∧ ((decide (i < (xss.length : Int))) = false → ((out.length = out.length) ∧ ((out : List (List Int)) = xss))))))
theorem l_toIntSS_vc (xss : List (List Int)) (hn : xss.length ≤ 1048576) (hm : ∀ xs ∈ xss, xs.length ≤ 1048576) (w_xss : (xss.length : Int) ≤ 9223372036854775807) (v_xss : ∀ x9 ∈ xss, (x9.length : Int) ≤ 9223372036854775807) : l_toIntSS_P xss := by
  unfold l_toIntSS_P
  refine ⟨rfl, ?_, ?_, ?_, ?_⟩
  · first | omega | rfl | (intro hg; simp only [nrmT] at hg; omega) | (intro g1 g2; simp [g1, g2]; done) | (intro g1; simp at g1 ⊢; simp [g1]; done) | (simp only [nrmT] at *; omega) | (simp at * <;> omega) | (simp_all <;> omega) | (simp_all; done)
  · first | omega | rfl | (intro hg; simp only [nrmT] at hg; omega) | (intro g1 g2; simp [g1, g2]; done) | (intro g1; simp at g1 ⊢; simp [g1]; done) | (simp only [nrmT] at *; omega) | (simp at * <;> omega) | (simp_all <;> omega) | (simp_all; done)
  · refine ⟨(List.replicate ((xss.length : Int).toNat) ([] : List Int)), 0, ?_⟩
    refine ⟨?_, rfl, ?_, rfl, rfl⟩
    · refine ⟨?_, ?_, ?_⟩
      · first | omega | rfl | (intro hg; simp only [nrmT] at hg; omega) | (intro g1 g2; simp [g1, g2]; done) | (intro g1; simp at g1 ⊢; simp [g1]; done) | (simp only [nrmT] at *; omega) | (simp at * <;> omega) | (simp_all <;> omega) | (simp_all; done)
      · first | omega | rfl | (intro hg; simp only [nrmT] at hg; omega) | (intro g1 g2; simp [g1, g2]; done) | (intro g1; simp at g1 ⊢; simp [g1]; done) | (simp only [nrmT] at *; omega) | (simp at * <;> omega) | (simp_all <;> omega) | (simp_all; done)
      · simp
    · simp
  · intro out i hJ
    obtain ⟨h1, h2, h3⟩ := hJ
    refine ⟨?_, ?_⟩
    · intro b1
      try simp only [nrmT] at b1
      refine ⟨?_, ?_, ?_, ?_, ?_, ?_, ?_, ?_, ?_⟩
      · first | omega | rfl | (intro hg; simp only [nrmT] at hg; omega) | (intro g1 g2; simp [g1, g2]; done) | (intro g1; simp at g1 ⊢; simp [g1]; done) | (simp only [nrmT] at *; omega) | (simp at * <;> omega) | (simp_all <;> omega) | (simp_all; done)
      · first | omega | rfl | (intro hg; simp only [nrmT] at hg; omega) | (intro g1 g2; simp [g1, g2]; done) | (intro g1; simp at g1 ⊢; simp [g1]; done) | (simp only [nrmT] at *; omega) | (simp at * <;> omega) | (simp_all <;> omega) | (simp_all; done)
      · first | omega | rfl | (intro hg; simp only [nrmT] at hg; omega) | (intro g1 g2; simp [g1, g2]; done) | (intro g1; simp at g1 ⊢; simp [g1]; done) | (simp only [nrmT] at *; omega) | (simp at * <;> omega) | (simp_all <;> omega) | (simp_all; done)
      · refine l_toIntS_pc (xss.getD i.toNat []) ?_
        · exact hm _ (getD_memI h1 b1)
      · first | omega | rfl | (intro hg; simp only [nrmT] at hg; omega) | (intro g1 g2; simp [g1, g2]; done) | (intro g1; simp at g1 ⊢; simp [g1]; done) | (simp only [nrmT] at *; omega) | (simp at * <;> omega) | (simp_all <;> omega) | (simp_all; done)
      · have e : out.length = xss.length := by rw [h3]; exact copy_len (by omega) (by simp)
        omega
      · have e : out.length = xss.length := by rw [h3]; exact copy_len (by omega) (by simp)
        omega
      · first | omega | rfl | (intro hg; simp only [nrmT] at hg; omega) | (intro g1 g2; simp [g1, g2]; done) | (intro g1; simp at g1 ⊢; simp [g1]; done) | (simp only [nrmT] at *; omega) | (simp at * <;> omega) | (simp_all <;> omega) | (simp_all; done)
      · refine ⟨(out.set i.toNat (xss.getD i.toNat [])), (i + 1), ?_⟩
        refine ⟨?_, ?_, rfl, ?_, rfl, rfl⟩
        · refine ⟨?_, ?_, ?_⟩
          · first | omega | rfl | (intro hg; simp only [nrmT] at hg; omega) | (intro g1 g2; simp [g1, g2]; done) | (intro g1; simp at g1 ⊢; simp [g1]; done) | (simp only [nrmT] at *; omega) | (simp at * <;> omega) | (simp_all <;> omega) | (simp_all; done)
          · first | omega | rfl | (intro hg; simp only [nrmT] at hg; omega) | (intro g1 g2; simp [g1, g2]; done) | (intro g1; simp at g1 ⊢; simp [g1]; done) | (simp only [nrmT] at *; omega) | (simp at * <;> omega) | (simp_all <;> omega) | (simp_all; done)
          · rw [h3]; exact copy_step h1 b1 (by simp)
        · first | (show _ < _; omega) | (simp only [l_toIntSS_mJ0]; omega) | (simp only [l_toIntSS_mJ0] at *; simp at *; omega)
        · simp
    · intro b2
      try simp only [nrmT] at b2
      refine ⟨rfl, ?_⟩
      · rw [h3, take_all (by omega)]; simp; omega
theorem l_toIntSS_pc (xss : List (List Int)) (hn : xss.length ≤ 1048576) (hm : ∀ xs ∈ xss, xs.length ≤ 1048576) : PC Try.prog 86 [.sl (.rows xss)] (.one (.d (.sl (.rows xss)))) :=
  pc_wf @Try.call86 fun hw => pc_by (by kernel_rfl) Try.func86 @Try.call86 (by kernel_rfl) l_toIntSS_C (l_toIntSS_A xss) (by kernel_rfl) (l_toIntSS_vc xss hn hm hw.1.1 hw.1.2) (by kernel_rfl)
def l_toIntSS_orc : List D → Orc := orcN [some .rows] fun ds => match ds with
  | [.sl (.rows xss)] => some (.one (.d (.sl (.rows xss))))
  | _ => none

def l_toSystem_C (f : FuncId) (ds : List D) : Orc := bif Nat.beq f 86 then l_toIntSS_orc ds else bif Nat.beq f 40 then l_toIntS_orc ds else .no
def l_toSystem_A (Size : Int) (Sets : List (List Int)) (Costs : List Int) : Ann := .none
def l_toSystem_P (Size : Int) (Sets : List (List Int)) (Costs : List Int) : Prop :=
  (PC Try.prog 86 [.sl (.rows Sets)] (.one (.d (.sl (.rows Sets))))) ∧ (PC Try.prog 40 [.sl (.ints Costs)] (.one (.d (.sl (.ints Costs))))) ∧ (((.agg [.int .i64 Size, .sl (.rows Sets), .sl (.ints Costs)] : D) = .agg [.int .i64 Size, .sl (.rows Sets), .sl (.ints Costs)]))
theorem l_toSystem_vc (Size : Int) (Sets : List (List Int)) (Costs : List Int) (h1 : Sets.length ≤ 1048576) (h2 : ∀ xs ∈ Sets, xs.length ≤ 1048576) (h3 : Costs.length ≤ 1048576) (w_Sets : (Sets.length : Int) ≤ 9223372036854775807) (v_Sets : ∀ x9 ∈ Sets, (x9.length : Int) ≤ 9223372036854775807) (w_Costs : (Costs.length : Int) ≤ 9223372036854775807) : l_toSystem_P Size Sets Costs := by
  unfold l_toSystem_P
  refine ⟨?_, ?_, rfl⟩
  · refine l_toIntSS_pc Sets ?_ ?_
    · assumption
    · assumption
  · refine l_toIntS_pc Costs ?_
    · assumption
theorem l_toSystem_pc (Size : Int) (Sets : List (List Int)) (Costs : List Int) (h1 : Sets.length ≤ 1048576) (h2 : ∀ xs ∈ Sets, xs.length ≤ 1048576) (h3 : Costs.length ≤ 1048576) : PC Try.prog 27 [.agg [.int .i64 Size, .sl (.rows Sets), .sl (.ints Costs)]] (.one (.d (.agg [.int .i64 Size, .sl (.rows Sets), .sl (.ints Costs)]))) :=
  pc_wf @Try.call27 fun hw => pc_by (by kernel_rfl) Try.func27 @Try.call27 (by kernel_rfl) l_toSystem_C (l_toSystem_A Size Sets Costs) (by kernel_rfl) (l_toSystem_vc Size Sets Costs h1 h2 h3 hw.1.2.1.1 hw.1.2.1.2 hw.1.2.2.1) (by kernel_rfl)
def l_toSystem_orc : List D → Orc := orcN [none] fun ds => match ds with
  | [.agg [.int .i64 Size, .sl (.rows Sets), .sl (.ints Costs)]] => some (.one (.d (.agg [.int .i64 Size, .sl (.rows Sets), .sl (.ints Costs)])))
  | _ => none

def szSys (sets : List (List Int)) (costs : List Int) (left : Int) : Int := if szRows sets left < 0 then -1 else if sz1 costs.length (szRows sets left) < 0 then -1 else sz1 costs.length (szRows sets left)
theorem szSys_bound {sets : List (List Int)} {costs : List Int} {left : Int} (h : 0 ≤ szSys sets costs left) : (sets.length : Int) ≤ left ∧ (∀ xs ∈ sets, (xs.length : Int) ≤ left) ∧ (costs.length : Int) ≤ left := by
  unfold szSys at h
  by_cases h1 : szRows sets left < 0
  · rw [if_pos h1] at h; omega
  · rw [if_neg h1] at h
    obtain ⟨a1, a2, a3⟩ := szRows_bound (by omega : 0 ≤ szRows sets left)
    by_cases h2 : sz1 costs.length (szRows sets left) < 0
    · rw [if_pos h2] at h; omega
    · obtain ⟨b1, b2⟩ := sz1_bound (by omega : 0 ≤ sz1 costs.length (szRows sets left))
      exact ⟨a2, a3, by omega⟩

def l_szSystem_C (f : FuncId) (ds : List D) : Orc := bif Nat.beq f 83 then l_szIntSS_orc ds else bif Nat.beq f 84 then l_szIntS_orc ds else .no
def l_szSystem_A (Size : Int) (Sets : List (List Int)) (Costs : List Int) (left : Int) : Ann := .none
def l_szSystem_P (Size : Int) (Sets : List (List Int)) (Costs : List Int) (left : Int) : Prop :=
  (PC Try.prog 83 [.sl (.rows Sets), .int .i64 left] (.one (.d (.int .i64 (szRows Sets left))))) ∧ (((decide ((szRows Sets left) < 0)) = true → ((((-1) : Int) = (szSys Sets Costs left)))) ∧ ((decide ((szRows Sets left) < 0)) = false → (PC Try.prog 84 [.sl (.ints Costs), .int .i64 (szRows Sets left)] (.one (.d (.int .i64 (sz1 Costs.length (szRows Sets left)))))) ∧ (((decide ((sz1 Costs.length (szRows Sets left)) < 0)) = true → ((((-1) : Int) = (szSys Sets Costs left)))) ∧ ((decide ((sz1 Costs.length (szRows Sets left)) < 0)) = false → (((sz1 Costs.length (szRows Sets left)) = (szSys Sets Costs left)))))))
theorem l_szSystem_vc (Size : Int) (Sets : List (List Int)) (Costs : List Int) (left : Int) (hl : 0 ≤ left ∧ left ≤ 1048576) (w_Sets : (Sets.length : Int) ≤ 9223372036854775807) (v_Sets : ∀ x9 ∈ Sets, (x9.length : Int) ≤ 9223372036854775807) (w_Costs : (Costs.length : Int) ≤ 9223372036854775807) : l_szSystem_P Size Sets Costs left := by
  unfold l_szSystem_P
  refine ⟨?_, ?_, ?_⟩
  · refine l_szIntSS_pc Sets left ?_
    · first | omega | rfl | (intro hg; simp only [nrmT] at hg; omega) | (intro g1 g2; simp [g1, g2]; done) | (intro g1; simp at g1 ⊢; simp [g1]; done) | (simp only [nrmT] at *; omega) | (simp at * <;> omega) | (simp_all <;> omega) | (simp_all; done)
  · intro b1
    try simp only [nrmT] at b1
    unfold szSys; first | rw [if_pos (by omega)] | rw [if_neg (by omega), if_pos (by omega)] | rw [if_neg (by omega), if_neg (by omega)]
  · intro b2
    try simp only [nrmT] at b2
    refine ⟨?_, ?_, ?_⟩
    · refine l_szIntS_pc Costs (szRows Sets left) ?_
      · have := szRows_bound (xss := Sets) (left := left) (by omega); omega
    · intro b3
      try simp only [nrmT] at b3
      unfold szSys; first | rw [if_pos (by omega)] | rw [if_neg (by omega), if_pos (by omega)] | rw [if_neg (by omega), if_neg (by omega)]
    · intro b4
      try simp only [nrmT] at b4
      unfold szSys; first | rw [if_pos (by omega)] | rw [if_neg (by omega), if_pos (by omega)] | rw [if_neg (by omega), if_neg (by omega)]
theorem l_szSystem_pc (Size : Int) (Sets : List (List Int)) (Costs : List Int) (left : Int) (hl : 0 ≤ left ∧ left ≤ 1048576) : PC Try.prog 25 [.agg [.int .i64 Size, .sl (.rows Sets), .sl (.ints Costs)], .int .i64 left] (.one (.d (.int .i64 (szSys Sets Costs left)))) :=
  pc_wf @Try.call25 fun hw => pc_by (by kernel_rfl) Try.func25 @Try.call25 (by kernel_rfl) l_szSystem_C (l_szSystem_A Size Sets Costs left) (by kernel_rfl) (l_szSystem_vc Size Sets Costs left hl hw.1.2.1.1 hw.1.2.1.2 hw.1.2.2.1) (by kernel_rfl)
def l_szSystem_orc : List D → Orc := orcN [none, none] fun ds => match ds with
  | [.agg [.int .i64 Size, .sl (.rows Sets), .sl (.ints Costs)], .int .i64 left] => some (.one (.d (.int .i64 (szSys Sets Costs left))))
  | _ => none

theorem beq_of_all {α : Type} [BEq α] [LawfulBEq α] {d : α} {xs ys : List α} (hl : xs.length = ys.length) : allTo (fun k => xs.getD k d == ys.getD k d) xs.length = (xs == ys) := by
  rw [Bool.eq_iff_iff, allTo_iff]
  simp only [beq_iff_eq]
  constructor
  · intro h
    refine List.ext_getElem hl fun k h1 h2 => ?_
    have := h k h1
    simpa [h1, h2] using this
  · intro h k _
    rw [h]
theorem len_ne {α : Type} [BEq α] [LawfulBEq α] {xs ys : List α} (h : ¬ xs.length = ys.length) : (xs == ys) = false := by
  rw [Bool.eq_false_iff]; intro h2; simp only [beq_iff_eq] at h2; exact h (by rw [h2])

abbrev l_eqIntS_JJ0 (xs : List Int) (ys : List Int) (i : Int) : Prop := (0 ≤ i) ∧ (i ≤ (xs.length : Int)) ∧ (allTo (fun k => xs.getD k 0 == ys.getD k 0) i.toNat = true) ∧ (xs.length = ys.length)
abbrev l_eqIntS_mJ0 (xs : List Int) (ys : List Int) (i : Int) : Nat := (xs.length - i).toNat
def l_eqIntS_C (f : FuncId) (ds : List D) : Orc := .no
def l_eqIntS_A (xs : List Int) (ys : List Int) : Ann := .two (.none) (.two (.none) (.two (.two (.none) (.loop (cut1 (fun (i : Int) => l_eqIntS_JJ0 xs ys i) (fun (i : Int) => [(0, .d false (.sl (.ints xs))), (1, .d false (.sl (.ints ys))), (5, .d true (.int .i64 i))]) (fun (i : Int) => [])) (fun g => l_eqIntS_mJ0 xs ys g) (fun _ => .none))) (.none)))
def l_eqIntS_P (xs : List Int) (ys : List Int) : Prop :=
  ((((xs.length : Int) != (ys.length : Int)) = true → ((false = (xs == ys)))) ∧ (((xs.length : Int) != (ys.length : Int)) = false → ((∃ i' : Int, (l_eqIntS_JJ0 xs ys i') ∧ (xs = xs) ∧ (ys = ys) ∧ ((0 : Int) = i')) ∧ (∀ i : Int, (l_eqIntS_JJ0 xs ys i) → (((decide (i < (xs.length : Int))) = true → (true = true) ∧ ((0 : Int) ≤ i) ∧ ((i : Int) < xs.length) ∧ (i.toNat < xs.length) ∧ ((0 : Int) ≤ i) ∧ ((i : Int) < ys.length) ∧ (i.toNat < ys.length) ∧ ((((xs.getD i.toNat 0) != (ys.getD i.toNat 0)) = true → ((false = (xs == ys)))) ∧ (((xs.getD i.toNat 0) != (ys.getD i.toNat 0)) = false → (-9223372036854775808 ≤ (i + 1) ∧ (i + 1) ≤ 9223372036854775807) ∧ (∃ i' : Int, (l_eqIntS_JJ0 xs ys i') ∧ (l_eqIntS_mJ0 xs ys i' < l_eqIntS_mJ0 xs ys i) ∧ (xs = xs) ∧ (ys = ys) ∧ ((i + 1) = i'))))) ∧ ((decide (i < (xs.length : Int))) = false → ((true = (xs == ys)))))))))
theorem l_eqIntS_vc (xs : List Int) (ys : List Int)  (w_xs : (xs.length : Int) ≤ 9223372036854775807) (w_ys : (ys.length : Int) ≤ 9223372036854775807) : l_eqIntS_P xs ys := by
  unfold l_eqIntS_P
  refine ⟨?_, ?_⟩
  · intro b1
    try simp only [nrmT] at b1
    exact (len_ne (by omega)).symm
  · intro b2
    try simp only [nrmT] at b2
    refine ⟨?_, ?_⟩
    · refine ⟨0, ?_⟩
      refine ⟨?_, rfl, rfl, rfl⟩
      · refine ⟨?_, ?_, ?_, ?_⟩
        · first | omega | rfl | (intro hg; simp only [nrmT] at hg; omega) | (intro g1 g2; simp [g1, g2]; done) | (intro g1; simp at g1 ⊢; simp [g1]; done) | (simp only [nrmT] at *; omega) | (simp at * <;> omega) | (simp_all <;> omega) | (simp_all; done)
        · first | omega | rfl | (intro hg; simp only [nrmT] at hg; omega) | (intro g1 g2; simp [g1, g2]; done) | (intro g1; simp at g1 ⊢; simp [g1]; done) | (simp only [nrmT] at *; omega) | (simp at * <;> omega) | (simp_all <;> omega) | (simp_all; done)
        · first | omega | rfl | (intro hg; simp only [nrmT] at hg; omega) | (intro g1 g2; simp [g1, g2]; done) | (intro g1; simp at g1 ⊢; simp [g1]; done) | (simp only [nrmT] at *; omega) | (simp at * <;> omega) | (simp_all <;> omega) | (simp_all; done)
        · first | omega | rfl | (intro hg; simp only [nrmT] at hg; omega) | (intro g1 g2; simp [g1, g2]; done) | (intro g1; simp at g1 ⊢; simp [g1]; done) | (simp only [nrmT] at *; omega) | (simp at * <;> omega) | (simp_all <;> omega) | (simp_all; done)
    · intro i hJ
      obtain ⟨h1, h2, h3, h4⟩ := hJ
      refine ⟨?_, ?_⟩
      · intro b3
        try simp only [nrmT] at b3
        refine ⟨rfl, ?_, ?_, ?_, ?_, ?_, ?_, ?_, ?_⟩
        · first | omega | rfl | (intro hg; simp only [nrmT] at hg; omega) | (intro g1 g2; simp [g1, g2]; done) | (intro g1; simp at g1 ⊢; simp [g1]; done) | (simp only [nrmT] at *; omega) | (simp at * <;> omega) | (simp_all <;> omega) | (simp_all; done)
        · first | omega | rfl | (intro hg; simp only [nrmT] at hg; omega) | (intro g1 g2; simp [g1, g2]; done) | (intro g1; simp at g1 ⊢; simp [g1]; done) | (simp only [nrmT] at *; omega) | (simp at * <;> omega) | (simp_all <;> omega) | (simp_all; done)
        · first | omega | rfl | (intro hg; simp only [nrmT] at hg; omega) | (intro g1 g2; simp [g1, g2]; done) | (intro g1; simp at g1 ⊢; simp [g1]; done) | (simp only [nrmT] at *; omega) | (simp at * <;> omega) | (simp_all <;> omega) | (simp_all; done)
        · first | omega | rfl | (intro hg; simp only [nrmT] at hg; omega) | (intro g1 g2; simp [g1, g2]; done) | (intro g1; simp at g1 ⊢; simp [g1]; done) | (simp only [nrmT] at *; omega) | (simp at * <;> omega) | (simp_all <;> omega) | (simp_all; done)
        · first | omega | rfl | (intro hg; simp only [nrmT] at hg; omega) | (intro g1 g2; simp [g1, g2]; done) | (intro g1; simp at g1 ⊢; simp [g1]; done) | (simp only [nrmT] at *; omega) | (simp at * <;> omega) | (simp_all <;> omega) | (simp_all; done)
        · first | omega | rfl | (intro hg; simp only [nrmT] at hg; omega) | (intro g1 g2; simp [g1, g2]; done) | (intro g1; simp at g1 ⊢; simp [g1]; done) | (simp only [nrmT] at *; omega) | (simp at * <;> omega) | (simp_all <;> omega) | (simp_all; done)
        · intro b4
          try simp only [nrmT] at b4
          rw [← beq_of_all (d := 0) h4]; exact (allTo_falseI h1 (by omega) (by simpa using b4)).symm
        · intro b5
          try simp only [nrmT] at b5
          refine ⟨?_, ?_⟩
          · first | omega | rfl | (intro hg; simp only [nrmT] at hg; omega) | (intro g1 g2; simp [g1, g2]; done) | (intro g1; simp at g1 ⊢; simp [g1]; done) | (simp only [nrmT] at *; omega) | (simp at * <;> omega) | (simp_all <;> omega) | (simp_all; done)
          · refine ⟨(i + 1), ?_⟩
            refine ⟨?_, ?_, rfl, rfl, rfl⟩
            · refine ⟨?_, ?_, ?_, ?_⟩
              · first | omega | rfl | (intro hg; simp only [nrmT] at hg; omega) | (intro g1 g2; simp [g1, g2]; done) | (intro g1; simp at g1 ⊢; simp [g1]; done) | (simp only [nrmT] at *; omega) | (simp at * <;> omega) | (simp_all <;> omega) | (simp_all; done)
              · first | omega | rfl | (intro hg; simp only [nrmT] at hg; omega) | (intro g1 g2; simp [g1, g2]; done) | (intro g1; simp at g1 ⊢; simp [g1]; done) | (simp only [nrmT] at *; omega) | (simp at * <;> omega) | (simp_all <;> omega) | (simp_all; done)
              · exact allTo_step h1 h3 (by simpa using b5)
              · first | omega | rfl | (intro hg; simp only [nrmT] at hg; omega) | (intro g1 g2; simp [g1, g2]; done) | (intro g1; simp at g1 ⊢; simp [g1]; done) | (simp only [nrmT] at *; omega) | (simp at * <;> omega) | (simp_all <;> omega) | (simp_all; done)
            · first | (show _ < _; omega) | (simp only [l_eqIntS_mJ0]; omega) | (simp only [l_eqIntS_mJ0] at *; simp at *; omega)
      · intro b6
        try simp only [nrmT] at b6
        rw [← beq_of_all (d := 0) h4, ← h3]; congr 1; omega
theorem l_eqIntS_pc (xs : List Int) (ys : List Int)  : PC Try.prog 43 [.sl (.ints xs), .sl (.ints ys)] (.one (.d (.bool (xs == ys)))) :=
  pc_wf @Try.call43 fun hw => pc_by (by kernel_rfl) Try.func43 @Try.call43 (by kernel_rfl) l_eqIntS_C (l_eqIntS_A xs ys) (by kernel_rfl) (l_eqIntS_vc xs ys hw.1 hw.2.1) (by kernel_rfl)
def l_eqIntS_orc : List D → Orc := orcN [some .ints, some .ints] fun ds => match ds with
  | [.sl (.ints xs), .sl (.ints ys)] => some (.one (.d (.bool (xs == ys))))
  | _ => none

abbrev l_eqIntSS_JJ0 (xs : List (List Int)) (ys : List (List Int)) (i : Int) : Prop := (0 ≤ i) ∧ (i ≤ (xs.length : Int)) ∧ (allTo (fun k => xs.getD k [] == ys.getD k []) i.toNat = true) ∧ (xs.length = ys.length)
abbrev l_eqIntSS_mJ0 (xs : List (List Int)) (ys : List (List Int)) (i : Int) : Nat := (xs.length - i).toNat
def l_eqIntSS_C (f : FuncId) (ds : List D) : Orc := bif Nat.beq f 43 then l_eqIntS_orc ds else .no
def l_eqIntSS_A (xs : List (List Int)) (ys : List (List Int)) : Ann := .two (.none) (.two (.none) (.two (.two (.none) (.loop (cut1 (fun (i : Int) => l_eqIntSS_JJ0 xs ys i) (fun (i : Int) => [(0, .d false (.sl (.rows xs))), (1, .d false (.sl (.rows ys))), (5, .d true (.int .i64 i))]) (fun (i : Int) => [])) (fun g => l_eqIntSS_mJ0 xs ys g) (fun _ => .none))) (.none)))
def l_eqIntSS_P (xs : List (List Int)) (ys : List (List Int)) : Prop :=
  ((((xs.length : Int) != (ys.length : Int)) = true → ((false = (xs == ys)))) ∧ (((xs.length : Int) != (ys.length : Int)) = false → ((∃ i' : Int, (l_eqIntSS_JJ0 xs ys i') ∧ (xs = xs) ∧ (ys = ys) ∧ ((0 : Int) = i')) ∧ (∀ i : Int, (l_eqIntSS_JJ0 xs ys i) → (((decide (i < (xs.length : Int))) = true → (true = true) ∧ ((0 : Int) ≤ i) ∧ ((i : Int) < xs.length) ∧ (i.toNat < xs.length) ∧ ((0 : Int) ≤ i) ∧ ((i : Int) < ys.length) ∧ (i.toNat < ys.length) ∧ (PC Try.prog 43 [.sl (.ints (xs.getD i.toNat [])), .sl (.ints (ys.getD i.toNat []))] (.one (.d (.bool ((xs.getD i.toNat []) == (ys.getD i.toNat [])))))) ∧ (((!((xs.getD i.toNat []) == (ys.getD i.toNat []))) = true → ((false = (xs == ys)))) ∧ ((!((xs.getD i.toNat []) == (ys.getD i.toNat []))) = false → (-9223372036854775808 ≤ (i + 1) ∧ (i + 1) ≤ 9223372036854775807) ∧ (∃ i' : Int, (l_eqIntSS_JJ0 xs ys i') ∧ (l_eqIntSS_mJ0 xs ys i' < l_eqIntSS_mJ0 xs ys i) ∧ (xs = xs) ∧ (ys = ys) ∧ ((i + 1) = i'))))) ∧ ((decide (i < (xs.length : Int))) = false → ((true = (xs == ys)))))))))
theorem l_eqIntSS_vc (xs : List (List Int)) (ys : List (List Int))  (w_xs : (xs.length : Int) ≤ 9223372036854775807) (v_xs : ∀ x9 ∈ xs, (x9.length : Int) ≤ 9223372036854775807) (w_ys : (ys.length : Int) ≤ 9223372036854775807) (v_ys : ∀ x9 ∈ ys, (x9.length : Int) ≤ 9223372036854775807) : l_eqIntSS_P xs ys := by
  unfold l_eqIntSS_P
  refine ⟨?_, ?_⟩
  · intro b1
    try simp only [nrmT] at b1
    exact (len_ne (by omega)).symm
  · intro b2
    try simp only [nrmT] at b2
    refine ⟨?_, ?_⟩
    · refine ⟨0, ?_⟩
      refine ⟨?_, rfl, rfl, rfl⟩
      · refine ⟨?_, ?_, ?_, ?_⟩
        · first | omega | rfl | (intro hg; simp only [nrmT] at hg; omega) | (intro g1 g2; simp [g1, g2]; done) | (intro g1; simp at g1 ⊢; simp [g1]; done) | (simp only [nrmT] at *; omega) | (simp at * <;> omega) | (simp_all <;> omega) | (simp_all; done)
        · first | omega | rfl | (intro hg; simp only [nrmT] at hg; omega) | (intro g1 g2; simp [g1, g2]; done) | (intro g1; simp at g1 ⊢; simp [g1]; done) | (simp only [nrmT] at *; omega) | (simp at * <;> omega) | (simp_all <;> omega) | (simp_all; done)
        · first | omega | rfl | (intro hg; simp only [nrmT] at hg; omega) | (intro g1 g2; simp [g1, g2]; done) | (intro g1; simp at g1 ⊢; simp [g1]; done) | (simp only [nrmT] at *; omega) | (simp at * <;> omega) | (simp_all <;> omega) | (simp_all; done)
        · first | omega | rfl | (intro hg; simp only [nrmT] at hg; omega) | (intro g1 g2; simp [g1, g2]; done) | (intro g1; simp at g1 ⊢; simp [g1]; done) | (simp only [nrmT] at *; omega) | (simp at * <;> omega) | (simp_all <;> omega) | (simp_all; done)
    · intro i hJ
      obtain ⟨h1, h2, h3, h4⟩ := hJ
      refine ⟨?_, ?_⟩
      · intro b3
        try simp only [nrmT] at b3
        refine ⟨rfl, ?_, ?_, ?_, ?_, ?_, ?_, l_eqIntS_pc (xs.getD i.toNat []) (ys.getD i.toNat []), ?_, ?_⟩
        · first | omega | rfl | (intro hg; simp only [nrmT] at hg; omega) | (intro g1 g2; simp [g1, g2]; done) | (intro g1; simp at g1 ⊢; simp [g1]; done) | (simp only [nrmT] at *; omega) | (simp at * <;> omega) | (simp_all <;> omega) | (simp_all; done)
        · first | omega | rfl | (intro hg; simp only [nrmT] at hg; omega) | (intro g1 g2; simp [g1, g2]; done) | (intro g1; simp at g1 ⊢; simp [g1]; done) | (simp only [nrmT] at *; omega) | (simp at * <;> omega) | (simp_all <;> omega) | (simp_all; done)
        · first | omega | rfl | (intro hg; simp only [nrmT] at hg; omega) | (intro g1 g2; simp [g1, g2]; done) | (intro g1; simp at g1 ⊢; simp [g1]; done) | (simp only [nrmT] at *; omega) | (simp at * <;> omega) | (simp_all <;> omega) | (simp_all; done)
        · first | omega | rfl | (intro hg; simp only [nrmT] at hg; omega) | (intro g1 g2; simp [g1, g2]; done) | (intro g1; simp at g1 ⊢; simp [g1]; done) | (simp only [nrmT] at *; omega) | (simp at * <;> omega) | (simp_all <;> omega) | (simp_all; done)
        · first | omega | rfl | (intro hg; simp only [nrmT] at hg; omega) | (intro g1 g2; simp [g1, g2]; done) | (intro g1; simp at g1 ⊢; simp [g1]; done) | (simp only [nrmT] at *; omega) | (simp at * <;> omega) | (simp_all <;> omega) | (simp_all; done)
        · first | omega | rfl | (intro hg; simp only [nrmT] at hg; omega) | (intro g1 g2; simp [g1, g2]; done) | (intro g1; simp at g1 ⊢; simp [g1]; done) | (simp only [nrmT] at *; omega) | (simp at * <;> omega) | (simp_all <;> omega) | (simp_all; done)
        · intro b4
          try simp only [nrmT] at b4
          rw [← beq_of_all (d := []) h4]; exact (allTo_falseI h1 (by omega) (by simpa using b4)).symm
        · intro b5
          try simp only [nrmT] at b5
          refine ⟨?_, ?_⟩
          · first | omega | rfl | (intro hg; simp only [nrmT] at hg; omega) | (intro g1 g2; simp [g1, g2]; done) | (intro g1; simp at g1 ⊢; simp [g1]; done) | (simp only [nrmT] at *; omega) | (simp at * <;> omega) | (simp_all <;> omega) | (simp_all; done)
          · refine ⟨(i + 1), ?_⟩
            refine ⟨?_, ?_, rfl, rfl, rfl⟩
            · refine ⟨?_, ?_, ?_, ?_⟩
              · first | omega | rfl | (intro hg; simp only [nrmT] at hg; omega) | (intro g1 g2; simp [g1, g2]; done) | (intro g1; simp at g1 ⊢; simp [g1]; done) | (simp only [nrmT] at *; omega) | (simp at * <;> omega) | (simp_all <;> omega) | (simp_all; done)
              · first | omega | rfl | (intro hg; simp only [nrmT] at hg; omega) | (intro g1 g2; simp [g1, g2]; done) | (intro g1; simp at g1 ⊢; simp [g1]; done) | (simp only [nrmT] at *; omega) | (simp at * <;> omega) | (simp_all <;> omega) | (simp_all; done)
              · exact allTo_step h1 h3 (by simpa using b5)
              · first | omega | rfl | (intro hg; simp only [nrmT] at hg; omega) | (intro g1 g2; simp [g1, g2]; done) | (intro g1; simp at g1 ⊢; simp [g1]; done) | (simp only [nrmT] at *; omega) | (simp at * <;> omega) | (simp_all <;> omega) | (simp_all; done)
            · first | (show _ < _; omega) | (simp only [l_eqIntSS_mJ0]; omega) | (simp only [l_eqIntSS_mJ0] at *; simp at *; omega)
      · intro b6
        try simp only [nrmT] at b6
        rw [← beq_of_all (d := []) h4, ← h3]; congr 1; omega
theorem l_eqIntSS_pc (xs : List (List Int)) (ys : List (List Int))  : PC Try.prog 91 [.sl (.rows xs), .sl (.rows ys)] (.one (.d (.bool (xs == ys)))) :=
  pc_wf @Try.call91 fun hw => pc_by (by kernel_rfl) Try.func91 @Try.call91 (by kernel_rfl) l_eqIntSS_C (l_eqIntSS_A xs ys) (by kernel_rfl) (l_eqIntSS_vc xs ys hw.1.1 hw.1.2 hw.2.1.1 hw.2.1.2) (by kernel_rfl)
def l_eqIntSS_orc : List D → Orc := orcN [some .rows, some .rows] fun ds => match ds with
  | [.sl (.rows xs), .sl (.rows ys)] => some (.one (.d (.bool (xs == ys))))
  | _ => none

def l_eqSystem_C (f : FuncId) (ds : List D) : Orc := bif Nat.beq f 91 then l_eqIntSS_orc ds else bif Nat.beq f 43 then l_eqIntS_orc ds else .no
def l_eqSystem_A (n1 : Int) (s1 : List (List Int)) (c1 : List Int) (n2 : Int) (s2 : List (List Int)) (c2 : List Int) : Ann := .none
def l_eqSystem_P (n1 : Int) (s1 : List (List Int)) (c1 : List Int) (n2 : Int) (s2 : List (List Int)) (c2 : List Int) : Prop :=
  (((n1 != n2) = true → ((false = ((n1 == n2) && (s1 == s2) && (c1 == c2))))) ∧ ((n1 != n2) = false → (PC Try.prog 91 [.sl (.rows s1), .sl (.rows s2)] (.one (.d (.bool (s1 == s2))))) ∧ (((!(s1 == s2)) = true → ((false = ((n1 == n2) && (s1 == s2) && (c1 == c2))))) ∧ ((!(s1 == s2)) = false → (PC Try.prog 43 [.sl (.ints c1), .sl (.ints c2)] (.one (.d (.bool (c1 == c2))))) ∧ (((!(c1 == c2)) = true → ((false = ((n1 == n2) && (s1 == s2) && (c1 == c2))))) ∧ ((!(c1 == c2)) = false → ((true = ((n1 == n2) && (s1 == s2) && (c1 == c2))))))))))
theorem l_eqSystem_vc (n1 : Int) (s1 : List (List Int)) (c1 : List Int) (n2 : Int) (s2 : List (List Int)) (c2 : List Int)  (w_s1 : (s1.length : Int) ≤ 9223372036854775807) (v_s1 : ∀ x9 ∈ s1, (x9.length : Int) ≤ 9223372036854775807) (w_c1 : (c1.length : Int) ≤ 9223372036854775807) (w_s2 : (s2.length : Int) ≤ 9223372036854775807) (v_s2 : ∀ x9 ∈ s2, (x9.length : Int) ≤ 9223372036854775807) (w_c2 : (c2.length : Int) ≤ 9223372036854775807) : l_eqSystem_P n1 s1 c1 n2 s2 c2 := by
  unfold l_eqSystem_P
  refine ⟨?_, ?_⟩
  · intro b1
    try simp only [nrmT] at b1
    first | omega | rfl | (intro hg; simp only [nrmT] at hg; omega) | (intro g1 g2; simp [g1, g2]; done) | (intro g1; simp at g1 ⊢; simp [g1]; done) | (simp only [nrmT] at *; omega) | (simp at * <;> omega) | (simp_all <;> omega) | (simp_all; done)
  · intro b2
    try simp only [nrmT] at b2
    refine ⟨l_eqIntSS_pc s1 s2, ?_, ?_⟩
    · intro b3
      try simp only [nrmT] at b3
      first | omega | rfl | (intro hg; simp only [nrmT] at hg; omega) | (intro g1 g2; simp [g1, g2]; done) | (intro g1; simp at g1 ⊢; simp [g1]; done) | (simp only [nrmT] at *; omega) | (simp at * <;> omega) | (simp_all <;> omega) | (simp_all; done)
    · intro b4
      try simp only [nrmT] at b4
      refine ⟨l_eqIntS_pc c1 c2, ?_, ?_⟩
      · intro b5
        try simp only [nrmT] at b5
        first | omega | rfl | (intro hg; simp only [nrmT] at hg; omega) | (intro g1 g2; simp [g1, g2]; done) | (intro g1; simp at g1 ⊢; simp [g1]; done) | (simp only [nrmT] at *; omega) | (simp at * <;> omega) | (simp_all <;> omega) | (simp_all; done)
      · intro b6
        try simp only [nrmT] at b6
        first | omega | rfl | (intro hg; simp only [nrmT] at hg; omega) | (intro g1 g2; simp [g1, g2]; done) | (intro g1; simp at g1 ⊢; simp [g1]; done) | (simp only [nrmT] at *; omega) | (simp at * <;> omega) | (simp_all <;> omega) | (simp_all; done)
theorem l_eqSystem_pc (n1 : Int) (s1 : List (List Int)) (c1 : List Int) (n2 : Int) (s2 : List (List Int)) (c2 : List Int)  : PC Try.prog 29 [.agg [.int .i64 n1, .sl (.rows s1), .sl (.ints c1)], .agg [.int .i64 n2, .sl (.rows s2), .sl (.ints c2)]] (.one (.d (.bool ((n1 == n2) && (s1 == s2) && (c1 == c2))))) :=
  pc_wf @Try.call29 fun hw => pc_by (by kernel_rfl) Try.func29 @Try.call29 (by kernel_rfl) l_eqSystem_C (l_eqSystem_A n1 s1 c1 n2 s2 c2) (by kernel_rfl) (l_eqSystem_vc n1 s1 c1 n2 s2 c2 hw.1.2.1.1 hw.1.2.1.2 hw.1.2.2.1 hw.2.1.2.1.1 hw.2.1.2.1.2 hw.2.1.2.2.1) (by kernel_rfl)
def l_eqSystem_orc : List D → Orc := orcN [none, none] fun ds => match ds with
  | [.agg [.int .i64 n1, .sl (.rows s1), .sl (.ints c1)], .agg [.int .i64 n2, .sl (.rows s2), .sl (.ints c2)]] => some (.one (.d (.bool ((n1 == n2) && (s1 == s2) && (c1 == c2)))))
  | _ => none

def l_FnExactIsSystem_C (f : FuncId) (ds : List D) : Orc := bif Nat.beq f 25 then l_szSystem_orc ds else bif Nat.beq f 27 then l_toSystem_orc ds else bif Nat.beq f 26 then s_IsSystem_orc ds else bif Nat.beq f 28 then i_IsSystem_orc ds else bif Nat.beq f 29 then l_eqSystem_orc ds else .no
def l_FnExactIsSystem_A (Size : Int) (Sets : List (List Int)) (Costs : List Int) : Ann := .none
def l_FnExactIsSystem_P (Size : Int) (Sets : List (List Int)) (Costs : List Int) : Prop :=
  (PC Try.prog 25 [.agg [.int .i64 Size, .sl (.rows Sets), .sl (.ints Costs)], .int .i64 1048576] (.one (.d (.int .i64 (szSys Sets Costs 1048576))))) ∧ (((decide ((szSys Sets Costs 1048576) < 0)) = true → ((true = true))) ∧ ((decide ((szSys Sets Costs 1048576) < 0)) = false → (PC Try.prog 27 [.agg [.int .i64 Size, .sl (.rows Sets), .sl (.ints Costs)]] (.one (.d (.agg [.int .i64 Size, .sl (.rows Sets), .sl (.ints Costs)])))) ∧ (PC Try.prog 26 [.agg [.int .i64 Size, .sl (.rows Sets), .sl (.ints Costs)]] (.one (.d (.bool (goodSys Size Sets Costs))))) ∧ (PC Try.prog 27 [.agg [.int .i64 Size, .sl (.rows Sets), .sl (.ints Costs)]] (.one (.d (.agg [.int .i64 Size, .sl (.rows Sets), .sl (.ints Costs)])))) ∧ (PC Try.prog 28 [.agg [.int .i64 Size, .sl (.rows Sets), .sl (.ints Costs)]] (.one (.d (.bool (goodSys Size Sets Costs))))) ∧ ((((goodSys Size Sets Costs) != (goodSys Size Sets Costs)) = true → ((false = true))) ∧ (((goodSys Size Sets Costs) != (goodSys Size Sets Costs)) = false → (true = true) ∧ (PC Try.prog 27 [.agg [.int .i64 Size, .sl (.rows Sets), .sl (.ints Costs)]] (.one (.d (.agg [.int .i64 Size, .sl (.rows Sets), .sl (.ints Costs)])))) ∧ (PC Try.prog 29 [.agg [.int .i64 Size, .sl (.rows Sets), .sl (.ints Costs)], .agg [.int .i64 Size, .sl (.rows Sets), .sl (.ints Costs)]] (.one (.d (.bool ((Size == Size) && (Sets == Sets) && (Costs == Costs)))))) ∧ (((!((Size == Size) && (Sets == Sets) && (Costs == Costs))) = true → ((false = true))) ∧ ((!((Size == Size) && (Sets == Sets) && (Costs == Costs))) = false → ((true = true))))))))
theorem l_FnExactIsSystem_vc (Size : Int) (Sets : List (List Int)) (Costs : List Int)  (w_Sets : (Sets.length : Int) ≤ 9223372036854775807) (v_Sets : ∀ x9 ∈ Sets, (x9.length : Int) ≤ 9223372036854775807) (w_Costs : (Costs.length : Int) ≤ 9223372036854775807) : l_FnExactIsSystem_P Size Sets Costs := by
  unfold l_FnExactIsSystem_P
  refine ⟨?_, ?_, ?_⟩
  · refine l_szSystem_pc Size Sets Costs 1048576 ?_
    · first | omega | rfl | (intro hg; simp only [nrmT] at hg; omega) | (intro g1 g2; simp [g1, g2]; done) | (intro g1; simp at g1 ⊢; simp [g1]; done) | (simp only [nrmT] at *; omega) | (simp at * <;> omega) | (simp_all <;> omega) | (simp_all; done)
  · intro b1
    try simp only [nrmT] at b1
    exact rfl
  · intro b2
    try simp only [nrmT] at b2
    refine ⟨?_, s_IsSystem_pc Size Sets Costs, ?_, i_IsSystem_pc Size Sets Costs, ?_, ?_⟩
    · refine l_toSystem_pc Size Sets Costs ?_ ?_ ?_
      · have := szSys_bound b2; omega
      · have h := (szSys_bound b2).2.1
        intro xs hx
        have := h xs hx
        omega
      · have := szSys_bound b2; omega
    · refine l_toSystem_pc Size Sets Costs ?_ ?_ ?_
      · have := szSys_bound b2; omega
      · have h := (szSys_bound b2).2.1
        intro xs hx
        have := h xs hx
        omega
      · have := szSys_bound b2; omega
    · intro b3
      try simp only [nrmT] at b3
      first | omega | rfl | (intro hg; simp only [nrmT] at hg; omega) | (intro g1 g2; simp [g1, g2]; done) | (intro g1; simp at g1 ⊢; simp [g1]; done) | (simp only [nrmT] at *; omega) | (simp at * <;> omega) | (simp_all <;> omega) | (simp_all; done)
    · intro b4
      try simp only [nrmT] at b4
      refine ⟨rfl, ?_, l_eqSystem_pc Size Sets Costs Size Sets Costs, ?_, ?_⟩
      · refine l_toSystem_pc Size Sets Costs ?_ ?_ ?_
        · have := szSys_bound b2; omega
        · have h := (szSys_bound b2).2.1
          intro xs hx
          have := h xs hx
          omega
        · have := szSys_bound b2; omega
      · intro b5
        try simp only [Bool.not_eq_true', Bool.not_eq_false', Bool.not_not] at b5
        first | omega | rfl | (intro hg; simp only [nrmT] at hg; omega) | (intro g1 g2; simp [g1, g2]; done) | (intro g1; simp at g1 ⊢; simp [g1]; done) | (simp only [nrmT] at *; omega) | (simp at * <;> omega) | (simp_all <;> omega) | (simp_all; done)
      · intro b6
        try simp only [Bool.not_eq_true', Bool.not_eq_false', Bool.not_not] at b6
        exact rfl
theorem l_FnExactIsSystem_pc (Size : Int) (Sets : List (List Int)) (Costs : List Int)  : PC Try.prog 4 [.agg [.int .i64 Size, .sl (.rows Sets), .sl (.ints Costs)]] (.one (.d (.bool true))) :=
  pc_wf @Try.call4 fun hw => pc_by (by kernel_rfl) Try.func4 @Try.call4 (by kernel_rfl) l_FnExactIsSystem_C (l_FnExactIsSystem_A Size Sets Costs) (by kernel_rfl) (l_FnExactIsSystem_vc Size Sets Costs hw.1.2.1.1 hw.1.2.1.2 hw.1.2.2.1) (by kernel_rfl)
def l_FnExactIsSystem_orc : List D → Orc := orcN [none] fun ds => match ds with
  | [.agg [.int .i64 Size, .sl (.rows Sets), .sl (.ints Costs)]] => some (.one (.d (.bool true)))
  | _ => none

end Go.Proofs.Ytmcbcomcejgbcaa
