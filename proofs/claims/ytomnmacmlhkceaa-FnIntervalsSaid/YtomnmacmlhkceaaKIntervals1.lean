/- Contracts of the functions that the law reaches. -/
import Derived.Test.YtomnmacmlhkceaaPw
import Derived.Test.YtomnmacmlhkceaaPma
import Derived.Test.YtomnmacmlhkceaaProg
import Derived.KernelRfl
set_option linter.unusedVariables false
set_option linter.unusedSimpArgs false
namespace Go.Proofs.Ytomnmacmlhkceaa
open Go

def s_l1In_C (f : FuncId) (ds : List D) : Orc := .no
def s_l1In_A (x : Int) (a : Int) (b : Int) : Ann := .none
def s_l1In_P (x : Int) (a : Int) (b : Int) : Prop :=
  ((decide (x ≥ a)) = true → (decide (x ≥ a)) = true) ∧ ((decide (x ≥ a)) = true → (decide (x ≥ a)) = true) ∧ (true = true) ∧ (((decide (x ≥ a)) = true → (decide (x ≥ a)) = true)) ∧ (((decide (x ≥ a)) = false → true = true)) ∧ (((cond (decide (x ≥ a)) (decide (x ≤ b)) false) = (inB x a b)))
theorem s_l1In_vc (x : Int) (a : Int) (b : Int)   : s_l1In_P x a b := by
  unfold s_l1In_P
  refine ⟨id, id, rfl, id, fun _ => rfl, ?_⟩
  · first | omega | rfl | (intro hg; simp only [nrmT] at hg; omega) | (intro g1 g2; simp [g1, g2]; done) | (intro g1; simp at g1 ⊢; simp [g1]; done) | (simp only [nrmT] at *; omega) | (simp at * <;> omega) | (simp_all <;> omega) | (simp_all; done) | (simp [inB]; omega) | (simp only [inB]; by_cases h : a ≤ x <;> simp_all)
theorem s_l1In_pc (x : Int) (a : Int) (b : Int)  : PC Try.prog 116 [.int .i64 x, .int .i64 a, .int .i64 b] (.one (.d (.bool (inB x a b)))) :=
  pc_wf @Try.call116 fun _ => pc_by (by kernel_rfl) Try.func116 @Try.call116 (by kernel_rfl) s_l1In_C (s_l1In_A x a b) (by kernel_rfl) (s_l1In_vc x a b) (by kernel_rfl)
def s_l1In_orc : List D → Orc := orcN [none, none, none] fun ds => match ds with
  | [.int .i64 x, .int .i64 a, .int .i64 b] => some (.one (.d (.bool (inB x a b))))
  | _ => none
def i_between_C (f : FuncId) (ds : List D) : Orc := .no
def i_between_A (x : Int) (a : Int) (b : Int) : Ann := .none
def i_between_P (x : Int) (a : Int) (b : Int) : Prop :=
  ((decide (x ≥ a)) = true → (decide (x ≥ a)) = true) ∧ ((decide (x ≥ a)) = true → (decide (x ≥ a)) = true) ∧ (true = true) ∧ (((decide (x ≥ a)) = true → (decide (x ≥ a)) = true)) ∧ (((decide (x ≥ a)) = false → true = true)) ∧ (((cond (decide (x ≥ a)) (decide (x ≤ b)) false) = (inB x a b)))
theorem i_between_vc (x : Int) (a : Int) (b : Int)   : i_between_P x a b := by
  unfold i_between_P
  refine ⟨id, id, rfl, id, fun _ => rfl, ?_⟩
  · first | omega | rfl | (intro hg; simp only [nrmT] at hg; omega) | (intro g1 g2; simp [g1, g2]; done) | (intro g1; simp at g1 ⊢; simp [g1]; done) | (simp only [nrmT] at *; omega) | (simp at * <;> omega) | (simp_all <;> omega) | (simp_all; done) | (simp [inB]; omega) | (simp only [inB]; by_cases h : a ≤ x <;> simp_all)
theorem i_between_pc (x : Int) (a : Int) (b : Int)  : PC Try.prog 120 [.int .i64 x, .int .i64 a, .int .i64 b] (.one (.d (.bool (inB x a b)))) :=
  pc_wf @Try.call120 fun _ => pc_by (by kernel_rfl) Try.func120 @Try.call120 (by kernel_rfl) i_between_C (i_between_A x a b) (by kernel_rfl) (i_between_vc x a b) (by kernel_rfl)
def i_between_orc : List D → Orc := orcN [none, none, none] fun ds => match ds with
  | [.int .i64 x, .int .i64 a, .int .i64 b] => some (.one (.d (.bool (inB x a b))))
  | _ => none
theorem len_le (m n : Nat) : decide ((m : Int) ≤ (n : Int)) = decide (m ≤ n) := by
  rw [Bool.eq_iff_iff]; simp only [decide_eq_true_eq]; omega
theorem all_end {α : Type} {p : α → Bool} {d : α} {xs : List α} {i : Int} (h2 : (xs.length : Int) ≤ i) (h2' : i ≤ (xs.length : Int)) (h3 : allTo (fun k => p (xs.getD k d)) i.toNat = true) : xs.all p = true := by
  have e : i.toNat = xs.length := by omega
  rw [e, allTo_list] at h3; exact h3
theorem all_no {α : Type} {p : α → Bool} {d : α} {xs : List α} {i : Int} (h0 : 0 ≤ i) (h : i < (xs.length : Int)) (h3 : p (xs.getD i.toNat d) = false) : xs.all p = false := by
  rw [← allTo_list (d := d)]; exact allTo_falseI h0 h h3
theorem inB_le {x lo hi : Int} (h : inB x lo hi = true) : lo ≤ x ∧ x ≤ hi := of_decide_eq_true h
theorem beq_of_all {α : Type} [BEq α] [LawfulBEq α] {d : α} {xs ys : List α} (hl : xs.length = ys.length) : allTo (fun k => xs.getD k d == ys.getD k d) xs.length = (xs == ys) := by
  rw [Bool.eq_iff_iff, allTo_iff]
  simp only [beq_iff_eq]
  constructor
  · intro h
    refine List.ext_getElem hl fun k h1 h2 => ?_
    have := h k h1
    simpa [h1, h2] using this
  · intro h k _
    rw [h]
theorem len_ne {α : Type} [BEq α] [LawfulBEq α] {xs ys : List α} (h : ¬ xs.length = ys.length) : (xs == ys) = false := by
  rw [Bool.eq_false_iff]; intro h2; simp only [beq_iff_eq] at h2; exact h (by rw [h2])
def closeAt (Dist : List (List Int)) (r : Int) (i j a : Nat) : Bool := decide ((Dist.getD i []).getD a 0 ≤ r) && decide ((Dist.getD j []).getD a 0 ≤ r)
def apart (n : Nat) (Dist : List (List Int)) (i j r : Int) : Bool := allTo (fun a => !(closeAt Dist r i.toNat j.toNat a)) n
theorem getD_get {α : Type} {xs : List α} {k : Nat} {d : α} (h : k < xs.length) : xs.getD k d = xs[k] := by simp [h]
def ivBad (x : Int × Int) : Bool := decide (x.1 < 0) || decide (x.1 > x.2) || decide (x.2 > 99)
def goodIvs (list : List (Int × Int)) : Bool := decide (list.length ≤ 12) && list.all (fun x => !(ivBad x))
theorem goodIvs_len {list : List (Int × Int)} (h : goodIvs list = true) : list.length ≤ 12 := by
  simp only [goodIvs, Bool.and_eq_true, decide_eq_true_eq] at h
  exact h.1
theorem goodIvs_at {list : List (Int × Int)} (h : goodIvs list = true) {k : Nat} (hk : k < list.length) : 0 ≤ (list.getD k (0, 0)).1 ∧ (list.getD k (0, 0)).1 ≤ (list.getD k (0, 0)).2 ∧ (list.getD k (0, 0)).2 ≤ 99 := by
  simp only [goodIvs, Bool.and_eq_true, decide_eq_true_eq] at h
  have h2 := List.all_eq_true.1 h.2 _ (getD_mem (d := (0, 0)) hk)
  simp only [ivBad, Bool.not_eq_true', Bool.or_eq_false_iff, decide_eq_false_iff_not] at h2
  omega
def stabbed (a b : Int) (points : List Int) : Bool := points.any (fun p => inB p a b)
def nextF (list : List (Int × Int)) (points : List Int) (b : Int) (i : Nat) : Int :=
  if (!(stabbed (list.getD i (0, 0)).1 (list.getD i (0, 0)).2 points) && (decide (b < 0) || decide ((list.getD i (0, 0)).2 < (list.getD b.toNat (0, 0)).2))) = true then (i : Int) else b
def nextTo (list : List (Int × Int)) (points : List Int) (k : Nat) : Int := foldTo (nextF list points) (-1) k
def nextIv (list : List (Int × Int)) (points : List Int) : Int := nextTo list points list.length
def openAt (list : List (Int × Int)) (points : List Int) (i : Nat) : Bool := !(stabbed (list.getD i (0, 0)).1 (list.getD i (0, 0)).2 points)
theorem nextTo_succ (list : List (Int × Int)) (points : List Int) (k : Nat) : nextTo list points (k + 1) = nextF list points (nextTo list points k) k := rfl
theorem nextTo_facts (list : List (Int × Int)) (points : List Int) : ∀ k, (-1 ≤ nextTo list points k ∧ nextTo list points k < k ∨ nextTo list points k = -1) ∧ (0 ≤ nextTo list points k → openAt list points (nextTo list points k).toNat = true) ∧ (nextTo list points k < 0 → ∀ j, j < k → openAt list points j = false)
  | 0 => ⟨.inr rfl, fun h => by simp [nextTo, foldTo] at h, fun _ j hj => by omega⟩
  | k + 1 => by
    obtain ⟨h1, h2, h3⟩ := nextTo_facts list points k
    rw [nextTo_succ]
    unfold nextF
    split
    · rename_i h
      refine ⟨.inl (by omega), fun _ => ?_, fun h => by omega⟩
      rw [Bool.and_eq_true] at h
      rw [Int.toNat_natCast]
      exact h.1
    · rename_i h
      refine ⟨by omega, h2, fun hlt j hj => ?_⟩
      by_cases e : j = k
      · subst e
        unfold openAt
        cases hs : stabbed (list.getD j (0, 0)).1 (list.getD j (0, 0)).2 points with
        | true => rfl
        | false => rw [hs, decide_eq_true hlt] at h; simp at h
      · exact h3 hlt j (by omega)
def unst (list : List (Int × Int)) (points : List Int) : Nat := (members (openAt list points) list.length).length
theorem members_sub {p q : Nat → Bool} : ∀ n, (∀ k, k < n → q k = true → p k = true) → (members q n).length ≤ (members p n).length
  | 0, _ => by simp [members]
  | n + 1, h => by
    have ih := members_sub n fun k hk => h k (by omega)
    rw [members_succ, members_succ, List.length_append, List.length_append]
    by_cases hq : q n = true
    · rw [if_pos hq, if_pos (h n (by omega) hq)]; omega
    · rw [if_neg hq]; simp only [List.length_nil]; omega
theorem members_less {p q : Nat → Bool} : ∀ n, (∀ k, k < n → q k = true → p k = true) → (∃ k, k < n ∧ p k = true ∧ q k = false) → (members q n).length < (members p n).length
  | 0, _, h => by obtain ⟨k, hk, _⟩ := h; omega
  | n + 1, h, ⟨k, hk, h1, h2⟩ => by
    rw [members_succ, members_succ, List.length_append, List.length_append]
    by_cases e : k = n
    · subst e
      have ih := members_sub k fun j hj => h j (by omega)
      rw [if_pos h1, h2]; simp; omega
    · have ih := members_less n (fun j hj => h j (by omega)) ⟨k, by omega, h1, h2⟩
      by_cases hq : q n = true
      · rw [if_pos hq, if_pos (h n (by omega) hq)]; omega
      · rw [if_neg hq]; simp only [List.length_nil]; omega
theorem nextIv_facts (list : List (Int × Int)) (points : List Int) : -1 ≤ nextIv list points ∧ nextIv list points < list.length := by
  have := (nextTo_facts list points list.length).1
  unfold nextIv; omega
theorem unst_step {list : List (Int × Int)} (hg : goodIvs list = true) {points : List Int} (h : 0 ≤ nextIv list points) : unst list (points ++ [(list.getD (nextIv list points).toNat (0, 0)).2]) < unst list points := by
  have h1 := nextIv_facts list points
  have h2 := (nextTo_facts list points list.length).2.1 h
  have h3 := goodIvs_at hg (k := (nextIv list points).toNat) (by omega)
  refine members_less _ (fun k hk hq => ?_) ⟨(nextIv list points).toNat, by omega, h2, ?_⟩
  · unfold openAt stabbed at hq ⊢
    rw [List.any_append] at hq
    revert hq
    cases points.any (fun p => inB p (list.getD k (0, 0)).1 (list.getD k (0, 0)).2) <;> simp
  · unfold openAt stabbed
    rw [List.any_append]
    have : inB (list.getD (nextIv list points).toNat (0, 0)).2 (list.getD (nextIv list points).toNat (0, 0)).1 (list.getD (nextIv list points).toNat (0, 0)).2 = true := decide_eq_true (by omega)
    simp only [List.any_cons, this, Bool.true_or, Bool.or_true, Bool.not_true]
def stabF (list : List (Int × Int)) : Nat → List Int → List Int → List Int × List Int
  | 0, p, f => (p, f)
  | n + 1, p, f => if nextIv list p < 0 then (p, f) else stabF list n (p ++ [(list.getD (nextIv list p).toNat (0, 0)).2]) (f ++ [nextIv list p])
theorem nextIv_stop {list : List (Int × Int)} {p : List Int} (h : unst list p = 0) : nextIv list p < 0 := by
  by_cases e : nextIv list p < 0
  · exact e
  · have h1 := nextIv_facts list p
    have h2 := (nextTo_facts list p list.length).2.1 (by unfold nextIv at *; omega)
    have h3 : nextIv list p ∈ members (openAt list p) list.length := mem_members.2 ⟨by omega, by omega, h2⟩
    have h4 : members (openAt list p) list.length = [] := List.eq_nil_of_length_eq_zero h
    rw [h4] at h3; cases h3
theorem stabF_stable {list : List (Int × Int)} (hg : goodIvs list = true) : ∀ n m p f, unst list p ≤ n → unst list p ≤ m → stabF list n p f = stabF list m p f
  | 0, 0, _, _, _, _ => rfl
  | 0, m + 1, p, f, h1, _ => by
    have := nextIv_stop (list := list) (p := p) (by omega)
    simp [stabF, this]
  | n + 1, 0, p, f, _, h2 => by
    have := nextIv_stop (list := list) (p := p) (by omega)
    simp [stabF, this]
  | n + 1, m + 1, p, f, h1, h2 => by
    by_cases h : nextIv list p < 0
    · simp [stabF, h]
    · have h3 := unst_step hg (points := p) (by omega)
      simp only [stabF, if_neg h]
      exact stabF_stable hg n m _ _ (by omega) (by omega)
def stabs (list : List (Int × Int)) (p f : List Int) : List Int × List Int := stabF list (unst list p) p f
theorem stabs_stop {list : List (Int × Int)} {p f : List Int} (h : nextIv list p < 0) : stabs list p f = (p, f) := by
  unfold stabs
  cases unst list p <;> simp [stabF, h]
theorem stabs_step {list : List (Int × Int)} (hg : goodIvs list = true) {p f : List Int} (h : ¬ nextIv list p < 0) : stabs list (p ++ [(list.getD (nextIv list p).toNat (0, 0)).2]) (f ++ [nextIv list p]) = stabs list p f := by
  have h3 := unst_step hg (points := p) (by omega)
  have e : stabs list p f = stabF list (unst list p - 1) (p ++ [(list.getD (nextIv list p).toNat (0, 0)).2]) (f ++ [nextIv list p]) := by
    unfold stabs
    rw [show unst list p = (unst list p - 1) + 1 by omega]
    simp only [stabF, if_neg h, Nat.add_sub_cancel]
  rw [e]
  exact stabF_stable hg _ _ _ _ (Nat.le_refl _) (by omega)
theorem unst_le (list : List (Int × Int)) (p : List Int) : unst list p ≤ list.length := members_len_le _ _
theorem stabF_len {list : List (Int × Int)} : ∀ n p f, (stabF list n p f).1.length ≤ p.length + n ∧ (stabF list n p f).2.length ≤ f.length + n
  | 0, _, _ => ⟨Nat.le_refl _, Nat.le_refl _⟩
  | n + 1, p, f => by
    unfold stabF
    split
    · simp
    · have := stabF_len (list := list) n (p ++ [(list.getD (nextIv list p).toNat (0, 0)).2]) (f ++ [nextIv list p])
      simp only [List.length_append, List.length_cons, List.length_nil] at this
      omega
def stabP (list : List (Int × Int)) : List Int := if goodIvs list = true then (stabs list [] []).1 else []
def stabB (list : List (Int × Int)) : List Int := if goodIvs list = true then (stabs list [] []).2 else []
theorem stabP_len {list : List (Int × Int)} : (stabP list).length ≤ 12 := by
  unfold stabP stabs
  split
  · rename_i h
    have := stabF_len (list := list) (unst list []) [] []
    have := unst_le list []
    have := goodIvs_len h
    simp only [List.length_nil] at *
    omega
  · simp
theorem stabB_len {list : List (Int × Int)} : (stabB list).length ≤ 12 := by
  unfold stabB stabs
  split
  · rename_i h
    have := stabF_len (list := list) (unst list []) [] []
    have := unst_le list []
    have := goodIvs_len h
    simp only [List.length_nil] at *
    omega
  · simp
theorem any_all_not {α : Type} (xs : List α) (p : α → Bool) : (!(xs.any p)) = xs.all (fun x => !(p x)) := by
  induction xs with
  | nil => rfl
  | cons x r ih => simp [← ih]
theorem cond_or3 : ∀ a b c : Bool, cond (cond a true b) true c = (a || b || c) := by decide
theorem cond_and_or : ∀ a b c : Bool, cond a (cond b true c) false = (a && (b || c)) := by decide
def i_areIntervals_1_C (f : FuncId) (ds : List D) : Orc := .no
def i_areIntervals_1_A (a : Int) (b : Int) : Ann := .none
def i_areIntervals_1_P (a : Int) (b : Int) : Prop :=
  ((0 : Int) ≤ 0) ∧ ((0 : Int) < 2) ∧ (((!(decide (a < 0))) = true → (0 : Int) ≤ 0)) ∧ (((!(decide (a < 0))) = true → (0 : Int) < 2)) ∧ ((!(decide (a < 0))) = true → (!(decide (a < 0))) = true) ∧ (((!(decide (a < 0))) = true → (0 : Int) ≤ 1)) ∧ (((!(decide (a < 0))) = true → (1 : Int) < 2)) ∧ ((!(decide (a < 0))) = true → (!(decide (a < 0))) = true) ∧ ((!(decide (a < 0))) = true → (!(decide (a < 0))) = true) ∧ ((!(decide (a < 0))) = true → (!(decide (a < 0))) = true) ∧ (true = true) ∧ (((decide (a < 0)) = true → true = true)) ∧ (((decide (a < 0)) = false → (!(decide (a < 0))) = true)) ∧ (((!(cond (decide (a < 0)) true (decide (a > b)))) = true → (0 : Int) ≤ 1)) ∧ (((!(cond (decide (a < 0)) true (decide (a > b)))) = true → (1 : Int) < 2)) ∧ ((!(cond (decide (a < 0)) true (decide (a > b)))) = true → (!(cond (decide (a < 0)) true (decide (a > b)))) = true) ∧ ((!(cond (decide (a < 0)) true (decide (a > b)))) = true → (!(cond (decide (a < 0)) true (decide (a > b)))) = true) ∧ (true = true) ∧ (((cond (decide (a < 0)) true (decide (a > b))) = true → true = true)) ∧ (((cond (decide (a < 0)) true (decide (a > b))) = false → (!(cond (decide (a < 0)) true (decide (a > b)))) = true)) ∧ (((cond (cond (decide (a < 0)) true (decide (a > b))) true (decide (b > 99))) = (ivBad (a, b))))
theorem i_areIntervals_1_vc (a : Int) (b : Int)   : i_areIntervals_1_P a b := by
  unfold i_areIntervals_1_P
  refine ⟨by decide, by decide, fun _ => by decide, fun _ => by decide, id, fun _ => by decide, fun _ => by decide, id, id, id, rfl, fun _ => rfl, ?_, fun _ => by decide, fun _ => by decide, id, id, rfl, fun _ => rfl, ?_, ?_⟩
  · first | omega | rfl | (intro hg; simp only [nrmT] at hg; omega) | (intro g1 g2; simp [g1, g2]; done) | (intro g1; simp at g1 ⊢; simp [g1]; done) | (simp only [nrmT] at *; omega) | (simp at * <;> omega) | (simp_all <;> omega) | (simp_all; done)
  · first | omega | rfl | (intro hg; simp only [nrmT] at hg; omega) | (intro g1 g2; simp [g1, g2]; done) | (intro g1; simp at g1 ⊢; simp [g1]; done) | (simp only [nrmT] at *; omega) | (simp at * <;> omega) | (simp_all <;> omega) | (simp_all; done)
  · exact cond_or3 _ _ _
theorem i_areIntervals_1_pc (a : Int) (b : Int)  : PC Try.prog 197 [.agg [.int .i64 a, .int .i64 b]] (.one (.d (.bool (ivBad (a, b))))) :=
  pc_wf @Try.call197 fun _ => pc_by (by kernel_rfl) Try.func197 @Try.call197 (by kernel_rfl) i_areIntervals_1_C (i_areIntervals_1_A a b) (by kernel_rfl) (i_areIntervals_1_vc a b) (by kernel_rfl)
def i_areIntervals_1_orc : List D → Orc := orcN [none] fun ds => match ds with
  | [.agg [.int .i64 a, .int .i64 b]] => some (.one (.d (.bool (ivBad (a, b)))))
  | _ => none
abbrev slices_IndexFunc_2_int_2_int_aI_JJ0 (xs : List (Int × Int)) (i : Int) : Prop := (0 ≤ i) ∧ (i ≤ (xs.length : Int)) ∧ (∀ k, k < i.toNat → (ivBad) (xs.getD k (0, 0)) = false)
abbrev slices_IndexFunc_2_int_2_int_aI_mJ0 (xs : List (Int × Int)) (i : Int) : Nat := (xs.length - i).toNat
def slices_IndexFunc_2_int_2_int_aI_C (f : FuncId) (ds : List D) : Orc := bif Nat.beq f 197 then i_areIntervals_1_orc ds else .no
def slices_IndexFunc_2_int_2_int_aI_A (xs : List (Int × Int)) : Ann := .two (.none) (.two (.two (.none) (.loop (cut1 (fun (i : Int) => slices_IndexFunc_2_int_2_int_aI_JJ0 xs i) (fun (i : Int) => [(0, .d false (.sl (.pairs xs))), (1, .d false (.fn 197 0 [])), (7, .d true (.int .i64 (xs.length : Int))), (8, .d true (.int .i64 i))]) (fun (i : Int) => [])) (fun g => slices_IndexFunc_2_int_2_int_aI_mJ0 xs g) (fun _ => .none))) (.none))
def slices_IndexFunc_2_int_2_int_aI_P (xs : List (Int × Int)) : Prop :=
  ((∃ i' : Int, (slices_IndexFunc_2_int_2_int_aI_JJ0 xs i') ∧ (xs = xs) ∧ ((.fn 197 0 [] : D) = (.fn 197 0 [] : D)) ∧ ((xs.length : Int) = (xs.length : Int)) ∧ ((0 : Int) = i')) ∧ (∀ i : Int, (slices_IndexFunc_2_int_2_int_aI_JJ0 xs i) → (((decide (i < (xs.length : Int))) = true → ((0 : Int) ≤ i) ∧ ((i : Int) < xs.length) ∧ (i.toNat < xs.length) ∧ (PC Try.prog 197 [.agg [.int .i64 ((xs.getD i.toNat (0, 0)).1), .int .i64 ((xs.getD i.toNat (0, 0)).2)]] (.one (.d (.bool (ivBad (((xs.getD i.toNat (0, 0)).1), ((xs.getD i.toNat (0, 0)).2))))))) ∧ (((ivBad (((xs.getD i.toNat (0, 0)).1), ((xs.getD i.toNat (0, 0)).2))) = true → ((i = (idxI (ivBad) xs)))) ∧ ((ivBad (((xs.getD i.toNat (0, 0)).1), ((xs.getD i.toNat (0, 0)).2))) = false → (-9223372036854775808 ≤ (i + 1) ∧ (i + 1) ≤ 9223372036854775807) ∧ (∃ i' : Int, (slices_IndexFunc_2_int_2_int_aI_JJ0 xs i') ∧ (slices_IndexFunc_2_int_2_int_aI_mJ0 xs i' < slices_IndexFunc_2_int_2_int_aI_mJ0 xs i) ∧ (xs = xs) ∧ ((.fn 197 0 [] : D) = (.fn 197 0 [] : D)) ∧ ((xs.length : Int) = (xs.length : Int)) ∧ ((i + 1) = i'))))) ∧ ((decide (i < (xs.length : Int))) = false → ((((-1) : Int) = (idxI (ivBad) xs)))))))
theorem slices_IndexFunc_2_int_2_int_aI_vc (xs : List (Int × Int))  (w_xs : (xs.length : Int) ≤ 9223372036854775807) : slices_IndexFunc_2_int_2_int_aI_P xs := by
  unfold slices_IndexFunc_2_int_2_int_aI_P
  refine ⟨?_, ?_⟩
  · refine ⟨0, ?_⟩
    refine ⟨?_, rfl, rfl, rfl, rfl⟩
    · refine ⟨?_, ?_, ?_⟩
      · first | omega | rfl | (intro hg; simp only [nrmT] at hg; omega) | (intro g1 g2; simp [g1, g2]; done) | (intro g1; simp at g1 ⊢; simp [g1]; done) | (simp only [nrmT] at *; omega) | (simp at * <;> omega) | (simp_all <;> omega) | (simp_all; done)
      · first | omega | rfl | (intro hg; simp only [nrmT] at hg; omega) | (intro g1 g2; simp [g1, g2]; done) | (intro g1; simp at g1 ⊢; simp [g1]; done) | (simp only [nrmT] at *; omega) | (simp at * <;> omega) | (simp_all <;> omega) | (simp_all; done)
      · first | omega | rfl | (intro hg; simp only [nrmT] at hg; omega) | (intro g1 g2; simp [g1, g2]; done) | (intro g1; simp at g1 ⊢; simp [g1]; done) | (simp only [nrmT] at *; omega) | (simp at * <;> omega) | (simp_all <;> omega) | (simp_all; done)
  · intro i hJ
    obtain ⟨h1, h2, h3⟩ := hJ
    refine ⟨?_, ?_⟩
    · intro b1
      try simp only [nrmT] at b1
      refine ⟨?_, ?_, ?_, i_areIntervals_1_pc ((xs.getD i.toNat (0, 0)).1) ((xs.getD i.toNat (0, 0)).2), ?_, ?_⟩
      · first | omega | rfl | (intro hg; simp only [nrmT] at hg; omega) | (intro g1 g2; simp [g1, g2]; done) | (intro g1; simp at g1 ⊢; simp [g1]; done) | (simp only [nrmT] at *; omega) | (simp at * <;> omega) | (simp_all <;> omega) | (simp_all; done)
      · first | omega | rfl | (intro hg; simp only [nrmT] at hg; omega) | (intro g1 g2; simp [g1, g2]; done) | (intro g1; simp at g1 ⊢; simp [g1]; done) | (simp only [nrmT] at *; omega) | (simp at * <;> omega) | (simp_all <;> omega) | (simp_all; done)
      · first | omega | rfl | (intro hg; simp only [nrmT] at hg; omega) | (intro g1 g2; simp [g1, g2]; done) | (intro g1; simp at g1 ⊢; simp [g1]; done) | (simp only [nrmT] at *; omega) | (simp at * <;> omega) | (simp_all <;> omega) | (simp_all; done)
      · intro b2
        try simp only [nrmT] at b2
        exact idx_found (p := ivBad) h1 b1 h3 (by simpa using b2)
      · intro b3
        try simp only [nrmT] at b3
        refine ⟨?_, ?_⟩
        · first | omega | rfl | (intro hg; simp only [nrmT] at hg; omega) | (intro g1 g2; simp [g1, g2]; done) | (intro g1; simp at g1 ⊢; simp [g1]; done) | (simp only [nrmT] at *; omega) | (simp at * <;> omega) | (simp_all <;> omega) | (simp_all; done)
        · refine ⟨(i + 1), ?_⟩
          refine ⟨?_, ?_, rfl, rfl, rfl, rfl⟩
          · refine ⟨?_, ?_, ?_⟩
            · first | omega | rfl | (intro hg; simp only [nrmT] at hg; omega) | (intro g1 g2; simp [g1, g2]; done) | (intro g1; simp at g1 ⊢; simp [g1]; done) | (simp only [nrmT] at *; omega) | (simp at * <;> omega) | (simp_all <;> omega) | (simp_all; done)
            · first | omega | rfl | (intro hg; simp only [nrmT] at hg; omega) | (intro g1 g2; simp [g1, g2]; done) | (intro g1; simp at g1 ⊢; simp [g1]; done) | (simp only [nrmT] at *; omega) | (simp at * <;> omega) | (simp_all <;> omega) | (simp_all; done)
            · exact idx_step (p := ivBad) h1 h3 (by simpa using b3)
          · first | (show _ < _; omega) | (simp only [slices_IndexFunc_2_int_2_int_aI_mJ0]; omega) | (simp only [slices_IndexFunc_2_int_2_int_aI_mJ0] at *; simp at *; omega)
    · intro b4
      try simp only [nrmT] at b4
      exact (idx_none (by omega) h3).symm
theorem slices_IndexFunc_2_int_2_int_aI_pc (xs : List (Int × Int))  : PC Try.prog 229 [.sl (.pairs xs), .fn 197 0 []] (.one (.d (.int .i64 (idxI (ivBad) xs)))) :=
  pc_wf @Try.call229 fun hw => pc_by (by kernel_rfl) Try.func229 @Try.call229 (by kernel_rfl) slices_IndexFunc_2_int_2_int_aI_C (slices_IndexFunc_2_int_2_int_aI_A xs) (by kernel_rfl) (slices_IndexFunc_2_int_2_int_aI_vc xs hw.1) (by kernel_rfl)
def slices_IndexFunc_2_int_2_int_aI_orc : List D → Orc := orcN [some .pairs, none] fun ds => match ds with
  | [.sl (.pairs xs), .fn f0 0 []] => bif Nat.beq f0 197 then some (.one (.d (.int .i64 (idxI (ivBad) xs)))) else none
  | _ => none
def slices_ContainsFunc_2_int_2_int_aI_C (f : FuncId) (ds : List D) : Orc := bif Nat.beq f 229 then slices_IndexFunc_2_int_2_int_aI_orc ds else .no
def slices_ContainsFunc_2_int_2_int_aI_A (xs : List (Int × Int)) : Ann := .none
def slices_ContainsFunc_2_int_2_int_aI_P (xs : List (Int × Int)) : Prop :=
  (PC Try.prog 229 [.sl (.pairs xs), .fn 197 0 []] (.one (.d (.int .i64 (idxI (ivBad) xs))))) ∧ (((decide ((idxI (ivBad) xs) ≥ 0)) = (xs.any (ivBad))))
theorem slices_ContainsFunc_2_int_2_int_aI_vc (xs : List (Int × Int))  (w_xs : (xs.length : Int) ≤ 9223372036854775807) : slices_ContainsFunc_2_int_2_int_aI_P xs := by
  unfold slices_ContainsFunc_2_int_2_int_aI_P
  refine ⟨slices_IndexFunc_2_int_2_int_aI_pc xs, ?_⟩
  · exact idx_any _ _
theorem slices_ContainsFunc_2_int_2_int_aI_pc (xs : List (Int × Int))  : PC Try.prog 196 [.sl (.pairs xs), .fn 197 0 []] (.one (.d (.bool (xs.any (ivBad))))) :=
  pc_wf @Try.call196 fun hw => pc_by (by kernel_rfl) Try.func196 @Try.call196 (by kernel_rfl) slices_ContainsFunc_2_int_2_int_aI_C (slices_ContainsFunc_2_int_2_int_aI_A xs) (by kernel_rfl) (slices_ContainsFunc_2_int_2_int_aI_vc xs hw.1) (by kernel_rfl)
def slices_ContainsFunc_2_int_2_int_aI_orc : List D → Orc := orcN [some .pairs, none] fun ds => match ds with
  | [.sl (.pairs xs), .fn f0 0 []] => bif Nat.beq f0 197 then some (.one (.d (.bool (xs.any (ivBad))))) else none
  | _ => none
def i_areIntervals_C (f : FuncId) (ds : List D) : Orc := bif Nat.beq f 196 then slices_ContainsFunc_2_int_2_int_aI_orc ds else .no
def i_areIntervals_A (list : List (Int × Int)) : Ann := .none
def i_areIntervals_P (list : List (Int × Int)) : Prop :=
  ((decide ((list.length : Int) ≤ 12)) = true → (decide ((list.length : Int) ≤ 12)) = true) ∧ ((decide ((list.length : Int) ≤ 12)) = true → PC Try.prog 196 [.sl (.pairs list), .fn 197 0 []] (.one (.d (.bool (list.any (ivBad)))))) ∧ ((decide ((list.length : Int) ≤ 12)) = true → (decide ((list.length : Int) ≤ 12)) = true) ∧ (true = true) ∧ (((decide ((list.length : Int) ≤ 12)) = true → (decide ((list.length : Int) ≤ 12)) = true)) ∧ (((decide ((list.length : Int) ≤ 12)) = false → true = true)) ∧ (((cond (decide ((list.length : Int) ≤ 12)) (!(list.any (ivBad))) false) = (goodIvs list)))
theorem i_areIntervals_vc (list : List (Int × Int))  (w_list : (list.length : Int) ≤ 9223372036854775807) : i_areIntervals_P list := by
  unfold i_areIntervals_P
  refine ⟨id, fun _ => slices_ContainsFunc_2_int_2_int_aI_pc list, id, rfl, id, fun _ => rfl, ?_⟩
  · rw [any_all_not, show decide ((list.length : Int) ≤ 12) = decide (list.length ≤ 12) from len_le _ 12]
    unfold goodIvs
    cases decide (list.length ≤ 12) <;> rfl
theorem i_areIntervals_pc (list : List (Int × Int))  : PC Try.prog 109 [.sl (.pairs list)] (.one (.d (.bool (goodIvs list)))) :=
  pc_wf @Try.call109 fun hw => pc_by (by kernel_rfl) Try.func109 @Try.call109 (by kernel_rfl) i_areIntervals_C (i_areIntervals_A list) (by kernel_rfl) (i_areIntervals_vc list hw.1) (by kernel_rfl)
def i_areIntervals_orc : List D → Orc := orcN [some .pairs] fun ds => match ds with
  | [.sl (.pairs list)] => some (.one (.d (.bool (goodIvs list))))
  | _ => none
abbrev s_l6Intervals_JJ0 (list : List (Int × Int)) (i : Int) : Prop := (0 ≤ i) ∧ (i ≤ (list.length : Int)) ∧ (allTo (fun k => !(ivBad (list.getD k (0, 0)))) i.toNat = true)
abbrev s_l6Intervals_mJ0 (list : List (Int × Int)) (i : Int) : Nat := (list.length - i).toNat
def s_l6Intervals_C (f : FuncId) (ds : List D) : Orc := .no
def s_l6Intervals_A (list : List (Int × Int)) : Ann := .two (.none) (.two (.two (.none) (.loop (cut1 (fun (i : Int) => s_l6Intervals_JJ0 list i) (fun (i : Int) => [(0, .d false (.sl (.pairs list))), (3, .d true (.int .i64 i))]) (fun (i : Int) => [])) (fun g => s_l6Intervals_mJ0 list g) (fun _ => .none))) (.none))
def s_l6Intervals_P (list : List (Int × Int)) : Prop :=
  ((∃ i' : Int, (s_l6Intervals_JJ0 list i') ∧ (list = list) ∧ ((0 : Int) = i')) ∧ (∀ i : Int, (s_l6Intervals_JJ0 list i) → (((decide (i < (list.length : Int))) = true → ((0 : Int) ≤ i) ∧ ((i : Int) < list.length) ∧ (i.toNat < list.length) ∧ ((0 : Int) ≤ 0) ∧ ((0 : Int) < 2) ∧ (((!(decide ((list.getD i.toNat (0, 0)).1 < 0))) = true → (0 : Int) ≤ 0)) ∧ (((!(decide ((list.getD i.toNat (0, 0)).1 < 0))) = true → (0 : Int) < 2)) ∧ ((!(decide ((list.getD i.toNat (0, 0)).1 < 0))) = true → (!(decide ((list.getD i.toNat (0, 0)).1 < 0))) = true) ∧ (((!(decide ((list.getD i.toNat (0, 0)).1 < 0))) = true → (0 : Int) ≤ 1)) ∧ (((!(decide ((list.getD i.toNat (0, 0)).1 < 0))) = true → (1 : Int) < 2)) ∧ ((!(decide ((list.getD i.toNat (0, 0)).1 < 0))) = true → (!(decide ((list.getD i.toNat (0, 0)).1 < 0))) = true) ∧ ((!(decide ((list.getD i.toNat (0, 0)).1 < 0))) = true → (!(decide ((list.getD i.toNat (0, 0)).1 < 0))) = true) ∧ ((!(decide ((list.getD i.toNat (0, 0)).1 < 0))) = true → (!(decide ((list.getD i.toNat (0, 0)).1 < 0))) = true) ∧ (true = true) ∧ (((decide ((list.getD i.toNat (0, 0)).1 < 0)) = true → true = true)) ∧ (((decide ((list.getD i.toNat (0, 0)).1 < 0)) = false → (!(decide ((list.getD i.toNat (0, 0)).1 < 0))) = true)) ∧ (((!(cond (decide ((list.getD i.toNat (0, 0)).1 < 0)) true (decide ((list.getD i.toNat (0, 0)).1 > (list.getD i.toNat (0, 0)).2)))) = true → (0 : Int) ≤ 1)) ∧ (((!(cond (decide ((list.getD i.toNat (0, 0)).1 < 0)) true (decide ((list.getD i.toNat (0, 0)).1 > (list.getD i.toNat (0, 0)).2)))) = true → (1 : Int) < 2)) ∧ ((!(cond (decide ((list.getD i.toNat (0, 0)).1 < 0)) true (decide ((list.getD i.toNat (0, 0)).1 > (list.getD i.toNat (0, 0)).2)))) = true → (!(cond (decide ((list.getD i.toNat (0, 0)).1 < 0)) true (decide ((list.getD i.toNat (0, 0)).1 > (list.getD i.toNat (0, 0)).2)))) = true) ∧ ((!(cond (decide ((list.getD i.toNat (0, 0)).1 < 0)) true (decide ((list.getD i.toNat (0, 0)).1 > (list.getD i.toNat (0, 0)).2)))) = true → (!(cond (decide ((list.getD i.toNat (0, 0)).1 < 0)) true (decide ((list.getD i.toNat (0, 0)).1 > (list.getD i.toNat (0, 0)).2)))) = true) ∧ (true = true) ∧ (((cond (decide ((list.getD i.toNat (0, 0)).1 < 0)) true (decide ((list.getD i.toNat (0, 0)).1 > (list.getD i.toNat (0, 0)).2))) = true → true = true)) ∧ (((cond (decide ((list.getD i.toNat (0, 0)).1 < 0)) true (decide ((list.getD i.toNat (0, 0)).1 > (list.getD i.toNat (0, 0)).2))) = false → (!(cond (decide ((list.getD i.toNat (0, 0)).1 < 0)) true (decide ((list.getD i.toNat (0, 0)).1 > (list.getD i.toNat (0, 0)).2)))) = true)) ∧ (((cond (cond (decide ((list.getD i.toNat (0, 0)).1 < 0)) true (decide ((list.getD i.toNat (0, 0)).1 > (list.getD i.toNat (0, 0)).2))) true (decide ((list.getD i.toNat (0, 0)).2 > 99))) = true → ((false = (goodIvs list)))) ∧ ((cond (cond (decide ((list.getD i.toNat (0, 0)).1 < 0)) true (decide ((list.getD i.toNat (0, 0)).1 > (list.getD i.toNat (0, 0)).2))) true (decide ((list.getD i.toNat (0, 0)).2 > 99))) = false → (-9223372036854775808 ≤ (i + 1) ∧ (i + 1) ≤ 9223372036854775807) ∧ (∃ i' : Int, (s_l6Intervals_JJ0 list i') ∧ (s_l6Intervals_mJ0 list i' < s_l6Intervals_mJ0 list i) ∧ (list = list) ∧ ((i + 1) = i'))))) ∧ ((decide (i < (list.length : Int))) = false → (((decide ((list.length : Int) ≤ 12)) = (goodIvs list)))))))
theorem s_l6Intervals_vc (list : List (Int × Int))  (w_list : (list.length : Int) ≤ 9223372036854775807) : s_l6Intervals_P list := by
  unfold s_l6Intervals_P
  refine ⟨?_, ?_⟩
  · refine ⟨0, ?_⟩
    refine ⟨?_, rfl, rfl⟩
    · refine ⟨?_, ?_, ?_⟩
      · first | omega | rfl | (intro hg; simp only [nrmT] at hg; omega) | (intro g1 g2; simp [g1, g2]; done) | (intro g1; simp at g1 ⊢; simp [g1]; done) | (simp only [nrmT] at *; omega) | (simp at * <;> omega) | (simp_all <;> omega) | (simp_all; done)
      · first | omega | rfl | (intro hg; simp only [nrmT] at hg; omega) | (intro g1 g2; simp [g1, g2]; done) | (intro g1; simp at g1 ⊢; simp [g1]; done) | (simp only [nrmT] at *; omega) | (simp at * <;> omega) | (simp_all <;> omega) | (simp_all; done)
      · first | omega | rfl | (intro hg; simp only [nrmT] at hg; omega) | (intro g1 g2; simp [g1, g2]; done) | (intro g1; simp at g1 ⊢; simp [g1]; done) | (simp only [nrmT] at *; omega) | (simp at * <;> omega) | (simp_all <;> omega) | (simp_all; done)
  · intro i hJ
    obtain ⟨h1, h2, h3⟩ := hJ
    refine ⟨?_, ?_⟩
    · intro b1
      try simp only [nrmT] at b1
      refine ⟨?_, ?_, ?_, by decide, by decide, fun _ => by decide, fun _ => by decide, id, fun _ => by decide, fun _ => by decide, id, id, id, rfl, fun _ => rfl, ?_, fun _ => by decide, fun _ => by decide, id, id, rfl, fun _ => rfl, ?_, ?_, ?_⟩
      · first | omega | rfl | (intro hg; simp only [nrmT] at hg; omega) | (intro g1 g2; simp [g1, g2]; done) | (intro g1; simp at g1 ⊢; simp [g1]; done) | (simp only [nrmT] at *; omega) | (simp at * <;> omega) | (simp_all <;> omega) | (simp_all; done)
      · first | omega | rfl | (intro hg; simp only [nrmT] at hg; omega) | (intro g1 g2; simp [g1, g2]; done) | (intro g1; simp at g1 ⊢; simp [g1]; done) | (simp only [nrmT] at *; omega) | (simp at * <;> omega) | (simp_all <;> omega) | (simp_all; done)
      · first | omega | rfl | (intro hg; simp only [nrmT] at hg; omega) | (intro g1 g2; simp [g1, g2]; done) | (intro g1; simp at g1 ⊢; simp [g1]; done) | (simp only [nrmT] at *; omega) | (simp at * <;> omega) | (simp_all <;> omega) | (simp_all; done)
      · first | omega | rfl | (intro hg; simp only [nrmT] at hg; omega) | (intro g1 g2; simp [g1, g2]; done) | (intro g1; simp at g1 ⊢; simp [g1]; done) | (simp only [nrmT] at *; omega) | (simp at * <;> omega) | (simp_all <;> omega) | (simp_all; done)
      · first | omega | rfl | (intro hg; simp only [nrmT] at hg; omega) | (intro g1 g2; simp [g1, g2]; done) | (intro g1; simp at g1 ⊢; simp [g1]; done) | (simp only [nrmT] at *; omega) | (simp at * <;> omega) | (simp_all <;> omega) | (simp_all; done)
      · intro b2
        rw [cond_or3] at b2
        have e : ivBad (list.getD i.toNat (0, 0)) = true := b2
        unfold goodIvs
        rw [all_no (p := fun x => !(ivBad x)) (d := (0, 0)) h1 (by omega) (by rw [e]; rfl), Bool.and_false]
      · intro b3
        refine ⟨?_, ?_⟩
        · first | omega | rfl | (intro hg; simp only [nrmT] at hg; omega) | (intro g1 g2; simp [g1, g2]; done) | (intro g1; simp at g1 ⊢; simp [g1]; done) | (simp only [nrmT] at *; omega) | (simp at * <;> omega) | (simp_all <;> omega) | (simp_all; done)
        · refine ⟨(i + 1), ?_⟩
          refine ⟨?_, ?_, rfl, rfl⟩
          · refine ⟨?_, ?_, ?_⟩
            · first | omega | rfl | (intro hg; simp only [nrmT] at hg; omega) | (intro g1 g2; simp [g1, g2]; done) | (intro g1; simp at g1 ⊢; simp [g1]; done) | (simp only [nrmT] at *; omega) | (simp at * <;> omega) | (simp_all <;> omega) | (simp_all; done)
            · first | omega | rfl | (intro hg; simp only [nrmT] at hg; omega) | (intro g1 g2; simp [g1, g2]; done) | (intro g1; simp at g1 ⊢; simp [g1]; done) | (simp only [nrmT] at *; omega) | (simp at * <;> omega) | (simp_all <;> omega) | (simp_all; done)
            · rw [cond_or3] at b3
              have e : ivBad (list.getD i.toNat (0, 0)) = false := b3
              exact allTo_step h1 h3 (by rw [e]; rfl)
          · first | (show _ < _; omega) | (simp only [s_l6Intervals_mJ0]; omega) | (simp only [s_l6Intervals_mJ0] at *; simp at *; omega)
    · intro b4
      try simp only [nrmT] at b4
      unfold goodIvs
      rw [all_end (p := fun x => !(ivBad x)) (d := (0, 0)) (by omega) h2 h3, Bool.and_true]
      exact len_le _ 12
theorem s_l6Intervals_pc (list : List (Int × Int))  : PC Try.prog 111 [.sl (.pairs list)] (.one (.d (.bool (goodIvs list)))) :=
  pc_wf @Try.call111 fun hw => pc_by (by kernel_rfl) Try.func111 @Try.call111 (by kernel_rfl) s_l6Intervals_C (s_l6Intervals_A list) (by kernel_rfl) (s_l6Intervals_vc list hw.1) (by kernel_rfl)
def s_l6Intervals_orc : List D → Orc := orcN [some .pairs] fun ds => match ds with
  | [.sl (.pairs list)] => some (.one (.d (.bool (goodIvs list))))
  | _ => none
def i_isStabbed_1_C (f : FuncId) (ds : List D) : Orc := bif Nat.beq f 120 then i_between_orc ds else .no
def i_isStabbed_1_A (p : Int) (a : Int) (b : Int) : Ann := .none
def i_isStabbed_1_P (p : Int) (a : Int) (b : Int) : Prop :=
  ((0 : Int) ≤ 0) ∧ ((0 : Int) < 2) ∧ ((0 : Int) ≤ 1) ∧ ((1 : Int) < 2) ∧ (PC Try.prog 120 [.int .i64 p, .int .i64 a, .int .i64 b] (.one (.d (.bool (inB p a b))))) ∧ (((inB p a b) = (inB p a b)))
theorem i_isStabbed_1_vc (p : Int) (a : Int) (b : Int)   : i_isStabbed_1_P p a b := by
  unfold i_isStabbed_1_P
  refine ⟨by decide, by decide, by decide, by decide, i_between_pc p a b, rfl⟩
theorem i_isStabbed_1_pc (p : Int) (a : Int) (b : Int)  : PC Try.prog 230 [.int .i64 p, .bx [.int .i64 a, .int .i64 b] 0] (.one (.d (.bool (inB p a b)))) :=
  pc_wf @Try.call230 fun _ => pc_by (by kernel_rfl) Try.func230 @Try.call230 (by kernel_rfl) i_isStabbed_1_C (i_isStabbed_1_A p a b) (by kernel_rfl) (i_isStabbed_1_vc p a b) (by kernel_rfl)
def i_isStabbed_1_orc : List D → Orc := orcN [none, none] fun ds => match ds with
  | [.int .i64 p, .bx [.int .i64 a, .int .i64 b] 0] => some (.one (.d (.bool (inB p a b))))
  | _ => none
abbrev slices_IndexFunc_int_int_iT_JJ0 (xs : List Int) (a : Int) (b : Int) (i : Int) : Prop := (0 ≤ i) ∧ (i ≤ (xs.length : Int)) ∧ (∀ k, k < i.toNat → (fun p => inB p a b) (xs.getD k 0) = false)
abbrev slices_IndexFunc_int_int_iT_mJ0 (xs : List Int) (a : Int) (b : Int) (i : Int) : Nat := (xs.length - i).toNat
def slices_IndexFunc_int_int_iT_C (f : FuncId) (ds : List D) : Orc := bif Nat.beq f 230 then i_isStabbed_1_orc ds else .no
def slices_IndexFunc_int_int_iT_A (xs : List Int) (a : Int) (b : Int) : Ann := .two (.none) (.two (.two (.none) (.loop (cut1 (fun (i : Int) => slices_IndexFunc_int_int_iT_JJ0 xs a b i) (fun (i : Int) => [(0, .d false (.sl (.ints xs))), (1, .d false (.fn 230 0 [.bx [.int .i64 a, .int .i64 b] 0])), (7, .d true (.int .i64 (xs.length : Int))), (8, .d true (.int .i64 i))]) (fun (i : Int) => [])) (fun g => slices_IndexFunc_int_int_iT_mJ0 xs a b g) (fun _ => .none))) (.none))
def slices_IndexFunc_int_int_iT_P (xs : List Int) (a : Int) (b : Int) : Prop :=
  ((∃ i' : Int, (slices_IndexFunc_int_int_iT_JJ0 xs a b i') ∧ (xs = xs) ∧ ((.fn 230 0 [.bx [.int .i64 a, .int .i64 b] 0] : D) = (.fn 230 0 [.bx [.int .i64 a, .int .i64 b] 0] : D)) ∧ ((xs.length : Int) = (xs.length : Int)) ∧ ((0 : Int) = i')) ∧ (∀ i : Int, (slices_IndexFunc_int_int_iT_JJ0 xs a b i) → (((decide (i < (xs.length : Int))) = true → ((0 : Int) ≤ i) ∧ ((i : Int) < xs.length) ∧ (i.toNat < xs.length) ∧ (PC Try.prog 230 [.int .i64 (xs.getD i.toNat 0), .bx [.int .i64 a, .int .i64 b] 0] (.one (.d (.bool (inB (xs.getD i.toNat 0) a b))))) ∧ (((inB (xs.getD i.toNat 0) a b) = true → ((i = (idxI (fun p => inB p a b) xs)))) ∧ ((inB (xs.getD i.toNat 0) a b) = false → (-9223372036854775808 ≤ (i + 1) ∧ (i + 1) ≤ 9223372036854775807) ∧ (∃ i' : Int, (slices_IndexFunc_int_int_iT_JJ0 xs a b i') ∧ (slices_IndexFunc_int_int_iT_mJ0 xs a b i' < slices_IndexFunc_int_int_iT_mJ0 xs a b i) ∧ (xs = xs) ∧ ((.fn 230 0 [.bx [.int .i64 a, .int .i64 b] 0] : D) = (.fn 230 0 [.bx [.int .i64 a, .int .i64 b] 0] : D)) ∧ ((xs.length : Int) = (xs.length : Int)) ∧ ((i + 1) = i'))))) ∧ ((decide (i < (xs.length : Int))) = false → ((((-1) : Int) = (idxI (fun p => inB p a b) xs)))))))
theorem slices_IndexFunc_int_int_iT_vc (xs : List Int) (a : Int) (b : Int)  (w_xs : (xs.length : Int) ≤ 9223372036854775807) : slices_IndexFunc_int_int_iT_P xs a b := by
  unfold slices_IndexFunc_int_int_iT_P
  refine ⟨?_, ?_⟩
  · refine ⟨0, ?_⟩
    refine ⟨?_, rfl, rfl, rfl, rfl⟩
    · refine ⟨?_, ?_, ?_⟩
      · first | omega | rfl | (intro hg; simp only [nrmT] at hg; omega) | (intro g1 g2; simp [g1, g2]; done) | (intro g1; simp at g1 ⊢; simp [g1]; done) | (simp only [nrmT] at *; omega) | (simp at * <;> omega) | (simp_all <;> omega) | (simp_all; done)
      · first | omega | rfl | (intro hg; simp only [nrmT] at hg; omega) | (intro g1 g2; simp [g1, g2]; done) | (intro g1; simp at g1 ⊢; simp [g1]; done) | (simp only [nrmT] at *; omega) | (simp at * <;> omega) | (simp_all <;> omega) | (simp_all; done)
      · first | omega | rfl | (intro hg; simp only [nrmT] at hg; omega) | (intro g1 g2; simp [g1, g2]; done) | (intro g1; simp at g1 ⊢; simp [g1]; done) | (simp only [nrmT] at *; omega) | (simp at * <;> omega) | (simp_all <;> omega) | (simp_all; done)
  · intro i hJ
    obtain ⟨h1, h2, h3⟩ := hJ
    refine ⟨?_, ?_⟩
    · intro b1
      try simp only [nrmT] at b1
      refine ⟨?_, ?_, ?_, i_isStabbed_1_pc (xs.getD i.toNat 0) a b, ?_, ?_⟩
      · first | omega | rfl | (intro hg; simp only [nrmT] at hg; omega) | (intro g1 g2; simp [g1, g2]; done) | (intro g1; simp at g1 ⊢; simp [g1]; done) | (simp only [nrmT] at *; omega) | (simp at * <;> omega) | (simp_all <;> omega) | (simp_all; done)
      · first | omega | rfl | (intro hg; simp only [nrmT] at hg; omega) | (intro g1 g2; simp [g1, g2]; done) | (intro g1; simp at g1 ⊢; simp [g1]; done) | (simp only [nrmT] at *; omega) | (simp at * <;> omega) | (simp_all <;> omega) | (simp_all; done)
      · first | omega | rfl | (intro hg; simp only [nrmT] at hg; omega) | (intro g1 g2; simp [g1, g2]; done) | (intro g1; simp at g1 ⊢; simp [g1]; done) | (simp only [nrmT] at *; omega) | (simp at * <;> omega) | (simp_all <;> omega) | (simp_all; done)
      · intro b2
        try simp only [nrmT] at b2
        exact idx_found (p := fun p => inB p a b) h1 b1 h3 (by simpa using b2)
      · intro b3
        try simp only [nrmT] at b3
        refine ⟨?_, ?_⟩
        · first | omega | rfl | (intro hg; simp only [nrmT] at hg; omega) | (intro g1 g2; simp [g1, g2]; done) | (intro g1; simp at g1 ⊢; simp [g1]; done) | (simp only [nrmT] at *; omega) | (simp at * <;> omega) | (simp_all <;> omega) | (simp_all; done)
        · refine ⟨(i + 1), ?_⟩
          refine ⟨?_, ?_, rfl, rfl, rfl, rfl⟩
          · refine ⟨?_, ?_, ?_⟩
            · first | omega | rfl | (intro hg; simp only [nrmT] at hg; omega) | (intro g1 g2; simp [g1, g2]; done) | (intro g1; simp at g1 ⊢; simp [g1]; done) | (simp only [nrmT] at *; omega) | (simp at * <;> omega) | (simp_all <;> omega) | (simp_all; done)
            · first | omega | rfl | (intro hg; simp only [nrmT] at hg; omega) | (intro g1 g2; simp [g1, g2]; done) | (intro g1; simp at g1 ⊢; simp [g1]; done) | (simp only [nrmT] at *; omega) | (simp at * <;> omega) | (simp_all <;> omega) | (simp_all; done)
            · exact idx_step (p := fun p => inB p a b) h1 h3 (by simpa using b3)
          · first | (show _ < _; omega) | (simp only [slices_IndexFunc_int_int_iT_mJ0]; omega) | (simp only [slices_IndexFunc_int_int_iT_mJ0] at *; simp at *; omega)
    · intro b4
      try simp only [nrmT] at b4
      exact (idx_none (by omega) h3).symm
theorem slices_IndexFunc_int_int_iT_pc (xs : List Int) (a : Int) (b : Int)  : PC Try.prog 204 [.sl (.ints xs), .fn 230 0 [.bx [.int .i64 a, .int .i64 b] 0]] (.one (.d (.int .i64 (idxI (fun p => inB p a b) xs)))) :=
  pc_wf @Try.call204 fun hw => pc_by (by kernel_rfl) Try.func204 @Try.call204 (by kernel_rfl) slices_IndexFunc_int_int_iT_C (slices_IndexFunc_int_int_iT_A xs a b) (by kernel_rfl) (slices_IndexFunc_int_int_iT_vc xs a b hw.1) (by kernel_rfl)
def slices_IndexFunc_int_int_iT_orc : List D → Orc := orcN [some .ints, none] fun ds => match ds with
  | [.sl (.ints xs), .fn f0 0 [.bx [.int .i64 a, .int .i64 b] 0]] => bif Nat.beq f0 230 then some (.one (.d (.int .i64 (idxI (fun p => inB p a b) xs)))) else none
  | _ => none
def slices_ContainsFunc_int_int_iT_C (f : FuncId) (ds : List D) : Orc := bif Nat.beq f 204 then slices_IndexFunc_int_int_iT_orc ds else .no
def slices_ContainsFunc_int_int_iT_A (xs : List Int) (a : Int) (b : Int) : Ann := .none
def slices_ContainsFunc_int_int_iT_P (xs : List Int) (a : Int) (b : Int) : Prop :=
  (PC Try.prog 204 [.sl (.ints xs), .fn 230 0 [.bx [.int .i64 a, .int .i64 b] 0]] (.one (.d (.int .i64 (idxI (fun p => inB p a b) xs))))) ∧ (((decide ((idxI (fun p => inB p a b) xs) ≥ 0)) = (xs.any (fun p => inB p a b))))
theorem slices_ContainsFunc_int_int_iT_vc (xs : List Int) (a : Int) (b : Int)  (w_xs : (xs.length : Int) ≤ 9223372036854775807) : slices_ContainsFunc_int_int_iT_P xs a b := by
  unfold slices_ContainsFunc_int_int_iT_P
  refine ⟨slices_IndexFunc_int_int_iT_pc xs a b, ?_⟩
  · exact idx_any _ _
theorem slices_ContainsFunc_int_int_iT_pc (xs : List Int) (a : Int) (b : Int)  : PC Try.prog 127 [.sl (.ints xs), .fn 230 0 [.bx [.int .i64 a, .int .i64 b] 0]] (.one (.d (.bool (xs.any (fun p => inB p a b))))) :=
  pc_wf @Try.call127 fun hw => pc_by (by kernel_rfl) Try.func127 @Try.call127 (by kernel_rfl) slices_ContainsFunc_int_int_iT_C (slices_ContainsFunc_int_int_iT_A xs a b) (by kernel_rfl) (slices_ContainsFunc_int_int_iT_vc xs a b hw.1) (by kernel_rfl)
def slices_ContainsFunc_int_int_iT_orc : List D → Orc := orcN [some .ints, none] fun ds => match ds with
  | [.sl (.ints xs), .fn f0 0 [.bx [.int .i64 a, .int .i64 b] 0]] => bif Nat.beq f0 230 then some (.one (.d (.bool (xs.any (fun p => inB p a b))))) else none
  | _ => none
def i_isStabbed_C (f : FuncId) (ds : List D) : Orc := bif Nat.beq f 127 then slices_ContainsFunc_int_int_iT_orc ds else .no
def i_isStabbed_A (a : Int) (b : Int) (points : List Int) : Ann := .none
def i_isStabbed_P (a : Int) (b : Int) (points : List Int) : Prop :=
  (PC Try.prog 127 [.sl (.ints points), .fn 230 0 [.bx [.int .i64 a, .int .i64 b] 0]] (.one (.d (.bool (points.any (fun p => inB p a b)))))) ∧ (((points.any (fun p => inB p a b)) = (stabbed a b points)))
theorem i_isStabbed_vc (a : Int) (b : Int) (points : List Int)  (w_points : (points.length : Int) ≤ 9223372036854775807) : i_isStabbed_P a b points := by
  unfold i_isStabbed_P
  refine ⟨slices_ContainsFunc_int_int_iT_pc points a b, ?_⟩
  · first | omega | rfl | (intro hg; simp only [nrmT] at hg; omega) | (intro g1 g2; simp [g1, g2]; done) | (intro g1; simp at g1 ⊢; simp [g1]; done) | (simp only [nrmT] at *; omega) | (simp at * <;> omega) | (simp_all <;> omega) | (simp_all; done)
theorem i_isStabbed_pc (a : Int) (b : Int) (points : List Int)  : PC Try.prog 198 [.agg [.int .i64 a, .int .i64 b], .sl (.ints points)] (.one (.d (.bool (stabbed a b points)))) :=
  pc_wf @Try.call198 fun hw => pc_by (by kernel_rfl) Try.func198 @Try.call198 (by kernel_rfl) i_isStabbed_C (i_isStabbed_A a b points) (by kernel_rfl) (i_isStabbed_vc a b points hw.2.1) (by kernel_rfl)
def i_isStabbed_orc : List D → Orc := orcN [none, some .ints] fun ds => match ds with
  | [.agg [.int .i64 a, .int .i64 b], .sl (.ints points)] => some (.one (.d (.bool (stabbed a b points))))
  | _ => none
abbrev s_l6Stabbed_JJ0 (a : Int) (b : Int) (points : List Int) (i : Int) : Prop := (0 ≤ i) ∧ (i ≤ (points.length : Int)) ∧ (allTo (fun k => !(inB (points.getD k 0) a b)) i.toNat = true)
abbrev s_l6Stabbed_mJ0 (a : Int) (b : Int) (points : List Int) (i : Int) : Nat := (points.length - i).toNat
def s_l6Stabbed_C (f : FuncId) (ds : List D) : Orc := bif Nat.beq f 116 then s_l1In_orc ds else .no
def s_l6Stabbed_A (a : Int) (b : Int) (points : List Int) : Ann := .two (.none) (.two (.two (.none) (.loop (cut1 (fun (i : Int) => s_l6Stabbed_JJ0 a b points i) (fun (i : Int) => [(1, .d false (.sl (.ints points))), (2, .ptr 2 0), (5, .d true (.int .i64 i))]) (fun (i : Int) => [(2, .box 30 [.d false (.int .i64 a), .d false (.int .i64 b)])])) (fun g => s_l6Stabbed_mJ0 a b points g) (fun _ => .none))) (.none))
def s_l6Stabbed_P (a : Int) (b : Int) (points : List Int) : Prop :=
  ((∃ i' : Int, (s_l6Stabbed_JJ0 a b points i') ∧ (points = points) ∧ ((0 : Int) = i') ∧ (a = a) ∧ (b = b)) ∧ (∀ i : Int, (s_l6Stabbed_JJ0 a b points i) → (((decide (i < (points.length : Int))) = true → (true = true) ∧ ((0 : Int) ≤ i) ∧ ((i : Int) < points.length) ∧ (i.toNat < points.length) ∧ ((0 : Int) ≤ 0) ∧ ((0 : Int) < 2) ∧ ((0 : Int) ≤ 1) ∧ ((1 : Int) < 2) ∧ (PC Try.prog 116 [.int .i64 (points.getD i.toNat 0), .int .i64 a, .int .i64 b] (.one (.d (.bool (inB (points.getD i.toNat 0) a b))))) ∧ (((inB (points.getD i.toNat 0) a b) = true → ((true = (stabbed a b points)))) ∧ ((inB (points.getD i.toNat 0) a b) = false → (-9223372036854775808 ≤ (i + 1) ∧ (i + 1) ≤ 9223372036854775807) ∧ (∃ i' : Int, (s_l6Stabbed_JJ0 a b points i') ∧ (s_l6Stabbed_mJ0 a b points i' < s_l6Stabbed_mJ0 a b points i) ∧ (points = points) ∧ ((i + 1) = i') ∧ (a = a) ∧ (b = b))))) ∧ ((decide (i < (points.length : Int))) = false → ((false = (stabbed a b points)))))))
theorem s_l6Stabbed_vc (a : Int) (b : Int) (points : List Int)  (w_points : (points.length : Int) ≤ 9223372036854775807) : s_l6Stabbed_P a b points := by
  unfold s_l6Stabbed_P
  refine ⟨?_, ?_⟩
  · refine ⟨0, ?_⟩
    refine ⟨?_, rfl, rfl, rfl, rfl⟩
    · refine ⟨?_, ?_, ?_⟩
      · first | omega | rfl | (intro hg; simp only [nrmT] at hg; omega) | (intro g1 g2; simp [g1, g2]; done) | (intro g1; simp at g1 ⊢; simp [g1]; done) | (simp only [nrmT] at *; omega) | (simp at * <;> omega) | (simp_all <;> omega) | (simp_all; done)
      · first | omega | rfl | (intro hg; simp only [nrmT] at hg; omega) | (intro g1 g2; simp [g1, g2]; done) | (intro g1; simp at g1 ⊢; simp [g1]; done) | (simp only [nrmT] at *; omega) | (simp at * <;> omega) | (simp_all <;> omega) | (simp_all; done)
      · first | omega | rfl | (intro hg; simp only [nrmT] at hg; omega) | (intro g1 g2; simp [g1, g2]; done) | (intro g1; simp at g1 ⊢; simp [g1]; done) | (simp only [nrmT] at *; omega) | (simp at * <;> omega) | (simp_all <;> omega) | (simp_all; done)
  · intro i hJ
    obtain ⟨h1, h2, h3⟩ := hJ
    refine ⟨?_, ?_⟩
    · intro b1
      try simp only [nrmT] at b1
      refine ⟨rfl, ?_, ?_, ?_, by decide, by decide, by decide, by decide, s_l1In_pc (points.getD i.toNat 0) a b, ?_, ?_⟩
      · first | omega | rfl | (intro hg; simp only [nrmT] at hg; omega) | (intro g1 g2; simp [g1, g2]; done) | (intro g1; simp at g1 ⊢; simp [g1]; done) | (simp only [nrmT] at *; omega) | (simp at * <;> omega) | (simp_all <;> omega) | (simp_all; done)
      · first | omega | rfl | (intro hg; simp only [nrmT] at hg; omega) | (intro g1 g2; simp [g1, g2]; done) | (intro g1; simp at g1 ⊢; simp [g1]; done) | (simp only [nrmT] at *; omega) | (simp at * <;> omega) | (simp_all <;> omega) | (simp_all; done)
      · first | omega | rfl | (intro hg; simp only [nrmT] at hg; omega) | (intro g1 g2; simp [g1, g2]; done) | (intro g1; simp at g1 ⊢; simp [g1]; done) | (simp only [nrmT] at *; omega) | (simp at * <;> omega) | (simp_all <;> omega) | (simp_all; done)
      · intro b2
        try simp only [nrmT] at b2
        exact (List.any_eq_true.2 ⟨_, getD_memI (d := 0) h1 (by omega), b2⟩).symm
      · intro b3
        try simp only [nrmT] at b3
        refine ⟨?_, ?_⟩
        · first | omega | rfl | (intro hg; simp only [nrmT] at hg; omega) | (intro g1 g2; simp [g1, g2]; done) | (intro g1; simp at g1 ⊢; simp [g1]; done) | (simp only [nrmT] at *; omega) | (simp at * <;> omega) | (simp_all <;> omega) | (simp_all; done)
        · refine ⟨(i + 1), ?_⟩
          refine ⟨?_, ?_, rfl, rfl, rfl, rfl⟩
          · refine ⟨?_, ?_, ?_⟩
            · first | omega | rfl | (intro hg; simp only [nrmT] at hg; omega) | (intro g1 g2; simp [g1, g2]; done) | (intro g1; simp at g1 ⊢; simp [g1]; done) | (simp only [nrmT] at *; omega) | (simp at * <;> omega) | (simp_all <;> omega) | (simp_all; done)
            · first | omega | rfl | (intro hg; simp only [nrmT] at hg; omega) | (intro g1 g2; simp [g1, g2]; done) | (intro g1; simp at g1 ⊢; simp [g1]; done) | (simp only [nrmT] at *; omega) | (simp at * <;> omega) | (simp_all <;> omega) | (simp_all; done)
            · exact allTo_step h1 h3 (by simpa using b3)
          · first | (show _ < _; omega) | (simp only [s_l6Stabbed_mJ0]; omega) | (simp only [s_l6Stabbed_mJ0] at *; simp at *; omega)
    · intro b4
      try simp only [nrmT] at b4
      have h := all_end (p := fun p => !(inB p a b)) (d := 0) (by omega) h2 h3
      rw [← any_all_not] at h
      unfold stabbed
      cases hs : points.any fun p => inB p a b with
      | false => rfl
      | true => rw [hs] at h; cases h
theorem s_l6Stabbed_pc (a : Int) (b : Int) (points : List Int)  : PC Try.prog 199 [.agg [.int .i64 a, .int .i64 b], .sl (.ints points)] (.one (.d (.bool (stabbed a b points)))) :=
  pc_wf @Try.call199 fun hw => pc_by (by kernel_rfl) Try.func199 @Try.call199 (by kernel_rfl) s_l6Stabbed_C (s_l6Stabbed_A a b points) (by kernel_rfl) (s_l6Stabbed_vc a b points hw.2.1) (by kernel_rfl)
def s_l6Stabbed_orc : List D → Orc := orcN [none, some .ints] fun ds => match ds with
  | [.agg [.int .i64 a, .int .i64 b], .sl (.ints points)] => some (.one (.d (.bool (stabbed a b points))))
  | _ => none
abbrev i_stab_JJ0 (list : List (Int × Int)) (points : List Int) (fs : List Int) : Prop := (stabs list points fs = stabs list [] []) ∧ (points.length + unst list points ≤ list.length) ∧ (fs.length = points.length)
abbrev i_stab_mJ0 (list : List (Int × Int)) (points : List Int) (fs : List Int) : Nat := unst list points
abbrev i_stab_JJ1 (list : List (Int × Int)) (points : List Int) (fs : List Int) (best : Int) (i : Int) : Prop := (0 ≤ i) ∧ (i ≤ (list.length : Int)) ∧ (best = nextTo list points i.toNat)
abbrev i_stab_mJ1 (list : List (Int × Int)) (points : List Int) (fs : List Int) (best : Int) (i : Int) : Nat := (list.length - i).toNat
def i_stab_C (f : FuncId) (ds : List D) : Orc := bif Nat.beq f 198 then i_isStabbed_orc ds else .no
def i_stab_A (list : List (Int × Int)) : Ann := .two (.none) (.two (.none) (.loop (cut2 (fun (points : List Int) (fs : List Int) => i_stab_JJ0 list points fs) (fun (points : List Int) (fs : List Int) => [(0, .d false (.sl (.pairs list))), (4, .own 1000000 points.length), (5, .own 1000001 fs.length)]) (fun (points : List Int) (fs : List Int) => [(1000000, .arr true 3 (.ints points)), (1000001, .arr true 3 (.ints fs))])) (fun g => i_stab_mJ0 list g.1 g.2) (fun g => (fun (points : List Int) (fs : List Int) => .two (.none) (.two (.two (.none) (.loop (cut2 (fun (best : Int) (i : Int) => i_stab_JJ1 list points fs best i) (fun (best : Int) (i : Int) => [(0, .d false (.sl (.pairs list))), (4, .own 1000000 points.length), (5, .own 1000001 fs.length), (6, .d true (.int .i64 best)), (11, .d false (.sl (.pairs list))), (12, .d true (.int .i64 (list.length : Int))), (13, .d true (.int .i64 i))]) (fun (best : Int) (i : Int) => [(1000000, .arr true 3 (.ints points)), (1000001, .arr true 3 (.ints fs))])) (fun g => i_stab_mJ1 list points fs g.1 g.2) (fun _ => .none))) (.none))) (g.1) (g.2))))
def i_stab_P (list : List (Int × Int)) : Prop :=
  ((∃ points' : List Int, ∃ fs' : List Int, (i_stab_JJ0 list points' fs') ∧ (list = list) ∧ ((0 : Nat) = points'.length) ∧ ((0 : Nat) = fs'.length) ∧ ([] = points') ∧ ([] = fs')) ∧ (∀ points : List Int, ∀ fs : List Int, (i_stab_JJ0 list points fs) → ((∃ best' : Int, ∃ i' : Int, (i_stab_JJ1 list points fs best' i') ∧ (list = list) ∧ (points.length = points.length) ∧ (fs.length = fs.length) ∧ (((-1) : Int) = best') ∧ (list = list) ∧ ((list.length : Int) = (list.length : Int)) ∧ ((0 : Int) = i') ∧ (points = points) ∧ (fs = fs)) ∧ (∀ best : Int, ∀ i : Int, (i_stab_JJ1 list points fs best i) → (((decide (i < (list.length : Int))) = true → ((0 : Int) ≤ i) ∧ ((i : Int) < list.length) ∧ (i.toNat < list.length) ∧ (true = true) ∧ (points.length = points.length) ∧ (PC Try.prog 198 [.agg [.int .i64 ((list.getD i.toNat (0, 0)).1), .int .i64 ((list.getD i.toNat (0, 0)).2)], .sl (.ints points)] (.one (.d (.bool (stabbed ((list.getD i.toNat (0, 0)).1) ((list.getD i.toNat (0, 0)).2) points))))) ∧ ((!(stabbed ((list.getD i.toNat (0, 0)).1) ((list.getD i.toNat (0, 0)).2) points)) = true → (!(stabbed ((list.getD i.toNat (0, 0)).1) ((list.getD i.toNat (0, 0)).2) points)) = true) ∧ ((!(stabbed ((list.getD i.toNat (0, 0)).1) ((list.getD i.toNat (0, 0)).2) points)) = true → (!(stabbed ((list.getD i.toNat (0, 0)).1) ((list.getD i.toNat (0, 0)).2) points)) = true) ∧ ((((!(stabbed ((list.getD i.toNat (0, 0)).1) ((list.getD i.toNat (0, 0)).2) points)) && (!(decide (best < 0)))) = true → (0 : Int) ≤ 1)) ∧ ((((!(stabbed ((list.getD i.toNat (0, 0)).1) ((list.getD i.toNat (0, 0)).2) points)) && (!(decide (best < 0)))) = true → (1 : Int) < 2)) ∧ (((!(stabbed ((list.getD i.toNat (0, 0)).1) ((list.getD i.toNat (0, 0)).2) points)) && (!(decide (best < 0)))) = true → ((!(stabbed ((list.getD i.toNat (0, 0)).1) ((list.getD i.toNat (0, 0)).2) points)) && (!(decide (best < 0)))) = true) ∧ (((!(stabbed ((list.getD i.toNat (0, 0)).1) ((list.getD i.toNat (0, 0)).2) points)) && (!(decide (best < 0)))) = true → ((!(stabbed ((list.getD i.toNat (0, 0)).1) ((list.getD i.toNat (0, 0)).2) points)) && (!(decide (best < 0)))) = true) ∧ (((!(stabbed ((list.getD i.toNat (0, 0)).1) ((list.getD i.toNat (0, 0)).2) points)) && (!(decide (best < 0)))) = true → ((!(stabbed ((list.getD i.toNat (0, 0)).1) ((list.getD i.toNat (0, 0)).2) points)) && (!(decide (best < 0)))) = true) ∧ ((((!(stabbed ((list.getD i.toNat (0, 0)).1) ((list.getD i.toNat (0, 0)).2) points)) && (!(decide (best < 0)))) = true → (0 : Int) ≤ best)) ∧ ((((!(stabbed ((list.getD i.toNat (0, 0)).1) ((list.getD i.toNat (0, 0)).2) points)) && (!(decide (best < 0)))) = true → (best : Int) < list.length)) ∧ (((!(stabbed ((list.getD i.toNat (0, 0)).1) ((list.getD i.toNat (0, 0)).2) points)) && (!(decide (best < 0)))) = true → ((!(stabbed ((list.getD i.toNat (0, 0)).1) ((list.getD i.toNat (0, 0)).2) points)) && (!(decide (best < 0)))) = true) ∧ ((((!(stabbed ((list.getD i.toNat (0, 0)).1) ((list.getD i.toNat (0, 0)).2) points)) && (!(decide (best < 0)))) = true → (0 : Int) ≤ 1)) ∧ ((((!(stabbed ((list.getD i.toNat (0, 0)).1) ((list.getD i.toNat (0, 0)).2) points)) && (!(decide (best < 0)))) = true → (1 : Int) < 2)) ∧ (((!(stabbed ((list.getD i.toNat (0, 0)).1) ((list.getD i.toNat (0, 0)).2) points)) && (!(decide (best < 0)))) = true → ((!(stabbed ((list.getD i.toNat (0, 0)).1) ((list.getD i.toNat (0, 0)).2) points)) && (!(decide (best < 0)))) = true) ∧ ((((!(stabbed ((list.getD i.toNat (0, 0)).1) ((list.getD i.toNat (0, 0)).2) points)) && (!(decide (best < 0)))) = true → best.toNat < list.length)) ∧ (((!(stabbed ((list.getD i.toNat (0, 0)).1) ((list.getD i.toNat (0, 0)).2) points)) && (!(decide (best < 0)))) = true → ((!(stabbed ((list.getD i.toNat (0, 0)).1) ((list.getD i.toNat (0, 0)).2) points)) && (!(decide (best < 0)))) = true) ∧ (((!(stabbed ((list.getD i.toNat (0, 0)).1) ((list.getD i.toNat (0, 0)).2) points)) && (!(decide (best < 0)))) = true → ((!(stabbed ((list.getD i.toNat (0, 0)).1) ((list.getD i.toNat (0, 0)).2) points)) && (!(decide (best < 0)))) = true) ∧ (((!(stabbed ((list.getD i.toNat (0, 0)).1) ((list.getD i.toNat (0, 0)).2) points)) = true → (!(stabbed ((list.getD i.toNat (0, 0)).1) ((list.getD i.toNat (0, 0)).2) points)) = true)) ∧ (((!(stabbed ((list.getD i.toNat (0, 0)).1) ((list.getD i.toNat (0, 0)).2) points)) = true → (decide (best < 0)) = true → true = true)) ∧ (((!(stabbed ((list.getD i.toNat (0, 0)).1) ((list.getD i.toNat (0, 0)).2) points)) = true → (decide (best < 0)) = false → ((!(stabbed ((list.getD i.toNat (0, 0)).1) ((list.getD i.toNat (0, 0)).2) points)) && (!(decide (best < 0)))) = true)) ∧ (true = true) ∧ (((!(stabbed ((list.getD i.toNat (0, 0)).1) ((list.getD i.toNat (0, 0)).2) points)) = true → (!(stabbed ((list.getD i.toNat (0, 0)).1) ((list.getD i.toNat (0, 0)).2) points)) = true)) ∧ (((!(stabbed ((list.getD i.toNat (0, 0)).1) ((list.getD i.toNat (0, 0)).2) points)) = false → true = true)) ∧ (((cond (!(stabbed ((list.getD i.toNat (0, 0)).1) ((list.getD i.toNat (0, 0)).2) points)) (cond (decide (best < 0)) true (decide ((list.getD i.toNat (0, 0)).2 < (list.getD best.toNat (0, 0)).2))) false) = true → (-9223372036854775808 ≤ (i + 1) ∧ (i + 1) ≤ 9223372036854775807) ∧ (∃ best' : Int, ∃ i' : Int, (i_stab_JJ1 list points fs best' i') ∧ (i_stab_mJ1 list points fs best' i' < i_stab_mJ1 list points fs best i) ∧ (list = list) ∧ (points.length = points.length) ∧ (fs.length = fs.length) ∧ (i = best') ∧ (list = list) ∧ ((list.length : Int) = (list.length : Int)) ∧ ((i + 1) = i') ∧ (points = points) ∧ (fs = fs))) ∧ ((cond (!(stabbed ((list.getD i.toNat (0, 0)).1) ((list.getD i.toNat (0, 0)).2) points)) (cond (decide (best < 0)) true (decide ((list.getD i.toNat (0, 0)).2 < (list.getD best.toNat (0, 0)).2))) false) = false → (-9223372036854775808 ≤ (i + 1) ∧ (i + 1) ≤ 9223372036854775807) ∧ (∃ best' : Int, ∃ i' : Int, (i_stab_JJ1 list points fs best' i') ∧ (i_stab_mJ1 list points fs best' i' < i_stab_mJ1 list points fs best i) ∧ (list = list) ∧ (points.length = points.length) ∧ (fs.length = fs.length) ∧ (best = best') ∧ (list = list) ∧ ((list.length : Int) = (list.length : Int)) ∧ ((i + 1) = i') ∧ (points = points) ∧ (fs = fs))))) ∧ ((decide (i < (list.length : Int))) = false → (((decide (best < 0)) = true → ((points.length = points.length) ∧ ((points : List Int) = (stabs list [] []).1) ∧ (fs.length = fs.length) ∧ ((fs : List Int) = (stabs list [] []).2))) ∧ ((decide (best < 0)) = false → ((0 : Int) ≤ best) ∧ ((best : Int) < list.length) ∧ ((0 : Int) ≤ 1) ∧ ((1 : Int) < 2) ∧ (best.toNat < list.length) ∧ (points.length = points.length) ∧ ((1 : Nat) = 1) ∧ ((points.length + 1) * 8 ≤ 140737488355328) ∧ (fs.length = fs.length) ∧ ((1 : Nat) = 1) ∧ ((fs.length + 1) * 8 ≤ 140737488355328) ∧ (∃ points' : List Int, ∃ fs' : List Int, (i_stab_JJ0 list points' fs') ∧ (i_stab_mJ0 list points' fs' < i_stab_mJ0 list points fs) ∧ (list = list) ∧ ((points.length + 1) = points'.length) ∧ ((fs.length + 1) = fs'.length) ∧ ((points ++ [(list.getD best.toNat (0, 0)).2]) = points') ∧ ((fs ++ [best]) = fs'))))))))))
theorem i_stab_vc (list : List (Int × Int)) (hg : goodIvs list = true) (w_list : (list.length : Int) ≤ 9223372036854775807) : i_stab_P list := by
  unfold i_stab_P
  refine ⟨?_, ?_⟩
  · refine ⟨([]), ([]), ?_⟩
    refine ⟨?_, rfl, rfl, rfl, ?_, ?_⟩
    · refine ⟨?_, ?_, ?_⟩
      · first | omega | rfl | (intro hg; simp only [nrmT] at hg; omega) | (intro g1 g2; simp [g1, g2]; done) | (intro g1; simp at g1 ⊢; simp [g1]; done) | (simp only [nrmT] at *; omega) | (simp at * <;> omega) | (simp_all <;> omega) | (simp_all; done)
      · have := unst_le list []
        simp only [List.length_nil]; omega
      · first | omega | rfl | (intro hg; simp only [nrmT] at hg; omega) | (intro g1 g2; simp [g1, g2]; done) | (intro g1; simp at g1 ⊢; simp [g1]; done) | (simp only [nrmT] at *; omega) | (simp at * <;> omega) | (simp_all <;> omega) | (simp_all; done)
    · first | omega | rfl | (intro hg; simp only [nrmT] at hg; omega) | (intro g1 g2; simp [g1, g2]; done) | (intro g1; simp at g1 ⊢; simp [g1]; done) | (simp only [nrmT] at *; omega) | (simp at * <;> omega) | (simp_all <;> omega) | (simp_all; done)
    · first | omega | rfl | (intro hg; simp only [nrmT] at hg; omega) | (intro g1 g2; simp [g1, g2]; done) | (intro g1; simp at g1 ⊢; simp [g1]; done) | (simp only [nrmT] at *; omega) | (simp at * <;> omega) | (simp_all <;> omega) | (simp_all; done)
  · intro points fs hJ
    obtain ⟨h1, h2, h3⟩ := hJ
    refine ⟨?_, ?_⟩
    · refine ⟨(-1), 0, ?_⟩
      refine ⟨?_, rfl, rfl, rfl, rfl, rfl, rfl, rfl, rfl, rfl⟩
      · refine ⟨?_, ?_, ?_⟩
        · first | omega | rfl | (intro hg; simp only [nrmT] at hg; omega) | (intro g1 g2; simp [g1, g2]; done) | (intro g1; simp at g1 ⊢; simp [g1]; done) | (simp only [nrmT] at *; omega) | (simp at * <;> omega) | (simp_all <;> omega) | (simp_all; done)
        · first | omega | rfl | (intro hg; simp only [nrmT] at hg; omega) | (intro g1 g2; simp [g1, g2]; done) | (intro g1; simp at g1 ⊢; simp [g1]; done) | (simp only [nrmT] at *; omega) | (simp at * <;> omega) | (simp_all <;> omega) | (simp_all; done)
        · first | omega | rfl | (intro hg; simp only [nrmT] at hg; omega) | (intro g1 g2; simp [g1, g2]; done) | (intro g1; simp at g1 ⊢; simp [g1]; done) | (simp only [nrmT] at *; omega) | (simp at * <;> omega) | (simp_all <;> omega) | (simp_all; done)
    · intro best i hJ
      obtain ⟨h4, h5, h6⟩ := hJ
      refine ⟨?_, ?_⟩
      · intro b1
        try simp only [nrmT] at b1
        refine ⟨?_, ?_, ?_, rfl, rfl, i_isStabbed_pc ((list.getD i.toNat (0, 0)).1) ((list.getD i.toNat (0, 0)).2) points, id, id, fun _ => by decide, fun _ => by decide, id, id, id, ?_, ?_, id, fun _ => by decide, fun _ => by decide, id, ?_, id, id, id, fun _ _ => rfl, ?_, rfl, id, fun _ => rfl, ?_, ?_⟩
        · first | omega | rfl | (intro hg; simp only [nrmT] at hg; omega) | (intro g1 g2; simp [g1, g2]; done) | (intro g1; simp at g1 ⊢; simp [g1]; done) | (simp only [nrmT] at *; omega) | (simp at * <;> omega) | (simp_all <;> omega) | (simp_all; done)
        · first | omega | rfl | (intro hg; simp only [nrmT] at hg; omega) | (intro g1 g2; simp [g1, g2]; done) | (intro g1; simp at g1 ⊢; simp [g1]; done) | (simp only [nrmT] at *; omega) | (simp at * <;> omega) | (simp_all <;> omega) | (simp_all; done)
        · first | omega | rfl | (intro hg; simp only [nrmT] at hg; omega) | (intro g1 g2; simp [g1, g2]; done) | (intro g1; simp at g1 ⊢; simp [g1]; done) | (simp only [nrmT] at *; omega) | (simp at * <;> omega) | (simp_all <;> omega) | (simp_all; done)
        · first | omega | rfl | (intro hg; simp only [nrmT] at hg; omega) | (intro g1 g2; simp [g1, g2]; done) | (intro g1; simp at g1 ⊢; simp [g1]; done) | (simp only [nrmT] at *; omega) | (simp at * <;> omega) | (simp_all <;> omega) | (simp_all; done)
        · first | (intro _; have := (nextTo_facts list points i.toNat).1; omega) | (have := (nextTo_facts list points i.toNat).1; omega)
        · first | (intro _; have := (nextTo_facts list points i.toNat).1; omega) | (have := (nextTo_facts list points i.toNat).1; omega)
        · first | omega | rfl | (intro hg; simp only [nrmT] at hg; omega) | (intro g1 g2; simp [g1, g2]; done) | (intro g1; simp at g1 ⊢; simp [g1]; done) | (simp only [nrmT] at *; omega) | (simp at * <;> omega) | (simp_all <;> omega) | (simp_all; done)
        · intro b2
          refine ⟨?_, ?_⟩
          · first | omega | rfl | (intro hg; simp only [nrmT] at hg; omega) | (intro g1 g2; simp [g1, g2]; done) | (intro g1; simp at g1 ⊢; simp [g1]; done) | (simp only [nrmT] at *; omega) | (simp at * <;> omega) | (simp_all <;> omega) | (simp_all; done)
          · refine ⟨i, (i + 1), ?_⟩
            refine ⟨?_, ?_, rfl, rfl, rfl, rfl, rfl, rfl, rfl, rfl, rfl⟩
            · refine ⟨?_, ?_, ?_⟩
              · first | omega | rfl | (intro hg; simp only [nrmT] at hg; omega) | (intro g1 g2; simp [g1, g2]; done) | (intro g1; simp at g1 ⊢; simp [g1]; done) | (simp only [nrmT] at *; omega) | (simp at * <;> omega) | (simp_all <;> omega) | (simp_all; done)
              · first | omega | rfl | (intro hg; simp only [nrmT] at hg; omega) | (intro g1 g2; simp [g1, g2]; done) | (intro g1; simp at g1 ⊢; simp [g1]; done) | (simp only [nrmT] at *; omega) | (simp at * <;> omega) | (simp_all <;> omega) | (simp_all; done)
              · rw [cond_and_or] at b2
                rw [show (i + 1).toNat = i.toNat + 1 by omega, nextTo_succ, ← h6]
                unfold nextF
                rw [if_pos b2]; omega
            · first | (show _ < _; omega) | (simp only [i_stab_mJ1]; omega) | (simp only [i_stab_mJ1] at *; simp at *; omega)
        · intro b3
          refine ⟨?_, ?_⟩
          · first | omega | rfl | (intro hg; simp only [nrmT] at hg; omega) | (intro g1 g2; simp [g1, g2]; done) | (intro g1; simp at g1 ⊢; simp [g1]; done) | (simp only [nrmT] at *; omega) | (simp at * <;> omega) | (simp_all <;> omega) | (simp_all; done)
          · refine ⟨best, (i + 1), ?_⟩
            refine ⟨?_, ?_, rfl, rfl, rfl, rfl, rfl, rfl, rfl, rfl, rfl⟩
            · refine ⟨?_, ?_, ?_⟩
              · first | omega | rfl | (intro hg; simp only [nrmT] at hg; omega) | (intro g1 g2; simp [g1, g2]; done) | (intro g1; simp at g1 ⊢; simp [g1]; done) | (simp only [nrmT] at *; omega) | (simp at * <;> omega) | (simp_all <;> omega) | (simp_all; done)
              · first | omega | rfl | (intro hg; simp only [nrmT] at hg; omega) | (intro g1 g2; simp [g1, g2]; done) | (intro g1; simp at g1 ⊢; simp [g1]; done) | (simp only [nrmT] at *; omega) | (simp at * <;> omega) | (simp_all <;> omega) | (simp_all; done)
              · rw [cond_and_or] at b3
                rw [show (i + 1).toNat = i.toNat + 1 by omega, nextTo_succ, ← h6]
                unfold nextF
                rw [if_neg (by rw [b3]; decide)]
            · first | (show _ < _; omega) | (simp only [i_stab_mJ1]; omega) | (simp only [i_stab_mJ1] at *; simp at *; omega)
      · intro b4
        try simp only [nrmT] at b4
        refine ⟨?_, ?_⟩
        · intro b5
          try simp only [nrmT] at b5
          refine ⟨rfl, ?_, rfl, ?_⟩
          · have eb : best = nextIv list points := by unfold nextIv; rw [h6, show i.toNat = list.length by omega]
            rw [← h1, stabs_stop (by rw [← eb]; omega)]
          · have eb : best = nextIv list points := by unfold nextIv; rw [h6, show i.toNat = list.length by omega]
            rw [← h1, stabs_stop (by rw [← eb]; omega)]
        · intro b6
          try simp only [nrmT] at b6
          refine ⟨?_, ?_, by decide, by decide, ?_, rfl, rfl, ?_, rfl, rfl, ?_, ?_⟩
          · first | omega | rfl | (intro hg; simp only [nrmT] at hg; omega) | (intro g1 g2; simp [g1, g2]; done) | (intro g1; simp at g1 ⊢; simp [g1]; done) | (simp only [nrmT] at *; omega) | (simp at * <;> omega) | (simp_all <;> omega) | (simp_all; done)
          · first | (intro _; have := (nextTo_facts list points i.toNat).1; omega) | (have := (nextTo_facts list points i.toNat).1; omega)
          · first | (intro _; have := (nextTo_facts list points i.toNat).1; omega) | (have := (nextTo_facts list points i.toNat).1; omega)
          · have := goodIvs_len hg
            omega
          · have := goodIvs_len hg
            omega
          · refine ⟨(points ++ [(list.getD best.toNat (0, 0)).2]), (fs ++ [best]), ?_⟩
            refine ⟨?_, ?_, rfl, ?_, ?_, rfl, rfl⟩
            · refine ⟨?_, ?_, ?_⟩
              · have eb : best = nextIv list points := by unfold nextIv; rw [h6, show i.toNat = list.length by omega]
                rw [← h1, eb]
                exact stabs_step hg (by rw [← eb]; omega)
              · have eb : best = nextIv list points := by unfold nextIv; rw [h6, show i.toNat = list.length by omega]
                have := unst_step hg (points := points) (by rw [← eb]; omega)
                rw [eb]
                simp only [List.length_append, List.length_cons, List.length_nil]
                omega
              · simp [h3]
            · have eb : best = nextIv list points := by unfold nextIv; rw [h6, show i.toNat = list.length by omega]
              have := unst_step hg (points := points) (by rw [← eb]; omega)
              show unst list _ < unst list points
              rw [eb]; exact this
            · simp
            · simp
theorem i_stab_pc (list : List (Int × Int)) (hg : goodIvs list = true) : PC Try.prog 110 [.sl (.pairs list)] (.tup [.own 3 (.ints ((stabs list [] []).1)), .own 3 (.ints ((stabs list [] []).2))]) :=
  pc_wf @Try.call110 fun hw => pc_by (by kernel_rfl) Try.func110 @Try.call110 (by kernel_rfl) i_stab_C (i_stab_A list) (by kernel_rfl) (i_stab_vc list hg hw.1) (by kernel_rfl)
def i_stab_orc : List D → Orc := orcN [some .pairs] fun ds => match ds with
  | [.sl (.pairs list)] => some (.tup [.own 3 (.ints ((stabs list [] []).1)), .own 3 (.ints ((stabs list [] []).2))])
  | _ => none
abbrev s_l6Points_JJ0 (list : List (Int × Int)) (points : List Int) (fs : List Int) : Prop := (stabs list points fs = stabs list [] []) ∧ (points.length + unst list points ≤ list.length) ∧ (fs.length = points.length)
abbrev s_l6Points_mJ0 (list : List (Int × Int)) (points : List Int) (fs : List Int) : Nat := unst list points
abbrev s_l6Points_JJ1 (list : List (Int × Int)) (points : List Int) (fs : List Int) (best : Int) (i : Int) : Prop := (0 ≤ i) ∧ (i ≤ (list.length : Int)) ∧ (best = nextTo list points i.toNat)
abbrev s_l6Points_mJ1 (list : List (Int × Int)) (points : List Int) (fs : List Int) (best : Int) (i : Int) : Nat := (list.length - i).toNat
def s_l6Points_C (f : FuncId) (ds : List D) : Orc := bif Nat.beq f 199 then s_l6Stabbed_orc ds else .no
def s_l6Points_A (list : List (Int × Int)) : Ann := .two (.none) (.two (.none) (.loop (cut2 (fun (points : List Int) (fs : List Int) => s_l6Points_JJ0 list points fs) (fun (points : List Int) (fs : List Int) => [(0, .d false (.sl (.pairs list))), (4, .own 1000000 points.length), (5, .own 1000001 fs.length)]) (fun (points : List Int) (fs : List Int) => [(1000000, .arr true 3 (.ints points)), (1000001, .arr true 3 (.ints fs))])) (fun g => s_l6Points_mJ0 list g.1 g.2) (fun g => (fun (points : List Int) (fs : List Int) => .two (.none) (.two (.two (.none) (.loop (cut2 (fun (best : Int) (i : Int) => s_l6Points_JJ1 list points fs best i) (fun (best : Int) (i : Int) => [(0, .d false (.sl (.pairs list))), (4, .own 1000000 points.length), (5, .own 1000001 fs.length), (6, .d true (.int .i64 best)), (7, .d true (.int .i64 i))]) (fun (best : Int) (i : Int) => [(1000000, .arr true 3 (.ints points)), (1000001, .arr true 3 (.ints fs))])) (fun g => s_l6Points_mJ1 list points fs g.1 g.2) (fun _ => .none))) (.none))) (g.1) (g.2))))
def s_l6Points_P (list : List (Int × Int)) : Prop :=
  ((∃ points' : List Int, ∃ fs' : List Int, (s_l6Points_JJ0 list points' fs') ∧ (list = list) ∧ ((0 : Nat) = points'.length) ∧ ((0 : Nat) = fs'.length) ∧ ([] = points') ∧ ([] = fs')) ∧ (∀ points : List Int, ∀ fs : List Int, (s_l6Points_JJ0 list points fs) → ((∃ best' : Int, ∃ i' : Int, (s_l6Points_JJ1 list points fs best' i') ∧ (list = list) ∧ (points.length = points.length) ∧ (fs.length = fs.length) ∧ (((-1) : Int) = best') ∧ ((0 : Int) = i') ∧ (points = points) ∧ (fs = fs)) ∧ (∀ best : Int, ∀ i : Int, (s_l6Points_JJ1 list points fs best i) → (((decide (i < (list.length : Int))) = true → (true = true) ∧ ((0 : Int) ≤ i) ∧ ((i : Int) < list.length) ∧ (i.toNat < list.length) ∧ (points.length = points.length) ∧ (PC Try.prog 199 [.agg [.int .i64 ((list.getD i.toNat (0, 0)).1), .int .i64 ((list.getD i.toNat (0, 0)).2)], .sl (.ints points)] (.one (.d (.bool (stabbed ((list.getD i.toNat (0, 0)).1) ((list.getD i.toNat (0, 0)).2) points))))) ∧ ((!(stabbed ((list.getD i.toNat (0, 0)).1) ((list.getD i.toNat (0, 0)).2) points)) = true → (!(stabbed ((list.getD i.toNat (0, 0)).1) ((list.getD i.toNat (0, 0)).2) points)) = true) ∧ ((!(stabbed ((list.getD i.toNat (0, 0)).1) ((list.getD i.toNat (0, 0)).2) points)) = true → (!(stabbed ((list.getD i.toNat (0, 0)).1) ((list.getD i.toNat (0, 0)).2) points)) = true) ∧ (((!(stabbed ((list.getD i.toNat (0, 0)).1) ((list.getD i.toNat (0, 0)).2) points)) && (!(decide (best < 0)))) = true → ((!(stabbed ((list.getD i.toNat (0, 0)).1) ((list.getD i.toNat (0, 0)).2) points)) && (!(decide (best < 0)))) = true) ∧ (((!(stabbed ((list.getD i.toNat (0, 0)).1) ((list.getD i.toNat (0, 0)).2) points)) && (!(decide (best < 0)))) = true → ((!(stabbed ((list.getD i.toNat (0, 0)).1) ((list.getD i.toNat (0, 0)).2) points)) && (!(decide (best < 0)))) = true) ∧ ((((!(stabbed ((list.getD i.toNat (0, 0)).1) ((list.getD i.toNat (0, 0)).2) points)) && (!(decide (best < 0)))) = true → (0 : Int) ≤ i)) ∧ ((((!(stabbed ((list.getD i.toNat (0, 0)).1) ((list.getD i.toNat (0, 0)).2) points)) && (!(decide (best < 0)))) = true → (i : Int) < list.length)) ∧ (((!(stabbed ((list.getD i.toNat (0, 0)).1) ((list.getD i.toNat (0, 0)).2) points)) && (!(decide (best < 0)))) = true → ((!(stabbed ((list.getD i.toNat (0, 0)).1) ((list.getD i.toNat (0, 0)).2) points)) && (!(decide (best < 0)))) = true) ∧ ((((!(stabbed ((list.getD i.toNat (0, 0)).1) ((list.getD i.toNat (0, 0)).2) points)) && (!(decide (best < 0)))) = true → (0 : Int) ≤ 1)) ∧ ((((!(stabbed ((list.getD i.toNat (0, 0)).1) ((list.getD i.toNat (0, 0)).2) points)) && (!(decide (best < 0)))) = true → (1 : Int) < 2)) ∧ (((!(stabbed ((list.getD i.toNat (0, 0)).1) ((list.getD i.toNat (0, 0)).2) points)) && (!(decide (best < 0)))) = true → ((!(stabbed ((list.getD i.toNat (0, 0)).1) ((list.getD i.toNat (0, 0)).2) points)) && (!(decide (best < 0)))) = true) ∧ ((((!(stabbed ((list.getD i.toNat (0, 0)).1) ((list.getD i.toNat (0, 0)).2) points)) && (!(decide (best < 0)))) = true → i.toNat < list.length)) ∧ (((!(stabbed ((list.getD i.toNat (0, 0)).1) ((list.getD i.toNat (0, 0)).2) points)) && (!(decide (best < 0)))) = true → ((!(stabbed ((list.getD i.toNat (0, 0)).1) ((list.getD i.toNat (0, 0)).2) points)) && (!(decide (best < 0)))) = true) ∧ (((!(stabbed ((list.getD i.toNat (0, 0)).1) ((list.getD i.toNat (0, 0)).2) points)) && (!(decide (best < 0)))) = true → ((!(stabbed ((list.getD i.toNat (0, 0)).1) ((list.getD i.toNat (0, 0)).2) points)) && (!(decide (best < 0)))) = true) ∧ ((((!(stabbed ((list.getD i.toNat (0, 0)).1) ((list.getD i.toNat (0, 0)).2) points)) && (!(decide (best < 0)))) = true → (0 : Int) ≤ best)) ∧ ((((!(stabbed ((list.getD i.toNat (0, 0)).1) ((list.getD i.toNat (0, 0)).2) points)) && (!(decide (best < 0)))) = true → (best : Int) < list.length)) ∧ (((!(stabbed ((list.getD i.toNat (0, 0)).1) ((list.getD i.toNat (0, 0)).2) points)) && (!(decide (best < 0)))) = true → ((!(stabbed ((list.getD i.toNat (0, 0)).1) ((list.getD i.toNat (0, 0)).2) points)) && (!(decide (best < 0)))) = true) ∧ ((((!(stabbed ((list.getD i.toNat (0, 0)).1) ((list.getD i.toNat (0, 0)).2) points)) && (!(decide (best < 0)))) = true → (0 : Int) ≤ 1)) ∧ ((((!(stabbed ((list.getD i.toNat (0, 0)).1) ((list.getD i.toNat (0, 0)).2) points)) && (!(decide (best < 0)))) = true → (1 : Int) < 2)) ∧ (((!(stabbed ((list.getD i.toNat (0, 0)).1) ((list.getD i.toNat (0, 0)).2) points)) && (!(decide (best < 0)))) = true → ((!(stabbed ((list.getD i.toNat (0, 0)).1) ((list.getD i.toNat (0, 0)).2) points)) && (!(decide (best < 0)))) = true) ∧ ((((!(stabbed ((list.getD i.toNat (0, 0)).1) ((list.getD i.toNat (0, 0)).2) points)) && (!(decide (best < 0)))) = true → best.toNat < list.length)) ∧ (((!(stabbed ((list.getD i.toNat (0, 0)).1) ((list.getD i.toNat (0, 0)).2) points)) && (!(decide (best < 0)))) = true → ((!(stabbed ((list.getD i.toNat (0, 0)).1) ((list.getD i.toNat (0, 0)).2) points)) && (!(decide (best < 0)))) = true) ∧ (((!(stabbed ((list.getD i.toNat (0, 0)).1) ((list.getD i.toNat (0, 0)).2) points)) && (!(decide (best < 0)))) = true → ((!(stabbed ((list.getD i.toNat (0, 0)).1) ((list.getD i.toNat (0, 0)).2) points)) && (!(decide (best < 0)))) = true) ∧ (((!(stabbed ((list.getD i.toNat (0, 0)).1) ((list.getD i.toNat (0, 0)).2) points)) = true → (!(stabbed ((list.getD i.toNat (0, 0)).1) ((list.getD i.toNat (0, 0)).2) points)) = true)) ∧ (((!(stabbed ((list.getD i.toNat (0, 0)).1) ((list.getD i.toNat (0, 0)).2) points)) = true → (decide (best < 0)) = true → true = true)) ∧ (((!(stabbed ((list.getD i.toNat (0, 0)).1) ((list.getD i.toNat (0, 0)).2) points)) = true → (decide (best < 0)) = false → ((!(stabbed ((list.getD i.toNat (0, 0)).1) ((list.getD i.toNat (0, 0)).2) points)) && (!(decide (best < 0)))) = true)) ∧ (true = true) ∧ (((!(stabbed ((list.getD i.toNat (0, 0)).1) ((list.getD i.toNat (0, 0)).2) points)) = true → (!(stabbed ((list.getD i.toNat (0, 0)).1) ((list.getD i.toNat (0, 0)).2) points)) = true)) ∧ (((!(stabbed ((list.getD i.toNat (0, 0)).1) ((list.getD i.toNat (0, 0)).2) points)) = false → true = true)) ∧ (((cond (!(stabbed ((list.getD i.toNat (0, 0)).1) ((list.getD i.toNat (0, 0)).2) points)) (cond (decide (best < 0)) true (decide ((list.getD i.toNat (0, 0)).2 < (list.getD best.toNat (0, 0)).2))) false) = true → (-9223372036854775808 ≤ (i + 1) ∧ (i + 1) ≤ 9223372036854775807) ∧ (∃ best' : Int, ∃ i' : Int, (s_l6Points_JJ1 list points fs best' i') ∧ (s_l6Points_mJ1 list points fs best' i' < s_l6Points_mJ1 list points fs best i) ∧ (list = list) ∧ (points.length = points.length) ∧ (fs.length = fs.length) ∧ (i = best') ∧ ((i + 1) = i') ∧ (points = points) ∧ (fs = fs))) ∧ ((cond (!(stabbed ((list.getD i.toNat (0, 0)).1) ((list.getD i.toNat (0, 0)).2) points)) (cond (decide (best < 0)) true (decide ((list.getD i.toNat (0, 0)).2 < (list.getD best.toNat (0, 0)).2))) false) = false → (-9223372036854775808 ≤ (i + 1) ∧ (i + 1) ≤ 9223372036854775807) ∧ (∃ best' : Int, ∃ i' : Int, (s_l6Points_JJ1 list points fs best' i') ∧ (s_l6Points_mJ1 list points fs best' i' < s_l6Points_mJ1 list points fs best i) ∧ (list = list) ∧ (points.length = points.length) ∧ (fs.length = fs.length) ∧ (best = best') ∧ ((i + 1) = i') ∧ (points = points) ∧ (fs = fs))))) ∧ ((decide (i < (list.length : Int))) = false → (((decide (best < 0)) = true → ((points.length = points.length) ∧ ((points : List Int) = (stabs list [] []).1) ∧ (fs.length = fs.length) ∧ ((fs : List Int) = (stabs list [] []).2))) ∧ ((decide (best < 0)) = false → ((0 : Int) ≤ best) ∧ ((best : Int) < list.length) ∧ ((0 : Int) ≤ 1) ∧ ((1 : Int) < 2) ∧ (best.toNat < list.length) ∧ (points.length = points.length) ∧ ((1 : Nat) = 1) ∧ ((points.length + 1) * 8 ≤ 140737488355328) ∧ (fs.length = fs.length) ∧ ((1 : Nat) = 1) ∧ ((fs.length + 1) * 8 ≤ 140737488355328) ∧ (∃ points' : List Int, ∃ fs' : List Int, (s_l6Points_JJ0 list points' fs') ∧ (s_l6Points_mJ0 list points' fs' < s_l6Points_mJ0 list points fs) ∧ (list = list) ∧ ((points.length + 1) = points'.length) ∧ ((fs.length + 1) = fs'.length) ∧ ((points ++ [(list.getD best.toNat (0, 0)).2]) = points') ∧ ((fs ++ [best]) = fs'))))))))))
theorem s_l6Points_vc (list : List (Int × Int)) (hg : goodIvs list = true) (w_list : (list.length : Int) ≤ 9223372036854775807) : s_l6Points_P list := by
  unfold s_l6Points_P
  refine ⟨?_, ?_⟩
  · refine ⟨([]), ([]), ?_⟩
    refine ⟨?_, rfl, rfl, rfl, ?_, ?_⟩
    · refine ⟨?_, ?_, ?_⟩
      · first | omega | rfl | (intro hg; simp only [nrmT] at hg; omega) | (intro g1 g2; simp [g1, g2]; done) | (intro g1; simp at g1 ⊢; simp [g1]; done) | (simp only [nrmT] at *; omega) | (simp at * <;> omega) | (simp_all <;> omega) | (simp_all; done)
      · have := unst_le list []
        simp only [List.length_nil]; omega
      · first | omega | rfl | (intro hg; simp only [nrmT] at hg; omega) | (intro g1 g2; simp [g1, g2]; done) | (intro g1; simp at g1 ⊢; simp [g1]; done) | (simp only [nrmT] at *; omega) | (simp at * <;> omega) | (simp_all <;> omega) | (simp_all; done)
    · first | omega | rfl | (intro hg; simp only [nrmT] at hg; omega) | (intro g1 g2; simp [g1, g2]; done) | (intro g1; simp at g1 ⊢; simp [g1]; done) | (simp only [nrmT] at *; omega) | (simp at * <;> omega) | (simp_all <;> omega) | (simp_all; done)
    · first | omega | rfl | (intro hg; simp only [nrmT] at hg; omega) | (intro g1 g2; simp [g1, g2]; done) | (intro g1; simp at g1 ⊢; simp [g1]; done) | (simp only [nrmT] at *; omega) | (simp at * <;> omega) | (simp_all <;> omega) | (simp_all; done)
  · intro points fs hJ
    obtain ⟨h1, h2, h3⟩ := hJ
    refine ⟨?_, ?_⟩
    · refine ⟨(-1), 0, ?_⟩
      refine ⟨?_, rfl, rfl, rfl, rfl, rfl, rfl, rfl⟩
      · refine ⟨?_, ?_, ?_⟩
        · first | omega | rfl | (intro hg; simp only [nrmT] at hg; omega) | (intro g1 g2; simp [g1, g2]; done) | (intro g1; simp at g1 ⊢; simp [g1]; done) | (simp only [nrmT] at *; omega) | (simp at * <;> omega) | (simp_all <;> omega) | (simp_all; done)
        · first | omega | rfl | (intro hg; simp only [nrmT] at hg; omega) | (intro g1 g2; simp [g1, g2]; done) | (intro g1; simp at g1 ⊢; simp [g1]; done) | (simp only [nrmT] at *; omega) | (simp at * <;> omega) | (simp_all <;> omega) | (simp_all; done)
        · first | omega | rfl | (intro hg; simp only [nrmT] at hg; omega) | (intro g1 g2; simp [g1, g2]; done) | (intro g1; simp at g1 ⊢; simp [g1]; done) | (simp only [nrmT] at *; omega) | (simp at * <;> omega) | (simp_all <;> omega) | (simp_all; done)
    · intro best i hJ
      obtain ⟨h4, h5, h6⟩ := hJ
      refine ⟨?_, ?_⟩
      · intro b1
        try simp only [nrmT] at b1
        refine ⟨rfl, ?_, ?_, ?_, rfl, s_l6Stabbed_pc ((list.getD i.toNat (0, 0)).1) ((list.getD i.toNat (0, 0)).2) points, id, id, id, id, ?_, ?_, id, fun _ => by decide, fun _ => by decide, id, ?_, id, id, ?_, ?_, id, fun _ => by decide, fun _ => by decide, id, ?_, id, id, id, fun _ _ => rfl, ?_, rfl, id, fun _ => rfl, ?_, ?_⟩
        · first | omega | rfl | (intro hg; simp only [nrmT] at hg; omega) | (intro g1 g2; simp [g1, g2]; done) | (intro g1; simp at g1 ⊢; simp [g1]; done) | (simp only [nrmT] at *; omega) | (simp at * <;> omega) | (simp_all <;> omega) | (simp_all; done)
        · first | omega | rfl | (intro hg; simp only [nrmT] at hg; omega) | (intro g1 g2; simp [g1, g2]; done) | (intro g1; simp at g1 ⊢; simp [g1]; done) | (simp only [nrmT] at *; omega) | (simp at * <;> omega) | (simp_all <;> omega) | (simp_all; done)
        · first | omega | rfl | (intro hg; simp only [nrmT] at hg; omega) | (intro g1 g2; simp [g1, g2]; done) | (intro g1; simp at g1 ⊢; simp [g1]; done) | (simp only [nrmT] at *; omega) | (simp at * <;> omega) | (simp_all <;> omega) | (simp_all; done)
        · intro _; omega
        · intro _; omega
        · intro _; omega
        · first | omega | rfl | (intro hg; simp only [nrmT] at hg; omega) | (intro g1 g2; simp [g1, g2]; done) | (intro g1; simp at g1 ⊢; simp [g1]; done) | (simp only [nrmT] at *; omega) | (simp at * <;> omega) | (simp_all <;> omega) | (simp_all; done)
        · first | (intro _; have := (nextTo_facts list points i.toNat).1; omega) | (have := (nextTo_facts list points i.toNat).1; omega)
        · first | (intro _; have := (nextTo_facts list points i.toNat).1; omega) | (have := (nextTo_facts list points i.toNat).1; omega)
        · first | omega | rfl | (intro hg; simp only [nrmT] at hg; omega) | (intro g1 g2; simp [g1, g2]; done) | (intro g1; simp at g1 ⊢; simp [g1]; done) | (simp only [nrmT] at *; omega) | (simp at * <;> omega) | (simp_all <;> omega) | (simp_all; done)
        · intro b2
          refine ⟨?_, ?_⟩
          · first | omega | rfl | (intro hg; simp only [nrmT] at hg; omega) | (intro g1 g2; simp [g1, g2]; done) | (intro g1; simp at g1 ⊢; simp [g1]; done) | (simp only [nrmT] at *; omega) | (simp at * <;> omega) | (simp_all <;> omega) | (simp_all; done)
          · refine ⟨i, (i + 1), ?_⟩
            refine ⟨?_, ?_, rfl, rfl, rfl, rfl, rfl, rfl, rfl⟩
            · refine ⟨?_, ?_, ?_⟩
              · first | omega | rfl | (intro hg; simp only [nrmT] at hg; omega) | (intro g1 g2; simp [g1, g2]; done) | (intro g1; simp at g1 ⊢; simp [g1]; done) | (simp only [nrmT] at *; omega) | (simp at * <;> omega) | (simp_all <;> omega) | (simp_all; done)
              · first | omega | rfl | (intro hg; simp only [nrmT] at hg; omega) | (intro g1 g2; simp [g1, g2]; done) | (intro g1; simp at g1 ⊢; simp [g1]; done) | (simp only [nrmT] at *; omega) | (simp at * <;> omega) | (simp_all <;> omega) | (simp_all; done)
              · rw [cond_and_or] at b2
                rw [show (i + 1).toNat = i.toNat + 1 by omega, nextTo_succ, ← h6]
                unfold nextF
                rw [if_pos b2]; omega
            · first | (show _ < _; omega) | (simp only [s_l6Points_mJ1]; omega) | (simp only [s_l6Points_mJ1] at *; simp at *; omega)
        · intro b3
          refine ⟨?_, ?_⟩
          · first | omega | rfl | (intro hg; simp only [nrmT] at hg; omega) | (intro g1 g2; simp [g1, g2]; done) | (intro g1; simp at g1 ⊢; simp [g1]; done) | (simp only [nrmT] at *; omega) | (simp at * <;> omega) | (simp_all <;> omega) | (simp_all; done)
          · refine ⟨best, (i + 1), ?_⟩
            refine ⟨?_, ?_, rfl, rfl, rfl, rfl, rfl, rfl, rfl⟩
            · refine ⟨?_, ?_, ?_⟩
              · first | omega | rfl | (intro hg; simp only [nrmT] at hg; omega) | (intro g1 g2; simp [g1, g2]; done) | (intro g1; simp at g1 ⊢; simp [g1]; done) | (simp only [nrmT] at *; omega) | (simp at * <;> omega) | (simp_all <;> omega) | (simp_all; done)
              · first | omega | rfl | (intro hg; simp only [nrmT] at hg; omega) | (intro g1 g2; simp [g1, g2]; done) | (intro g1; simp at g1 ⊢; simp [g1]; done) | (simp only [nrmT] at *; omega) | (simp at * <;> omega) | (simp_all <;> omega) | (simp_all; done)
              · rw [cond_and_or] at b3
                rw [show (i + 1).toNat = i.toNat + 1 by omega, nextTo_succ, ← h6]
                unfold nextF
                rw [if_neg (by rw [b3]; decide)]
            · first | (show _ < _; omega) | (simp only [s_l6Points_mJ1]; omega) | (simp only [s_l6Points_mJ1] at *; simp at *; omega)
      · intro b4
        try simp only [nrmT] at b4
        refine ⟨?_, ?_⟩
        · intro b5
          try simp only [nrmT] at b5
          refine ⟨rfl, ?_, rfl, ?_⟩
          · have eb : best = nextIv list points := by unfold nextIv; rw [h6, show i.toNat = list.length by omega]
            rw [← h1, stabs_stop (by rw [← eb]; omega)]
          · have eb : best = nextIv list points := by unfold nextIv; rw [h6, show i.toNat = list.length by omega]
            rw [← h1, stabs_stop (by rw [← eb]; omega)]
        · intro b6
          try simp only [nrmT] at b6
          refine ⟨?_, ?_, by decide, by decide, ?_, rfl, rfl, ?_, rfl, rfl, ?_, ?_⟩
          · first | omega | rfl | (intro hg; simp only [nrmT] at hg; omega) | (intro g1 g2; simp [g1, g2]; done) | (intro g1; simp at g1 ⊢; simp [g1]; done) | (simp only [nrmT] at *; omega) | (simp at * <;> omega) | (simp_all <;> omega) | (simp_all; done)
          · first | (intro _; have := (nextTo_facts list points i.toNat).1; omega) | (have := (nextTo_facts list points i.toNat).1; omega)
          · first | (intro _; have := (nextTo_facts list points i.toNat).1; omega) | (have := (nextTo_facts list points i.toNat).1; omega)
          · have := goodIvs_len hg
            omega
          · have := goodIvs_len hg
            omega
          · refine ⟨(points ++ [(list.getD best.toNat (0, 0)).2]), (fs ++ [best]), ?_⟩
            refine ⟨?_, ?_, rfl, ?_, ?_, rfl, rfl⟩
            · refine ⟨?_, ?_, ?_⟩
              · have eb : best = nextIv list points := by unfold nextIv; rw [h6, show i.toNat = list.length by omega]
                rw [← h1, eb]
                exact stabs_step hg (by rw [← eb]; omega)
              · have eb : best = nextIv list points := by unfold nextIv; rw [h6, show i.toNat = list.length by omega]
                have := unst_step hg (points := points) (by rw [← eb]; omega)
                rw [eb]
                simp only [List.length_append, List.length_cons, List.length_nil]
                omega
              · simp [h3]
            · have eb : best = nextIv list points := by unfold nextIv; rw [h6, show i.toNat = list.length by omega]
              have := unst_step hg (points := points) (by rw [← eb]; omega)
              show unst list _ < unst list points
              rw [eb]; exact this
            · simp
            · simp
theorem s_l6Points_pc (list : List (Int × Int)) (hg : goodIvs list = true) : PC Try.prog 112 [.sl (.pairs list)] (.tup [.own 3 (.ints ((stabs list [] []).1)), .own 3 (.ints ((stabs list [] []).2))]) :=
  pc_wf @Try.call112 fun hw => pc_by (by kernel_rfl) Try.func112 @Try.call112 (by kernel_rfl) s_l6Points_C (s_l6Points_A list) (by kernel_rfl) (s_l6Points_vc list hg hw.1) (by kernel_rfl)
def s_l6Points_orc : List D → Orc := orcN [some .pairs] fun ds => match ds with
  | [.sl (.pairs list)] => some (.tup [.own 3 (.ints ((stabs list [] []).1)), .own 3 (.ints ((stabs list [] []).2))])
  | _ => none
def i_StabPoints_C (f : FuncId) (ds : List D) : Orc := bif Nat.beq f 109 then i_areIntervals_orc ds else bif Nat.beq f 110 then i_stab_orc ds else .no
def i_StabPoints_A (list : List (Int × Int)) : Ann := .none
def i_StabPoints_P (list : List (Int × Int)) : Prop :=
  (PC Try.prog 109 [.sl (.pairs list)] (.one (.d (.bool (goodIvs list))))) ∧ (((!(goodIvs list)) = true → (((stabP list).length = 0) ∧ (false = (goodIvs list)))) ∧ ((!(goodIvs list)) = false → (PC Try.prog 110 [.sl (.pairs list)] (.tup [.own 3 (.ints ((stabs list [] []).1)), .own 3 (.ints ((stabs list [] []).2))])) ∧ ((((stabs list [] []).1).length = ((stabs list [] []).1).length) ∧ (((stabs list [] []).1 : List Int) = stabP list) ∧ (true = (goodIvs list)))))
theorem i_StabPoints_vc (list : List (Int × Int))  (w_list : (list.length : Int) ≤ 9223372036854775807) : i_StabPoints_P list := by
  unfold i_StabPoints_P
  refine ⟨i_areIntervals_pc list, ?_, ?_⟩
  · intro b1
    try simp only [nrmT] at b1
    refine ⟨?_, ?_⟩
    · unfold stabP; rw [b1]; rfl
    · rw [b1]
  · intro b2
    try simp only [nrmT] at b2
    refine ⟨?_, rfl, ?_, ?_⟩
    · refine i_stab_pc list ?_
      · exact b2
    · unfold stabP; rw [if_pos b2]
    · rw [b2]
theorem i_StabPoints_pc (list : List (Int × Int))  : PC Try.prog 16 [.sl (.pairs list)] (.tup [.own 3 (.ints (stabP list)), .d (.bool (goodIvs list))]) :=
  pc_wf @Try.call16 fun hw => pc_by (by kernel_rfl) Try.func16 @Try.call16 (by kernel_rfl) i_StabPoints_C (i_StabPoints_A list) (by kernel_rfl) (i_StabPoints_vc list hw.1) (by kernel_rfl)
def i_StabPoints_orc : List D → Orc := orcN [some .pairs] fun ds => match ds with
  | [.sl (.pairs list)] => some (.tup [.own 3 (.ints (stabP list)), .d (.bool (goodIvs list))])
  | _ => none
def s_StabPoints_C (f : FuncId) (ds : List D) : Orc := bif Nat.beq f 111 then s_l6Intervals_orc ds else bif Nat.beq f 112 then s_l6Points_orc ds else .no
def s_StabPoints_A (list : List (Int × Int)) : Ann := .none
def s_StabPoints_P (list : List (Int × Int)) : Prop :=
  (PC Try.prog 111 [.sl (.pairs list)] (.one (.d (.bool (goodIvs list))))) ∧ (((!(goodIvs list)) = true → (((0 : Nat) = 0) ∧ (([] : List Int) = (stabP list)) ∧ (false = (goodIvs list)))) ∧ ((!(goodIvs list)) = false → (PC Try.prog 112 [.sl (.pairs list)] (.tup [.own 3 (.ints ((stabs list [] []).1)), .own 3 (.ints ((stabs list [] []).2))])) ∧ ((((stabs list [] []).1).length = ((stabs list [] []).1).length) ∧ (((stabs list [] []).1 : List Int) = (stabP list)) ∧ (true = (goodIvs list)))))
theorem s_StabPoints_vc (list : List (Int × Int))  (w_list : (list.length : Int) ≤ 9223372036854775807) : s_StabPoints_P list := by
  unfold s_StabPoints_P
  refine ⟨s_l6Intervals_pc list, ?_, ?_⟩
  · intro b1
    try simp only [nrmT] at b1
    refine ⟨rfl, ?_, ?_⟩
    · unfold stabP; rw [b1]; rfl
    · rw [b1]
  · intro b2
    try simp only [nrmT] at b2
    refine ⟨?_, rfl, ?_, ?_⟩
    · refine s_l6Points_pc list ?_
      · exact b2
    · unfold stabP; rw [if_pos b2]
    · rw [b2]
theorem s_StabPoints_pc (list : List (Int × Int))  : PC Try.prog 17 [.sl (.pairs list)] (.tup [.d (.sl (.ints (stabP list))), .d (.bool (goodIvs list))]) :=
  pc_wf @Try.call17 fun hw => pc_by (by kernel_rfl) Try.func17 @Try.call17 (by kernel_rfl) s_StabPoints_C (s_StabPoints_A list) (by kernel_rfl) (s_StabPoints_vc list hw.1) (by kernel_rfl)
def s_StabPoints_orc : List D → Orc := orcN [some .pairs] fun ds => match ds with
  | [.sl (.pairs list)] => some (.tup [.d (.sl (.ints (stabP list))), .d (.bool (goodIvs list))])
  | _ => none
def i_ApartIntervals_C (f : FuncId) (ds : List D) : Orc := bif Nat.beq f 109 then i_areIntervals_orc ds else bif Nat.beq f 110 then i_stab_orc ds else .no
def i_ApartIntervals_A (list : List (Int × Int)) : Ann := .none
def i_ApartIntervals_P (list : List (Int × Int)) : Prop :=
  (PC Try.prog 109 [.sl (.pairs list)] (.one (.d (.bool (goodIvs list))))) ∧ (((!(goodIvs list)) = true → (((stabB list).length = 0) ∧ (false = (goodIvs list)))) ∧ ((!(goodIvs list)) = false → (PC Try.prog 110 [.sl (.pairs list)] (.tup [.own 3 (.ints ((stabs list [] []).1)), .own 3 (.ints ((stabs list [] []).2))])) ∧ ((((stabs list [] []).2).length = ((stabs list [] []).2).length) ∧ (((stabs list [] []).2 : List Int) = stabB list) ∧ (true = (goodIvs list)))))
theorem i_ApartIntervals_vc (list : List (Int × Int))  (w_list : (list.length : Int) ≤ 9223372036854775807) : i_ApartIntervals_P list := by
  unfold i_ApartIntervals_P
  refine ⟨i_areIntervals_pc list, ?_, ?_⟩
  · intro b1
    try simp only [nrmT] at b1
    refine ⟨?_, ?_⟩
    · unfold stabB; rw [b1]; rfl
    · rw [b1]
  · intro b2
    try simp only [nrmT] at b2
    refine ⟨?_, rfl, ?_, ?_⟩
    · refine i_stab_pc list ?_
      · exact b2
    · unfold stabB; rw [if_pos b2]
    · rw [b2]
theorem i_ApartIntervals_pc (list : List (Int × Int))  : PC Try.prog 19 [.sl (.pairs list)] (.tup [.own 3 (.ints (stabB list)), .d (.bool (goodIvs list))]) :=
  pc_wf @Try.call19 fun hw => pc_by (by kernel_rfl) Try.func19 @Try.call19 (by kernel_rfl) i_ApartIntervals_C (i_ApartIntervals_A list) (by kernel_rfl) (i_ApartIntervals_vc list hw.1) (by kernel_rfl)
def i_ApartIntervals_orc : List D → Orc := orcN [some .pairs] fun ds => match ds with
  | [.sl (.pairs list)] => some (.tup [.own 3 (.ints (stabB list)), .d (.bool (goodIvs list))])
  | _ => none
def s_ApartIntervals_C (f : FuncId) (ds : List D) : Orc := bif Nat.beq f 111 then s_l6Intervals_orc ds else bif Nat.beq f 112 then s_l6Points_orc ds else .no
def s_ApartIntervals_A (list : List (Int × Int)) : Ann := .none
def s_ApartIntervals_P (list : List (Int × Int)) : Prop :=
  (PC Try.prog 111 [.sl (.pairs list)] (.one (.d (.bool (goodIvs list))))) ∧ (((!(goodIvs list)) = true → (((0 : Nat) = 0) ∧ (([] : List Int) = (stabB list)) ∧ (false = (goodIvs list)))) ∧ ((!(goodIvs list)) = false → (PC Try.prog 112 [.sl (.pairs list)] (.tup [.own 3 (.ints ((stabs list [] []).1)), .own 3 (.ints ((stabs list [] []).2))])) ∧ ((((stabs list [] []).2).length = ((stabs list [] []).2).length) ∧ (((stabs list [] []).2 : List Int) = (stabB list)) ∧ (true = (goodIvs list)))))
theorem s_ApartIntervals_vc (list : List (Int × Int))  (w_list : (list.length : Int) ≤ 9223372036854775807) : s_ApartIntervals_P list := by
  unfold s_ApartIntervals_P
  refine ⟨s_l6Intervals_pc list, ?_, ?_⟩
  · intro b1
    try simp only [nrmT] at b1
    refine ⟨rfl, ?_, ?_⟩
    · unfold stabB; rw [b1]; rfl
    · rw [b1]
  · intro b2
    try simp only [nrmT] at b2
    refine ⟨?_, rfl, ?_, ?_⟩
    · refine s_l6Points_pc list ?_
      · exact b2
    · unfold stabB; rw [if_pos b2]
    · rw [b2]
theorem s_ApartIntervals_pc (list : List (Int × Int))  : PC Try.prog 20 [.sl (.pairs list)] (.tup [.d (.sl (.ints (stabB list))), .d (.bool (goodIvs list))]) :=
  pc_wf @Try.call20 fun hw => pc_by (by kernel_rfl) Try.func20 @Try.call20 (by kernel_rfl) s_ApartIntervals_C (s_ApartIntervals_A list) (by kernel_rfl) (s_ApartIntervals_vc list hw.1) (by kernel_rfl)
def s_ApartIntervals_orc : List D → Orc := orcN [some .pairs] fun ds => match ds with
  | [.sl (.pairs list)] => some (.tup [.d (.sl (.ints (stabB list))), .d (.bool (goodIvs list))])
  | _ => none
theorem cond_and {a b : Bool} : cond a b false = (a && b) := by cases a <;> rfl
/-- How far a cursor has read, and its seed. -/
structure Cur where
  pos : Int
  seed : Int
abbrev cur0 : Cur := ⟨0, 0⟩
def okC (c : Cur) (b : Int) : Prop := 0 ≤ c.pos ∧ c.pos ≤ b ∧ 0 ≤ c.seed ∧ c.seed ≤ 18446744073709551615
theorem cond_cur_pos (g : Bool) (a b : Cur) : cond g a.pos b.pos = (cond g a b).pos := by cases g <;> rfl
theorem cond_cur_seed (g : Bool) (a b : Cur) : cond g a.seed b.seed = (cond g a b).seed := by cases g <;> rfl
def nxB (code : List Nat) (c : Cur) : Int := if c.pos < (code.length : Int) then ((code.getD c.pos.toNat 0 : Nat) : Int) else 0
def nextC (code : List Nat) (c : Cur) : Cur := ⟨c.pos + 1, IntKind.u64.wrap (IntKind.u64.wrap (IntKind.u64.wrap (c.seed * 6364136223846793005) + nxB code c) + 462197)⟩
def nextV (code : List Nat) (c : Cur) : Int := if c.pos + 1 ≤ (code.length : Int) then nxB code c else ((((nextC code c).seed / 2 ^ 40).toNat &&& 255 : Nat) : Int)
theorem wrap_u64 (n : Int) : 0 ≤ IntKind.u64.wrap n ∧ IntKind.u64.wrap n ≤ 18446744073709551615 := by
  have h : IntKind.u64.wrap n = n % 18446744073709551616 := rfl
  omega
theorem nxB_in {code : List Nat} (hb : ∀ x9 ∈ code, x9 < 256) (c : Cur) (h0 : 0 ≤ c.pos) : 0 ≤ nxB code c ∧ nxB code c ≤ 255 := by
  unfold nxB
  split
  · have := hb _ (getD_mem (d := 0) (show c.pos.toNat < code.length by omega))
    omega
  · omega
theorem and255 (n : Nat) : n &&& 255 ≤ 255 := Nat.and_le_right
theorem nextV_in {code : List Nat} (hb : ∀ x9 ∈ code, x9 < 256) {c : Cur} (h0 : 0 ≤ c.pos) : 0 ≤ nextV code c ∧ nextV code c ≤ 255 := by
  unfold nextV
  split
  · exact nxB_in hb c h0
  · have := and255 ((nextC code c).seed / 2 ^ 40).toNat
    omega
theorem ok_next {code : List Nat} {c : Cur} {b : Int} (h : okC c b) : okC (nextC code c) (b + 1) := by
  obtain ⟨h1, h2, _, _⟩ := h
  exact ⟨by show 0 ≤ c.pos + 1; omega, by show c.pos + 1 ≤ b + 1; omega, (wrap_u64 _).1, (wrap_u64 _).2⟩
theorem okC_le {c : Cur} {b b' : Int} (h : okC c b) (hb : b ≤ b') : okC c b' := ⟨h.1, Int.le_trans h.2.1 hb, h.2.2⟩
def s_l1Cur_next_C (f : FuncId) (ds : List D) : Orc := .no
def s_l1Cur_next_A (u : Value) (code : List Nat) (c : Cur) : Ann := .two (.none) (.two (.none) (.two (.none) (.two (.none) (.two (.reg [(5, .wrap), (8, .wrap), (9, .wrap)]) (.none)))))
def s_l1Cur_next_P (u : Value) (code : List Nat) (c : Cur) : Prop :=
  (true = true) ∧ (((decide (c.pos < (code.length : Int))) = true → (true = true) ∧ ((0 : Int) ≤ c.pos) ∧ ((c.pos : Int) < code.length) ∧ (c.pos.toNat < code.length) ∧ (-9223372036854775808 ≤ ((code.getD c.pos.toNat 0 : Nat) : Int) ∧ ((code.getD c.pos.toNat 0 : Nat) : Int) ≤ 9223372036854775807) ∧ (-9223372036854775808 ≤ (c.pos + 1) ∧ (c.pos + 1) ≤ 9223372036854775807) ∧ (0 ≤ ((code.getD c.pos.toNat 0 : Nat) : Int) ∧ ((code.getD c.pos.toNat 0 : Nat) : Int) ≤ 18446744073709551615) ∧ (true = true) ∧ (((decide ((c.pos + 1) ≤ (code.length : Int))) = true → (((.lit u (.sl (.bytes code)) : D) = .lit u (.sl (.bytes code))) ∧ ((c.pos + 1) = (nextC code c).pos) ∧ ((IntKind.u64.wrap ((IntKind.u64.wrap ((IntKind.u64.wrap (c.seed * 6364136223846793005)) + ((code.getD c.pos.toNat 0 : Nat) : Int))) + 462197)) = (nextC code c).seed) ∧ (((code.getD c.pos.toNat 0 : Nat) : Int) = (nextV code c)))) ∧ ((decide ((c.pos + 1) ≤ (code.length : Int))) = false → ((0 : Int) ≤ (IntKind.u64.wrap ((IntKind.u64.wrap ((IntKind.u64.wrap (c.seed * 6364136223846793005)) + ((code.getD c.pos.toNat 0 : Nat) : Int))) + 462197)) ∧ ((IntKind.u64.wrap ((IntKind.u64.wrap ((IntKind.u64.wrap (c.seed * 6364136223846793005)) + ((code.getD c.pos.toNat 0 : Nat) : Int))) + 462197)) : Int) ≤ 18446744073709551615) ∧ ((0 : Int) ≤ 40) ∧ ((0 : Int) ≤ ((IntKind.u64.wrap ((IntKind.u64.wrap ((IntKind.u64.wrap (c.seed * 6364136223846793005)) + ((code.getD c.pos.toNat 0 : Nat) : Int))) + 462197)) / 2 ^ 40) ∧ (((IntKind.u64.wrap ((IntKind.u64.wrap ((IntKind.u64.wrap (c.seed * 6364136223846793005)) + ((code.getD c.pos.toNat 0 : Nat) : Int))) + 462197)) / 2 ^ 40) : Int) ≤ 18446744073709551615) ∧ ((0 : Int) ≤ 255 ∧ (255 : Int) ≤ 18446744073709551615) ∧ (-9223372036854775808 ≤ ((((IntKind.u64.wrap ((IntKind.u64.wrap ((IntKind.u64.wrap (c.seed * 6364136223846793005)) + ((code.getD c.pos.toNat 0 : Nat) : Int))) + 462197)) / 2 ^ 40).toNat &&& 255 : Nat) : Int) ∧ ((((IntKind.u64.wrap ((IntKind.u64.wrap ((IntKind.u64.wrap (c.seed * 6364136223846793005)) + ((code.getD c.pos.toNat 0 : Nat) : Int))) + 462197)) / 2 ^ 40).toNat &&& 255 : Nat) : Int) ≤ 9223372036854775807) ∧ (((.lit u (.sl (.bytes code)) : D) = .lit u (.sl (.bytes code))) ∧ ((c.pos + 1) = (nextC code c).pos) ∧ ((IntKind.u64.wrap ((IntKind.u64.wrap ((IntKind.u64.wrap (c.seed * 6364136223846793005)) + ((code.getD c.pos.toNat 0 : Nat) : Int))) + 462197)) = (nextC code c).seed) ∧ (((((IntKind.u64.wrap ((IntKind.u64.wrap ((IntKind.u64.wrap (c.seed * 6364136223846793005)) + ((code.getD c.pos.toNat 0 : Nat) : Int))) + 462197)) / 2 ^ 40).toNat &&& 255 : Nat) : Int) = (nextV code c)))))) ∧ ((decide (c.pos < (code.length : Int))) = false → (-9223372036854775808 ≤ (c.pos + 1) ∧ (c.pos + 1) ≤ 9223372036854775807) ∧ (0 ≤ (0 : Int) ∧ (0 : Int) ≤ 18446744073709551615) ∧ (true = true) ∧ (((decide ((c.pos + 1) ≤ (code.length : Int))) = true → (((.lit u (.sl (.bytes code)) : D) = .lit u (.sl (.bytes code))) ∧ ((c.pos + 1) = (nextC code c).pos) ∧ ((IntKind.u64.wrap ((IntKind.u64.wrap ((IntKind.u64.wrap (c.seed * 6364136223846793005)) + 0)) + 462197)) = (nextC code c).seed) ∧ ((0 : Int) = (nextV code c)))) ∧ ((decide ((c.pos + 1) ≤ (code.length : Int))) = false → ((0 : Int) ≤ (IntKind.u64.wrap ((IntKind.u64.wrap ((IntKind.u64.wrap (c.seed * 6364136223846793005)) + 0)) + 462197)) ∧ ((IntKind.u64.wrap ((IntKind.u64.wrap ((IntKind.u64.wrap (c.seed * 6364136223846793005)) + 0)) + 462197)) : Int) ≤ 18446744073709551615) ∧ ((0 : Int) ≤ 40) ∧ ((0 : Int) ≤ ((IntKind.u64.wrap ((IntKind.u64.wrap ((IntKind.u64.wrap (c.seed * 6364136223846793005)) + 0)) + 462197)) / 2 ^ 40) ∧ (((IntKind.u64.wrap ((IntKind.u64.wrap ((IntKind.u64.wrap (c.seed * 6364136223846793005)) + 0)) + 462197)) / 2 ^ 40) : Int) ≤ 18446744073709551615) ∧ ((0 : Int) ≤ 255 ∧ (255 : Int) ≤ 18446744073709551615) ∧ (-9223372036854775808 ≤ ((((IntKind.u64.wrap ((IntKind.u64.wrap ((IntKind.u64.wrap (c.seed * 6364136223846793005)) + 0)) + 462197)) / 2 ^ 40).toNat &&& 255 : Nat) : Int) ∧ ((((IntKind.u64.wrap ((IntKind.u64.wrap ((IntKind.u64.wrap (c.seed * 6364136223846793005)) + 0)) + 462197)) / 2 ^ 40).toNat &&& 255 : Nat) : Int) ≤ 9223372036854775807) ∧ (((.lit u (.sl (.bytes code)) : D) = .lit u (.sl (.bytes code))) ∧ ((c.pos + 1) = (nextC code c).pos) ∧ ((IntKind.u64.wrap ((IntKind.u64.wrap ((IntKind.u64.wrap (c.seed * 6364136223846793005)) + 0)) + 462197)) = (nextC code c).seed) ∧ (((((IntKind.u64.wrap ((IntKind.u64.wrap ((IntKind.u64.wrap (c.seed * 6364136223846793005)) + 0)) + 462197)) / 2 ^ 40).toNat &&& 255 : Nat) : Int) = (nextV code c)))))))
theorem s_l1Cur_next_vc (u : Value) (code : List Nat) (c : Cur) (hb : ∀ x9 ∈ code, x9 < 256) (hc : okC c 1000000000000)  : s_l1Cur_next_P u code c := by
  unfold s_l1Cur_next_P
  obtain ⟨c1, c2, c3, c4⟩ := hc
  have nb := nxB_in hb c c1
  have w64 := wrap_u64
  refine ⟨rfl, ?_, ?_⟩
  · intro b1
    try simp only [nrmT] at b1
    refine ⟨rfl, ?_, ?_, ?_, ?_, ?_, ?_, rfl, ?_, ?_⟩
    · first | omega | rfl | (intro hg; simp only [nrmT] at hg; omega) | (intro g1 g2; simp [g1, g2]; done) | (intro g1; simp at g1 ⊢; simp [g1]; done) | (simp only [nrmT] at *; omega) | (simp at * <;> omega) | (simp_all <;> omega) | (simp_all; done)
    · first | omega | rfl | (intro hg; simp only [nrmT] at hg; omega) | (intro g1 g2; simp [g1, g2]; done) | (intro g1; simp at g1 ⊢; simp [g1]; done) | (simp only [nrmT] at *; omega) | (simp at * <;> omega) | (simp_all <;> omega) | (simp_all; done)
    · first | omega | rfl | (intro hg; simp only [nrmT] at hg; omega) | (intro g1 g2; simp [g1, g2]; done) | (intro g1; simp at g1 ⊢; simp [g1]; done) | (simp only [nrmT] at *; omega) | (simp at * <;> omega) | (simp_all <;> omega) | (simp_all; done)
    · have := hb _ (getD_mem (d := 0) (show c.pos.toNat < code.length by omega))
      omega
    · first | omega | rfl | (intro hg; simp only [nrmT] at hg; omega) | (intro g1 g2; simp [g1, g2]; done) | (intro g1; simp at g1 ⊢; simp [g1]; done) | (simp only [nrmT] at *; omega) | (simp at * <;> omega) | (simp_all <;> omega) | (simp_all; done)
    · have := hb _ (getD_mem (d := 0) (show c.pos.toNat < code.length by omega))
      omega
    · intro b2
      try simp only [nrmT] at b2
      refine ⟨rfl, ?_, ?_, ?_⟩
      · first | omega | rfl | (intro hg; simp only [nrmT] at hg; omega) | (intro g1 g2; simp [g1, g2]; done) | (intro g1; simp at g1 ⊢; simp [g1]; done) | (simp only [nrmT] at *; omega) | (simp at * <;> omega) | (simp_all <;> omega) | (simp_all; done)
      · have hs : (nextC code c).seed = IntKind.u64.wrap (IntKind.u64.wrap (IntKind.u64.wrap (c.seed * 6364136223846793005) + nxB code c) + 462197) := rfl
        first | rw [show nxB code c = ((code.getD c.pos.toNat 0 : Nat) : Int) from if_pos (by omega)] at hs | rw [show nxB code c = 0 from if_neg (by omega)] at hs
        first | exact hs.symm | (exfalso; omega)
      · unfold nextV nxB; rw [if_pos (by omega), if_pos (by omega)]
    · intro b3
      try simp only [nrmT] at b3
      refine ⟨?_, ?_, ?_, ?_, ?_, rfl, ?_, ?_, ?_⟩
      · have := hb _ (getD_mem (d := 0) (show c.pos.toNat < code.length by omega))
        omega
      · first | omega | rfl | (intro hg; simp only [nrmT] at hg; omega) | (intro g1 g2; simp [g1, g2]; done) | (intro g1; simp at g1 ⊢; simp [g1]; done) | (simp only [nrmT] at *; omega) | (simp at * <;> omega) | (simp_all <;> omega) | (simp_all; done)
      · have := hb _ (getD_mem (d := 0) (show c.pos.toNat < code.length by omega))
        omega
      · first | omega | rfl | (intro hg; simp only [nrmT] at hg; omega) | (intro g1 g2; simp [g1, g2]; done) | (intro g1; simp at g1 ⊢; simp [g1]; done) | (simp only [nrmT] at *; omega) | (simp at * <;> omega) | (simp_all <;> omega) | (simp_all; done)
      · have := hb _ (getD_mem (d := 0) (show c.pos.toNat < code.length by omega))
        omega
      · first | omega | rfl | (intro hg; simp only [nrmT] at hg; omega) | (intro g1 g2; simp [g1, g2]; done) | (intro g1; simp at g1 ⊢; simp [g1]; done) | (simp only [nrmT] at *; omega) | (simp at * <;> omega) | (simp_all <;> omega) | (simp_all; done)
      · have hs : (nextC code c).seed = IntKind.u64.wrap (IntKind.u64.wrap (IntKind.u64.wrap (c.seed * 6364136223846793005) + nxB code c) + 462197) := rfl
        first | rw [show nxB code c = ((code.getD c.pos.toNat 0 : Nat) : Int) from if_pos (by omega)] at hs | rw [show nxB code c = 0 from if_neg (by omega)] at hs
        first | exact hs.symm | (exfalso; omega)
      · have hs : (nextC code c).seed = IntKind.u64.wrap (IntKind.u64.wrap (IntKind.u64.wrap (c.seed * 6364136223846793005) + nxB code c) + 462197) := rfl
        first | rw [show nxB code c = ((code.getD c.pos.toNat 0 : Nat) : Int) from if_pos (by omega)] at hs | rw [show nxB code c = 0 from if_neg (by omega)] at hs
        unfold nextV
        rw [if_neg (by omega), hs]
  · intro b4
    try simp only [nrmT] at b4
    refine ⟨?_, ?_, rfl, ?_, ?_⟩
    · first | omega | rfl | (intro hg; simp only [nrmT] at hg; omega) | (intro g1 g2; simp [g1, g2]; done) | (intro g1; simp at g1 ⊢; simp [g1]; done) | (simp only [nrmT] at *; omega) | (simp at * <;> omega) | (simp_all <;> omega) | (simp_all; done)
    · first | omega | rfl | (intro hg; simp only [nrmT] at hg; omega) | (intro g1 g2; simp [g1, g2]; done) | (intro g1; simp at g1 ⊢; simp [g1]; done) | (simp only [nrmT] at *; omega) | (simp at * <;> omega) | (simp_all <;> omega) | (simp_all; done)
    · intro b5
      try simp only [nrmT] at b5
      refine ⟨rfl, ?_, ?_, ?_⟩
      · first | omega | rfl | (intro hg; simp only [nrmT] at hg; omega) | (intro g1 g2; simp [g1, g2]; done) | (intro g1; simp at g1 ⊢; simp [g1]; done) | (simp only [nrmT] at *; omega) | (simp at * <;> omega) | (simp_all <;> omega) | (simp_all; done)
      · have hs : (nextC code c).seed = IntKind.u64.wrap (IntKind.u64.wrap (IntKind.u64.wrap (c.seed * 6364136223846793005) + nxB code c) + 462197) := rfl
        first | rw [show nxB code c = ((code.getD c.pos.toNat 0 : Nat) : Int) from if_pos (by omega)] at hs | rw [show nxB code c = 0 from if_neg (by omega)] at hs
        first | exact hs.symm | (exfalso; omega)
      · first | omega | rfl | (intro hg; simp only [nrmT] at hg; omega) | (intro g1 g2; simp [g1, g2]; done) | (intro g1; simp at g1 ⊢; simp [g1]; done) | (simp only [nrmT] at *; omega) | (simp at * <;> omega) | (simp_all <;> omega) | (simp_all; done)
    · intro b6
      try simp only [nrmT] at b6
      refine ⟨?_, ?_, ?_, ?_, ?_, rfl, ?_, ?_, ?_⟩
      · exact w64 _
      · first | omega | rfl | (intro hg; simp only [nrmT] at hg; omega) | (intro g1 g2; simp [g1, g2]; done) | (intro g1; simp at g1 ⊢; simp [g1]; done) | (simp only [nrmT] at *; omega) | (simp at * <;> omega) | (simp_all <;> omega) | (simp_all; done)
      · have := w64 (IntKind.u64.wrap (IntKind.u64.wrap (c.seed * 6364136223846793005) + 0) + 462197)
        generalize IntKind.u64.wrap (IntKind.u64.wrap (IntKind.u64.wrap (c.seed * 6364136223846793005) + 0) + 462197) = z at *
        omega
      · first | omega | rfl | (intro hg; simp only [nrmT] at hg; omega) | (intro g1 g2; simp [g1, g2]; done) | (intro g1; simp at g1 ⊢; simp [g1]; done) | (simp only [nrmT] at *; omega) | (simp at * <;> omega) | (simp_all <;> omega) | (simp_all; done)
      · have := and255 ((IntKind.u64.wrap (IntKind.u64.wrap (IntKind.u64.wrap (c.seed * 6364136223846793005) + 0) + 462197)) / 2 ^ 40).toNat
        omega
      · first | omega | rfl | (intro hg; simp only [nrmT] at hg; omega) | (intro g1 g2; simp [g1, g2]; done) | (intro g1; simp at g1 ⊢; simp [g1]; done) | (simp only [nrmT] at *; omega) | (simp at * <;> omega) | (simp_all <;> omega) | (simp_all; done)
      · have hs : (nextC code c).seed = IntKind.u64.wrap (IntKind.u64.wrap (IntKind.u64.wrap (c.seed * 6364136223846793005) + nxB code c) + 462197) := rfl
        first | rw [show nxB code c = ((code.getD c.pos.toNat 0 : Nat) : Int) from if_pos (by omega)] at hs | rw [show nxB code c = 0 from if_neg (by omega)] at hs
        first | exact hs.symm | (exfalso; omega)
      · have hs : (nextC code c).seed = IntKind.u64.wrap (IntKind.u64.wrap (IntKind.u64.wrap (c.seed * 6364136223846793005) + nxB code c) + 462197) := rfl
        first | rw [show nxB code c = ((code.getD c.pos.toNat 0 : Nat) : Int) from if_pos (by omega)] at hs | rw [show nxB code c = 0 from if_neg (by omega)] at hs
        unfold nextV
        rw [if_neg (by omega), hs]
theorem s_l1Cur_next_pk (code : List Nat) (c : Cur) (hb : ∀ x9 ∈ code, x9 < 256) (hc : okC c 1000000000000) : PK Try.prog 195 98 (.sl (.bytes code)) [.int .i64 c.pos, .int .u64 c.seed] [.int .i64 (nextC code c).pos, .int .u64 (nextC code c).seed] [] (.one (.d (.int .i64 (nextV code c)))) :=
  pk_by (Q := fun u => s_l1Cur_next_P u code c) (by kernel_rfl) Try.func195 @Try.call195 (by kernel_rfl) s_l1Cur_next_C (fun u => s_l1Cur_next_A u code c) (by kernel_rfl) (fun u => s_l1Cur_next_vc u code c hb hc) (fun u => by kernel_rfl)
def pickC (code : List Nat) (c : Cur) (n : Int) : Cur := if n ≤ 1 then c else if n > 200 then nextC code (nextC code c) else nextC code c
def pickV (code : List Nat) (c : Cur) (n : Int) : Int := if n ≤ 1 then 0 else (if n > 200 then nextV code c * 256 + nextV code (nextC code c) else nextV code c) % n
theorem ok_pick {code : List Nat} {c : Cur} {n b : Int} (h : okC c b) : okC (pickC code c n) (b + 2) := by
  unfold pickC
  split
  · exact okC_le h (by omega)
  · split
    · have := ok_next (code := code) (ok_next (code := code) h)
      exact okC_le this (by omega)
    · exact okC_le (ok_next h) (by omega)
theorem pickV_in (code : List Nat) (c : Cur) {n : Int} (hn : 1 ≤ n) : 0 ≤ pickV code c n ∧ pickV code c n < n := by
  unfold pickV
  split
  · omega
  · exact ⟨Int.emod_nonneg _ (by omega), Int.emod_lt_of_pos _ (by omega)⟩
def s_l1Cur_pick_C (f : FuncId) (ds : List D) : Orc := .no
def s_l1Cur_pick_A (u : Value) (code : List Nat) (c : Cur) (n : Int) : Ann := .two (.none) (.two (.none) (.two (.mark [] [(1, .cell [.int .i64 ((nextC code c).pos), .int .u64 ((nextC code c).seed)] (.one (.d (.int .i64 (nextV code c)))))]) (.two (.two (.none) (.two (.mark [] [(3, .cell [.int .i64 ((nextC code (nextC code c)).pos), .int .u64 ((nextC code (nextC code c)).seed)] (.one (.d (.int .i64 (nextV code (nextC code c))))))]) (.none))) (.none))))
def s_l1Cur_pick_P (u : Value) (code : List Nat) (c : Cur) (n : Int) : Prop :=
  (((decide (n ≤ 1)) = true → (((.lit u (.sl (.bytes code)) : D) = .lit u (.sl (.bytes code))) ∧ (c.pos = (pickC code c n).pos) ∧ (c.seed = (pickC code c n).seed) ∧ ((0 : Int) = (pickV code c n)))) ∧ ((decide (n ≤ 1)) = false → (PK Try.prog 195 98 (.sl (.bytes code)) [.int .i64 c.pos, .int .u64 c.seed] [.int .i64 ((nextC code c).pos), .int .u64 ((nextC code c).seed)] [] (.one (.d (.int .i64 (nextV code c))))) ∧ (((decide (n > 200)) = true → (-9223372036854775808 ≤ ((nextV code c) * 256) ∧ ((nextV code c) * 256) ≤ 9223372036854775807) ∧ (PK Try.prog 195 98 (.sl (.bytes code)) [.int .i64 ((nextC code c).pos), .int .u64 ((nextC code c).seed)] [.int .i64 ((nextC code (nextC code c)).pos), .int .u64 ((nextC code (nextC code c)).seed)] [] (.one (.d (.int .i64 (nextV code (nextC code c)))))) ∧ (-9223372036854775808 ≤ (((nextV code c) * 256) + (nextV code (nextC code c))) ∧ (((nextV code c) * 256) + (nextV code (nextC code c))) ≤ 9223372036854775807) ∧ ((0 : Int) ≤ (((nextV code c) * 256) + (nextV code (nextC code c)))) ∧ ((1 : Int) ≤ n) ∧ (((.lit u (.sl (.bytes code)) : D) = .lit u (.sl (.bytes code))) ∧ ((nextC code (nextC code c)).pos = (pickC code c n).pos) ∧ ((nextC code (nextC code c)).seed = (pickC code c n).seed) ∧ (((((nextV code c) * 256) + (nextV code (nextC code c))) % n) = (pickV code c n)))) ∧ ((decide (n > 200)) = false → ((0 : Int) ≤ (nextV code c)) ∧ ((1 : Int) ≤ n) ∧ (((.lit u (.sl (.bytes code)) : D) = .lit u (.sl (.bytes code))) ∧ ((nextC code c).pos = (pickC code c n).pos) ∧ ((nextC code c).seed = (pickC code c n).seed) ∧ (((nextV code c) % n) = (pickV code c n)))))))
theorem s_l1Cur_pick_vc (u : Value) (code : List Nat) (c : Cur) (n : Int) (hb : ∀ x9 ∈ code, x9 < 256) (hc : okC c 900000000000)  : s_l1Cur_pick_P u code c n := by
  unfold s_l1Cur_pick_P
  refine ⟨?_, ?_⟩
  · intro b1
    try simp only [nrmT] at b1
    refine ⟨rfl, ?_, ?_, ?_⟩
    · unfold pickC; first | rw [if_pos (by omega)] | rw [if_neg (by omega), if_pos (by omega)] | rw [if_neg (by omega), if_neg (by omega)]
    · unfold pickC; first | rw [if_pos (by omega)] | rw [if_neg (by omega), if_pos (by omega)] | rw [if_neg (by omega), if_neg (by omega)]
    · unfold pickV; first | rw [if_pos (by omega)] | rw [if_neg (by omega), if_pos (by omega)] | rw [if_neg (by omega), if_neg (by omega)]
  · intro b2
    try simp only [nrmT] at b2
    refine ⟨?_, ?_, ?_⟩
    · refine s_l1Cur_next_pk code c ?_ ?_
      · exact hb
      · exact okC_le (by repeat (first | assumption | apply ok_pick | apply ok_next)) (by omega)
    · intro b3
      try simp only [nrmT] at b3
      refine ⟨?_, ?_, ?_, ?_, ?_, rfl, ?_, ?_, ?_⟩
      · have q0 := nextV_in hb (c := c) hc.1
        have q1 := nextV_in hb (c := nextC code c) (ok_next hc).1
        omega
      · refine s_l1Cur_next_pk code (nextC code c) ?_ ?_
        · exact hb
        · exact okC_le (by repeat (first | assumption | apply ok_pick | apply ok_next)) (by omega)
      · have q0 := nextV_in hb (c := c) hc.1
        have q1 := nextV_in hb (c := nextC code c) (ok_next hc).1
        omega
      · have q0 := nextV_in hb (c := c) hc.1
        have q1 := nextV_in hb (c := nextC code c) (ok_next hc).1
        omega
      · first | omega | rfl | (intro hg; simp only [nrmT] at hg; omega) | (intro g1 g2; simp [g1, g2]; done) | (intro g1; simp at g1 ⊢; simp [g1]; done) | (simp only [nrmT] at *; omega) | (simp at * <;> omega) | (simp_all <;> omega) | (simp_all; done)
      · unfold pickC; first | rw [if_pos (by omega)] | rw [if_neg (by omega), if_pos (by omega)] | rw [if_neg (by omega), if_neg (by omega)]
      · unfold pickC; first | rw [if_pos (by omega)] | rw [if_neg (by omega), if_pos (by omega)] | rw [if_neg (by omega), if_neg (by omega)]
      · unfold pickV; first | rw [if_pos (by omega)] | rw [if_neg (by omega), if_pos (by omega)] | rw [if_neg (by omega), if_neg (by omega)]
    · intro b4
      try simp only [nrmT] at b4
      refine ⟨?_, ?_, rfl, ?_, ?_, ?_⟩
      · have q0 := nextV_in hb (c := c) hc.1
        have q1 := nextV_in hb (c := nextC code c) (ok_next hc).1
        omega
      · first | omega | rfl | (intro hg; simp only [nrmT] at hg; omega) | (intro g1 g2; simp [g1, g2]; done) | (intro g1; simp at g1 ⊢; simp [g1]; done) | (simp only [nrmT] at *; omega) | (simp at * <;> omega) | (simp_all <;> omega) | (simp_all; done)
      · unfold pickC; first | rw [if_pos (by omega)] | rw [if_neg (by omega), if_pos (by omega)] | rw [if_neg (by omega), if_neg (by omega)]
      · unfold pickC; first | rw [if_pos (by omega)] | rw [if_neg (by omega), if_pos (by omega)] | rw [if_neg (by omega), if_neg (by omega)]
      · unfold pickV; first | rw [if_pos (by omega)] | rw [if_neg (by omega), if_pos (by omega)] | rw [if_neg (by omega), if_neg (by omega)]
theorem s_l1Cur_pick_pk (code : List Nat) (c : Cur) (n : Int) (hb : ∀ x9 ∈ code, x9 < 256) (hc : okC c 900000000000) : PK Try.prog 107 98 (.sl (.bytes code)) [.int .i64 c.pos, .int .u64 c.seed] [.int .i64 (pickC code c n).pos, .int .u64 (pickC code c n).seed] [.int .i64 n] (.one (.d (.int .i64 (pickV code c n)))) :=
  pk_by (Q := fun u => s_l1Cur_pick_P u code c n) (by kernel_rfl) Try.func107 @Try.call107 (by kernel_rfl) s_l1Cur_pick_C (fun u => s_l1Cur_pick_A u code c n) (by kernel_rfl) (fun u => s_l1Cur_pick_vc u code c n hb hc) (fun u => by kernel_rfl)
def s_l1Cur_among_C (f : FuncId) (ds : List D) : Orc := .no
def s_l1Cur_among_A (u : Value) (code : List Nat) (c : Cur) (list : List Int) : Ann := .two (.none) (.two (.mark [] [(4, .cell [.int .i64 ((pickC code c (list.length : Int)).pos), .int .u64 ((pickC code c (list.length : Int)).seed)] (.one (.d (.int .i64 (pickV code c (list.length : Int))))))]) (.none))
def s_l1Cur_among_P (u : Value) (code : List Nat) (c : Cur) (list : List Int) : Prop :=
  (PK Try.prog 107 98 (.sl (.bytes code)) [.int .i64 c.pos, .int .u64 c.seed] [.int .i64 ((pickC code c (list.length : Int)).pos), .int .u64 ((pickC code c (list.length : Int)).seed)] [.int .i64 (list.length : Int)] (.one (.d (.int .i64 (pickV code c (list.length : Int)))))) ∧ ((0 : Int) ≤ (pickV code c (list.length : Int))) ∧ (((pickV code c (list.length : Int)) : Int) < list.length) ∧ ((pickV code c (list.length : Int)).toNat < list.length) ∧ (((.lit u (.sl (.bytes code)) : D) = .lit u (.sl (.bytes code))) ∧ ((pickC code c (list.length : Int)).pos = (pickC code c (list.length : Int)).pos) ∧ ((pickC code c (list.length : Int)).seed = (pickC code c (list.length : Int)).seed) ∧ ((list.getD ((pickV code c (list.length : Int)).toNat) 0) = (list.getD (pickV code c (list.length : Int)).toNat 0)))
theorem s_l1Cur_among_vc (u : Value) (code : List Nat) (c : Cur) (list : List Int) (hb : ∀ x9 ∈ code, x9 < 256) (hc : okC c 800000000000) (hl : 0 < list.length)  : s_l1Cur_among_P u code c list := by
  unfold s_l1Cur_among_P
  refine ⟨?_, ?_, ?_, ?_, rfl, rfl, rfl, ?_⟩
  · refine s_l1Cur_pick_pk code c (list.length : Int) ?_ ?_
    · exact hb
    · exact okC_le (by repeat (first | assumption | apply ok_pick | apply ok_next)) (by omega)
  · have := pickV_in code c (n := (list.length : Int)) (by omega)
    omega
  · have := pickV_in code c (n := (list.length : Int)) (by omega)
    omega
  · have := pickV_in code c (n := (list.length : Int)) (by omega)
    omega
  · have := pickV_in code c (n := (list.length : Int)) (by omega)
    omega
theorem s_l1Cur_among_pk (code : List Nat) (c : Cur) (list : List Int) (hb : ∀ x9 ∈ code, x9 < 256) (hc : okC c 800000000000) (hl : 0 < list.length) : PK Try.prog 106 98 (.sl (.bytes code)) [.int .i64 c.pos, .int .u64 c.seed] [.int .i64 (pickC code c (list.length : Int)).pos, .int .u64 (pickC code c (list.length : Int)).seed] [.sl (.ints list)] (.one (.d (.int .i64 (list.getD (pickV code c (list.length : Int)).toNat 0)))) :=
  pk_by (Q := fun u => s_l1Cur_among_P u code c list) (by kernel_rfl) Try.func106 @Try.call106 (by kernel_rfl) s_l1Cur_among_C (fun u => s_l1Cur_among_A u code c list) (by kernel_rfl) (fun u => s_l1Cur_among_vc u code c list hb hc hl) (fun u => by kernel_rfl)
def s_l1Cur_one_C (f : FuncId) (ds : List D) : Orc := .no
def s_l1Cur_one_A (u : Value) (code : List Nat) (c : Cur) (n : Int) : Ann := .two (.none) (.two (.mark [] [(2, .cell [.int .i64 ((pickC code c n).pos), .int .u64 ((pickC code c n).seed)] (.one (.d (.int .i64 (pickV code c n)))))]) (.none))
def s_l1Cur_one_P (u : Value) (code : List Nat) (c : Cur) (n : Int) : Prop :=
  (PK Try.prog 107 98 (.sl (.bytes code)) [.int .i64 c.pos, .int .u64 c.seed] [.int .i64 ((pickC code c n).pos), .int .u64 ((pickC code c n).seed)] [.int .i64 n] (.one (.d (.int .i64 (pickV code c n))))) ∧ (((.lit u (.sl (.bytes code)) : D) = .lit u (.sl (.bytes code))) ∧ ((pickC code c n).pos = (pickC code c n).pos) ∧ ((pickC code c n).seed = (pickC code c n).seed) ∧ (((pickV code c n) == 0) = (pickV code c n == 0)))
theorem s_l1Cur_one_vc (u : Value) (code : List Nat) (c : Cur) (n : Int) (hb : ∀ x9 ∈ code, x9 < 256) (hc : okC c 800000000000)  : s_l1Cur_one_P u code c n := by
  unfold s_l1Cur_one_P
  refine ⟨?_, rfl, rfl, rfl, ?_⟩
  · refine s_l1Cur_pick_pk code c n ?_ ?_
    · exact hb
    · exact okC_le (by repeat (first | assumption | apply ok_pick | apply ok_next)) (by omega)
  · first | omega | rfl | (intro hg; simp only [nrmT] at hg; omega) | (intro g1 g2; simp [g1, g2]; done) | (intro g1; simp at g1 ⊢; simp [g1]; done) | (simp only [nrmT] at *; omega) | (simp at * <;> omega) | (simp_all <;> omega) | (simp_all; done)
theorem s_l1Cur_one_pk (code : List Nat) (c : Cur) (n : Int) (hb : ∀ x9 ∈ code, x9 < 256) (hc : okC c 800000000000) : PK Try.prog 108 98 (.sl (.bytes code)) [.int .i64 c.pos, .int .u64 c.seed] [.int .i64 (pickC code c n).pos, .int .u64 (pickC code c n).seed] [.int .i64 n] (.one (.d (.bool (pickV code c n == 0)))) :=
  pk_by (Q := fun u => s_l1Cur_one_P u code c n) (by kernel_rfl) Try.func108 @Try.call108 (by kernel_rfl) s_l1Cur_one_C (fun u => s_l1Cur_one_A u code c n) (by kernel_rfl) (fun u => s_l1Cur_one_vc u code c n hb hc) (fun u => by kernel_rfl)
def sdF (code : List Nat) (s : List (Int × Int) × Cur) (_ : Nat) : List (Int × Int) × Cur :=
  (s.1 ++ [(pickV code s.2 30, pickV code s.2 30 + pickV code (pickC code s.2 30) 9)], pickC code (pickC code s.2 30) 9)
def sdTo (code : List Nat) (k : Nat) : List (Int × Int) × Cur := foldTo (sdF code) ([], pickC code cur0 8) k
theorem sdTo_succ (code : List Nat) (k : Nat) : sdTo code (k + 1) = sdF code (sdTo code k) k := rfl
def sdN (code : List Nat) : Int := ([4, 6, 2, 8, 1, 0, 12, 13] : List Int).getD (pickV code cur0 8).toNat 0
theorem okC0 : okC cur0 0 := by unfold okC; decide
theorem pick_mem (l : List Int) (code : List Nat) (c : Cur) (h : 0 < l.length) : l.getD (pickV code c (l.length : Int)).toNat 0 ∈ l := by
  have := pickV_in code c (n := (l.length : Int)) (by omega)
  exact getD_mem (by omega)
theorem sdN_in (code : List Nat) : 0 ≤ sdN code ∧ sdN code ≤ 13 := by
  have h := pick_mem [4, 6, 2, 8, 1, 0, 12, 13] code cur0 (by simp)
  unfold sdN
  simp only [List.length_cons, List.length_nil] at h
  revert h
  generalize ([4, 6, 2, 8, 1, 0, 12, 13] : List Int).getD _ 0 = z
  intro h
  simp at h
  omega
theorem sdTo_ok (code : List Nat) : ∀ k, okC (sdTo code k).2 (2 + 4 * k) ∧ (sdTo code k).1.length = k
  | 0 => ⟨okC_le (ok_pick okC0) (by omega), rfl⟩
  | k + 1 => by
    obtain ⟨h1, h2⟩ := sdTo_ok code k
    rw [sdTo_succ]
    refine ⟨okC_le (ok_pick (ok_pick h1)) (by omega), ?_⟩
    unfold sdF
    simp [h2]
def sdE (code : List Nat) : List (Int × Int) × Cur := sdTo code (sdN code).toNat
def sdG (code : List Nat) : Bool := cond (decide (((sdE code).1.length : Int) > 0)) (pickV code (sdE code).2 20 == 0) false
def sdK (code : List Nat) : Cur := cond (decide (((sdE code).1.length : Int) > 0)) (pickC code (sdE code).2 20) (sdE code).2
def sdI (code : List Nat) : Int := pickV code (sdK code) ((sdE code).1.length : Int)
def sdK1 (code : List Nat) : Cur := pickC code (sdK code) ((sdE code).1.length : Int)
def sdS (code : List Nat) : List (Int × Int) := (sdE code).1.set (sdI code).toNat (([-1, 5, 99] : List Int).getD (pickV code (sdK1 code) 3).toNat 0, ([4, 99, 100] : List Int).getD (pickV code (pickC code (sdK1 code) 3) 3).toNat 0)
def stabD (code : List Nat) : List (Int × Int) := if sdG code = true then sdS code else (sdE code).1
theorem stabD_len (code : List Nat) : (stabD code).length ≤ 13 := by
  have h1 := (sdTo_ok code (sdN code).toNat).2
  have h2 := sdN_in code
  unfold stabD sdS
  split
  · rw [List.length_set]
    unfold sdE
    omega
  · unfold sdE
    omega
theorem sdG_pos {code : List Nat} (h : sdG code = true) : 0 < (sdE code).1.length := by
  unfold sdG at h
  by_cases e : ((sdE code).1.length : Int) > 0
  · omega
  · rw [decide_eq_false e] at h; cases h
theorem sdK_ok {code : List Nat} (h : okC (sdE code).2 54) : okC (sdK code) 56 := by
  unfold sdK
  cases decide (((sdE code).1.length : Int) > 0)
  · exact okC_le h (by omega)
  · exact ok_pick h
abbrev s_DrawStabPoints_JJ0 (code : List Nat) (out : List (Int × Int)) (n : Int) (c : Cur) : Prop := (0 ≤ n) ∧ (n ≤ sdN code) ∧ (out = (sdTo code (sdN code - n).toNat).1) ∧ (c = (sdTo code (sdN code - n).toNat).2)
abbrev s_DrawStabPoints_mJ0 (code : List Nat) (out : List (Int × Int)) (n : Int) (c : Cur) : Nat := n.toNat
abbrev s_DrawStabPoints_JA0 (code : List Nat) (out1 : List (Int × Int)) (c2 : Cur) : Prop := (out1 = (sdE code).1) ∧ (c2 = (sdE code).2)
abbrev s_DrawStabPoints_JR8 (code : List Nat) (out1 : List (Int × Int)) (c2 : Cur) (gd : Bool) (c1 : Cur) : Prop := (gd = sdG code) ∧ (c1 = sdK code)
def s_DrawStabPoints_C (f : FuncId) (ds : List D) : Orc := .no
def s_DrawStabPoints_A (code : List Nat) : Ann := .two (.none) (.two (.none) (.two (.none) (.cut (.two (.mark [] [(2, .cell [.int .i64 ((pickC code cur0 (([4, 6, 2, 8, 1, 0, 12, 13]).length : Int)).pos), .int .u64 ((pickC code cur0 (([4, 6, 2, 8, 1, 0, 12, 13]).length : Int)).seed)] (.one (.d (.int .i64 (([4, 6, 2, 8, 1, 0, 12, 13]).getD (pickV code cur0 (([4, 6, 2, 8, 1, 0, 12, 13]).length : Int)).toNat 0)))))]) (.loop (cut3 (fun (out : List (Int × Int)) (n : Int) (c : Cur) => s_DrawStabPoints_JJ0 code out n c) (fun (out : List (Int × Int)) (n : Int) (c : Cur) => [(3, .ptr 9 0), (4, .own 1000000 out.length), (5, .d true (.int .i64 n))]) (fun (out : List (Int × Int)) (n : Int) (c : Cur) => [(1000000, .arr true 30 (.pairs out)), (9, .box 98 [.d false (.sl (.bytes code)), .d true (.int .i64 c.pos), .d true (.int .u64 c.seed)])])) (fun g => s_DrawStabPoints_mJ0 code g.1 g.2.1 g.2.2) (fun g => (fun (out : List (Int × Int)) (n : Int) (c : Cur) => .two (.none) (.two (.two (.mark [] [(1, .cell [.int .i64 ((pickC code c 30).pos), .int .u64 ((pickC code c 30).seed)] (.one (.d (.int .i64 (pickV code c 30)))))]) (.mark [] [(4, .cell [.int .i64 ((pickC code (pickC code c 30) 9).pos), .int .u64 ((pickC code (pickC code c 30) 9).seed)] (.one (.d (.int .i64 (pickV code (pickC code c 30) 9)))))])) (.none))) (g.1) (g.2.1) (g.2.2)))) (cut2 (fun (out1 : List (Int × Int)) (c2 : Cur) => s_DrawStabPoints_JA0 code out1 c2) (fun (out1 : List (Int × Int)) (c2 : Cur) => [(3, .ptr 9 0), (4, .own 1000050 out1.length)]) (fun (out1 : List (Int × Int)) (c2 : Cur) => [(1000050, .arr true 30 (.pairs out1)), (9, .box 98 [.d false (.sl (.bytes code)), .d true (.int .i64 c2.pos), .d true (.int .u64 c2.seed)])])) (fun g => (fun (out1 : List (Int × Int)) (c2 : Cur) => .two (.cut (.mark [] [(5, .cell [.int .i64 ((pickC code c2 20).pos), .int .u64 ((pickC code c2 20).seed)] (.one (.d (.bool (pickV code c2 20 == 0)))))]) (cut2 (fun (gd : Bool) (c1 : Cur) => s_DrawStabPoints_JR8 code out1 c2 gd c1) (fun (gd : Bool) (c1 : Cur) => [(3, .ptr 9 0), (4, .own 1000050 out1.length), (35, .d true (.bool gd))]) (fun (gd : Bool) (c1 : Cur) => [(9, .box 98 [.d false (.sl (.bytes code)), .d true (.int .i64 c1.pos), .d true (.int .u64 c1.seed)]), (1000050, .arr true 30 (.pairs out1))])) (fun g => (fun (gd : Bool) (c1 : Cur) => .two (.mark [] [(4, .cell [.int .i64 ((pickC code c1 (out1.length : Int)).pos), .int .u64 ((pickC code c1 (out1.length : Int)).seed)] (.one (.d (.int .i64 (pickV code c1 (out1.length : Int)))))), (7, .cell [.int .i64 ((pickC code (pickC code c1 (out1.length : Int)) (([(-1), 5, 99]).length : Int)).pos), .int .u64 ((pickC code (pickC code c1 (out1.length : Int)) (([(-1), 5, 99]).length : Int)).seed)] (.one (.d (.int .i64 (([(-1), 5, 99]).getD (pickV code (pickC code c1 (out1.length : Int)) (([(-1), 5, 99]).length : Int)).toNat 0))))), (10, .cell [.int .i64 ((pickC code (pickC code (pickC code c1 (out1.length : Int)) (([(-1), 5, 99]).length : Int)) (([4, 99, 100]).length : Int)).pos), .int .u64 ((pickC code (pickC code (pickC code c1 (out1.length : Int)) (([(-1), 5, 99]).length : Int)) (([4, 99, 100]).length : Int)).seed)] (.one (.d (.int .i64 (([4, 99, 100]).getD (pickV code (pickC code (pickC code c1 (out1.length : Int)) (([(-1), 5, 99]).length : Int)) (([4, 99, 100]).length : Int)).toNat 0)))))]) (.none)) (g.1) (g.2))) (.none)) (g.1) (g.2)))))
def s_DrawStabPoints_P (code : List Nat) : Prop :=
  ((((8 : Nat) = 8) ∧ (PK Try.prog 106 98 (.sl (.bytes code)) [.int .i64 0, .int .u64 0] [.int .i64 ((pickC code cur0 (([4, 6, 2, 8, 1, 0, 12, 13]).length : Int)).pos), .int .u64 ((pickC code cur0 (([4, 6, 2, 8, 1, 0, 12, 13]).length : Int)).seed)] [.sl (.ints ([4, 6, 2, 8, 1, 0, 12, 13]))] (.one (.d (.int .i64 (([4, 6, 2, 8, 1, 0, 12, 13]).getD (pickV code cur0 (([4, 6, 2, 8, 1, 0, 12, 13]).length : Int)).toNat 0))))) ∧ ((∃ out' : List (Int × Int), ∃ n' : Int, ∃ c' : Cur, (s_DrawStabPoints_JJ0 code out' n' c') ∧ ((0 : Nat) = out'.length) ∧ ((([4, 6, 2, 8, 1, 0, 12, 13]).getD (pickV code cur0 (([4, 6, 2, 8, 1, 0, 12, 13]).length : Int)).toNat 0) = n') ∧ ([] = out') ∧ (code = code) ∧ ((pickC code cur0 (([4, 6, 2, 8, 1, 0, 12, 13]).length : Int)).pos = c'.pos) ∧ ((pickC code cur0 (([4, 6, 2, 8, 1, 0, 12, 13]).length : Int)).seed = c'.seed)) ∧ (∀ out : List (Int × Int), ∀ n : Int, ∀ c : Cur, (s_DrawStabPoints_JJ0 code out n c) → (((decide (n > 0)) = true → (PK Try.prog 107 98 (.sl (.bytes code)) [.int .i64 c.pos, .int .u64 c.seed] [.int .i64 ((pickC code c 30).pos), .int .u64 ((pickC code c 30).seed)] [.int .i64 30] (.one (.d (.int .i64 (pickV code c 30))))) ∧ (PK Try.prog 107 98 (.sl (.bytes code)) [.int .i64 ((pickC code c 30).pos), .int .u64 ((pickC code c 30).seed)] [.int .i64 ((pickC code (pickC code c 30) 9).pos), .int .u64 ((pickC code (pickC code c 30) 9).seed)] [.int .i64 9] (.one (.d (.int .i64 (pickV code (pickC code c 30) 9))))) ∧ (-9223372036854775808 ≤ ((pickV code c 30) + (pickV code (pickC code c 30) 9)) ∧ ((pickV code c 30) + (pickV code (pickC code c 30) 9)) ≤ 9223372036854775807) ∧ (out.length = out.length) ∧ ((1 : Nat) = 1) ∧ ((out.length + 1) * 16 ≤ 140737488355328) ∧ (-9223372036854775808 ≤ (n - 1) ∧ (n - 1) ≤ 9223372036854775807) ∧ (∃ out' : List (Int × Int), ∃ n' : Int, ∃ c' : Cur, (s_DrawStabPoints_JJ0 code out' n' c') ∧ (s_DrawStabPoints_mJ0 code out' n' c' < s_DrawStabPoints_mJ0 code out n c) ∧ ((out.length + 1) = out'.length) ∧ ((n - 1) = n') ∧ ((out ++ [((pickV code c 30), ((pickV code c 30) + (pickV code (pickC code c 30) 9)))]) = out') ∧ (code = code) ∧ ((pickC code (pickC code c 30) 9).pos = c'.pos) ∧ ((pickC code (pickC code c 30) 9).seed = c'.seed))) ∧ ((decide (n > 0)) = false → (∃ out1' : List (Int × Int), ∃ c2' : Cur, (s_DrawStabPoints_JA0 code out1' c2') ∧ (out.length = out1'.length) ∧ (out = out1') ∧ (code = code) ∧ (c.pos = c2'.pos) ∧ (c.seed = c2'.seed))))))) ∧ (∀ out1 : List (Int × Int), ∀ c2 : Cur, (s_DrawStabPoints_JA0 code out1 c2) → ((((decide ((out1.length : Int) > 0)) = true → (decide ((out1.length : Int) > 0)) = true) ∧ ((decide ((out1.length : Int) > 0)) = true → PK Try.prog 108 98 (.sl (.bytes code)) [.int .i64 c2.pos, .int .u64 c2.seed] [.int .i64 ((pickC code c2 20).pos), .int .u64 ((pickC code c2 20).seed)] [.int .i64 20] (.one (.d (.bool (pickV code c2 20 == 0))))) ∧ (true = true) ∧ (((decide ((out1.length : Int) > 0)) = true → (decide ((out1.length : Int) > 0)) = true)) ∧ (((decide ((out1.length : Int) > 0)) = false → true = true)) ∧ (∃ gd' : Bool, ∃ c1' : Cur, (s_DrawStabPoints_JR8 code out1 c2 gd' c1') ∧ (out1.length = out1.length) ∧ ((cond (decide ((out1.length : Int) > 0)) (pickV code c2 20 == 0) false) = gd') ∧ (code = code) ∧ ((cond (decide ((out1.length : Int) > 0)) ((pickC code c2 20).pos) c2.pos) = c1'.pos) ∧ ((cond (decide ((out1.length : Int) > 0)) ((pickC code c2 20).seed) c2.seed) = c1'.seed) ∧ (out1 = out1))) ∧ (∀ gd : Bool, ∀ c1 : Cur, (s_DrawStabPoints_JR8 code out1 c2 gd c1) → ((gd = true → (PK Try.prog 107 98 (.sl (.bytes code)) [.int .i64 c1.pos, .int .u64 c1.seed] [.int .i64 ((pickC code c1 (out1.length : Int)).pos), .int .u64 ((pickC code c1 (out1.length : Int)).seed)] [.int .i64 (out1.length : Int)] (.one (.d (.int .i64 (pickV code c1 (out1.length : Int)))))) ∧ ((3 : Nat) = 3) ∧ (PK Try.prog 106 98 (.sl (.bytes code)) [.int .i64 ((pickC code c1 (out1.length : Int)).pos), .int .u64 ((pickC code c1 (out1.length : Int)).seed)] [.int .i64 ((pickC code (pickC code c1 (out1.length : Int)) (([(-1), 5, 99]).length : Int)).pos), .int .u64 ((pickC code (pickC code c1 (out1.length : Int)) (([(-1), 5, 99]).length : Int)).seed)] [.sl (.ints ([(-1), 5, 99]))] (.one (.d (.int .i64 (([(-1), 5, 99]).getD (pickV code (pickC code c1 (out1.length : Int)) (([(-1), 5, 99]).length : Int)).toNat 0))))) ∧ ((3 : Nat) = 3) ∧ (PK Try.prog 106 98 (.sl (.bytes code)) [.int .i64 ((pickC code (pickC code c1 (out1.length : Int)) (([(-1), 5, 99]).length : Int)).pos), .int .u64 ((pickC code (pickC code c1 (out1.length : Int)) (([(-1), 5, 99]).length : Int)).seed)] [.int .i64 ((pickC code (pickC code (pickC code c1 (out1.length : Int)) (([(-1), 5, 99]).length : Int)) (([4, 99, 100]).length : Int)).pos), .int .u64 ((pickC code (pickC code (pickC code c1 (out1.length : Int)) (([(-1), 5, 99]).length : Int)) (([4, 99, 100]).length : Int)).seed)] [.sl (.ints ([4, 99, 100]))] (.one (.d (.int .i64 (([4, 99, 100]).getD (pickV code (pickC code (pickC code c1 (out1.length : Int)) (([(-1), 5, 99]).length : Int)) (([4, 99, 100]).length : Int)).toNat 0))))) ∧ ((0 : Int) ≤ (pickV code c1 (out1.length : Int))) ∧ (((pickV code c1 (out1.length : Int)) : Int) < (out1.length : Int)) ∧ ((pickV code c1 (out1.length : Int)).toNat < out1.length) ∧ ((out1.length = (out1.set ((pickV code c1 (out1.length : Int)).toNat) ((([(-1), 5, 99]).getD (pickV code (pickC code c1 (out1.length : Int)) (([(-1), 5, 99]).length : Int)).toNat 0), (([4, 99, 100]).getD (pickV code (pickC code (pickC code c1 (out1.length : Int)) (([(-1), 5, 99]).length : Int)) (([4, 99, 100]).length : Int)).toNat 0))).length) ∧ (((out1.set ((pickV code c1 (out1.length : Int)).toNat) ((([(-1), 5, 99]).getD (pickV code (pickC code c1 (out1.length : Int)) (([(-1), 5, 99]).length : Int)).toNat 0), (([4, 99, 100]).getD (pickV code (pickC code (pickC code c1 (out1.length : Int)) (([(-1), 5, 99]).length : Int)) (([4, 99, 100]).length : Int)).toNat 0))) : List (Int × Int)) = stabD code))) ∧ (gd = false → ((out1.length = out1.length) ∧ ((out1 : List (Int × Int)) = stabD code))))))))
theorem s_DrawStabPoints_vc (code : List Nat) (hb : ∀ x9 ∈ code, x9 < 256) (w_code : (code.length : Int) ≤ 9223372036854775807) : s_DrawStabPoints_P code := by
  unfold s_DrawStabPoints_P
  have nn := sdN_in code
  have so := sdTo_ok code
  have hE : okC (sdE code).2 54 := okC_le (so _).1 (by omega)
  have hK := sdK_ok hE
  refine ⟨?_, ?_⟩
  · refine ⟨rfl, ?_, ?_, ?_⟩
    · refine s_l1Cur_among_pk code cur0 ([4, 6, 2, 8, 1, 0, 12, 13]) ?_ ?_ ?_
      · exact hb
      · exact okC_le okC0 (by omega)
      · first | omega | rfl | (intro hg; simp only [nrmT] at hg; omega) | (intro g1 g2; simp [g1, g2]; done) | (intro g1; simp at g1 ⊢; simp [g1]; done) | (simp only [nrmT] at *; omega) | (simp at * <;> omega) | (simp_all <;> omega) | (simp_all; done)
    · refine ⟨([]), (([4, 6, 2, 8, 1, 0, 12, 13]).getD (pickV code cur0 (([4, 6, 2, 8, 1, 0, 12, 13]).length : Int)).toNat 0), (pickC code cur0 (([4, 6, 2, 8, 1, 0, 12, 13]).length : Int)), ?_⟩
      refine ⟨?_, rfl, rfl, ?_, rfl, rfl, rfl⟩
      · refine ⟨?_, ?_, ?_, ?_⟩
        · exact nn.1
        · first | omega | exact Int.le_refl _
        · show _ = (sdTo code (sdN code - sdN code).toNat).1
          rw [Int.sub_self]; rfl
        · show _ = (sdTo code (sdN code - sdN code).toNat).2
          rw [Int.sub_self]; rfl
      · first | omega | rfl | (intro hg; simp only [nrmT] at hg; omega) | (intro g1 g2; simp [g1, g2]; done) | (intro g1; simp at g1 ⊢; simp [g1]; done) | (simp only [nrmT] at *; omega) | (simp at * <;> omega) | (simp_all <;> omega) | (simp_all; done)
    · intro out n c hJ
      obtain ⟨h1, h2, h3, h4⟩ := hJ
      refine ⟨?_, ?_⟩
      · intro b1
        try simp only [nrmT] at b1
        refine ⟨?_, ?_, ?_, rfl, rfl, ?_, ?_, ?_⟩
        · refine s_l1Cur_pick_pk code c 30 ?_ ?_
          · exact hb
          · have ho := (so (sdN code - n).toNat).1
            rw [← h4] at ho
            exact okC_le (by repeat (first | assumption | apply ok_pick | apply ok_next)) (by omega)
        · refine s_l1Cur_pick_pk code (pickC code c 30) 9 ?_ ?_
          · exact hb
          · have ho := (so (sdN code - n).toNat).1
            rw [← h4] at ho
            exact okC_le (by repeat (first | assumption | apply ok_pick | apply ok_next)) (by omega)
        · have p1 := pickV_in code c (n := 30) (by omega)
          have p2 := pickV_in code (pickC code c 30) (n := 9) (by omega)
          omega
        · have := (so (sdN code - n).toNat).2
          rw [h3, this]
          omega
        · first | omega | rfl | (intro hg; simp only [nrmT] at hg; omega) | (intro g1 g2; simp [g1, g2]; done) | (intro g1; simp at g1 ⊢; simp [g1]; done) | (simp only [nrmT] at *; omega) | (simp at * <;> omega) | (simp_all <;> omega) | (simp_all; done)
        · refine ⟨(out ++ [((pickV code c 30), ((pickV code c 30) + (pickV code (pickC code c 30) 9)))]), (n - 1), (pickC code (pickC code c 30) 9), ?_⟩
          refine ⟨?_, ?_, ?_, rfl, rfl, rfl, rfl, rfl⟩
          · refine ⟨?_, ?_, ?_, ?_⟩
            · first | omega | rfl | (intro hg; simp only [nrmT] at hg; omega) | (intro g1 g2; simp [g1, g2]; done) | (intro g1; simp at g1 ⊢; simp [g1]; done) | (simp only [nrmT] at *; omega) | (simp at * <;> omega) | (simp_all <;> omega) | (simp_all; done)
            · first | omega | exact Int.le_refl _
            · rw [show (sdN code - (n - 1)).toNat = (sdN code - n).toNat + 1 by omega, sdTo_succ]; unfold sdF; rw [← h4, ← h3]
            · rw [show (sdN code - (n - 1)).toNat = (sdN code - n).toNat + 1 by omega, sdTo_succ]; unfold sdF; rw [← h4]
          · first | (show _ < _; omega) | (simp only [s_DrawStabPoints_mJ0]; omega) | (simp only [s_DrawStabPoints_mJ0] at *; simp at *; omega)
          · first | omega | rfl | (intro hg; simp only [nrmT] at hg; omega) | (intro g1 g2; simp [g1, g2]; done) | (intro g1; simp at g1 ⊢; simp [g1]; done) | (simp only [nrmT] at *; omega) | (simp at * <;> omega) | (simp_all <;> omega) | (simp_all; done)
      · intro b2
        try simp only [nrmT] at b2
        refine ⟨out, c, ?_⟩
        refine ⟨?_, rfl, rfl, rfl, rfl, rfl⟩
        · refine ⟨?_, ?_⟩
          · rw [h3]; unfold sdE; rw [show sdN code - n = sdN code by omega]
          · rw [h4]; unfold sdE; rw [show sdN code - n = sdN code by omega]
  · intro out1 c2 hJ
    obtain ⟨k1, k2⟩ := hJ
    refine ⟨?_, ?_⟩
    · refine ⟨id, ?_, rfl, id, fun _ => rfl, ?_⟩
      · intro hg
        refine s_l1Cur_one_pk code c2 20 ?_ ?_
        · exact hb
        · rw [k2]
          exact okC_le hE (by omega)
      · refine ⟨(cond (decide ((out1.length : Int) > 0)) (pickV code c2 20 == 0) false), (cond (decide ((out1.length : Int) > 0)) (pickC code c2 20) c2), ?_⟩
        refine ⟨?_, rfl, rfl, rfl, cond_cur_pos _ _ _, cond_cur_seed _ _ _, rfl⟩
        · refine ⟨?_, ?_⟩
          · rw [k1, k2]; rfl
          · rw [k1, k2]; rfl
    · intro gd c1 hJ
      obtain ⟨g1, g2⟩ := hJ
      refine ⟨?_, ?_⟩
      · intro b3
        try simp only [nrmT] at b3
        refine ⟨?_, rfl, ?_, rfl, ?_, ?_, ?_, ?_, ?_, ?_⟩
        · refine s_l1Cur_pick_pk code c1 (out1.length : Int) ?_ ?_
          · exact hb
          · rw [g2]
            exact okC_le (by repeat (first | assumption | apply ok_pick | apply ok_next)) (by omega)
        · refine s_l1Cur_among_pk code (pickC code c1 (out1.length : Int)) ([(-1), 5, 99]) ?_ ?_ ?_
          · exact hb
          · rw [g2]
            exact okC_le (by repeat (first | assumption | apply ok_pick | apply ok_next)) (by omega)
          · first | omega | rfl | (intro hg; simp only [nrmT] at hg; omega) | (intro g1 g2; simp [g1, g2]; done) | (intro g1; simp at g1 ⊢; simp [g1]; done) | (simp only [nrmT] at *; omega) | (simp at * <;> omega) | (simp_all <;> omega) | (simp_all; done)
        · refine s_l1Cur_among_pk code (pickC code (pickC code c1 (out1.length : Int)) (([(-1), 5, 99]).length : Int)) ([4, 99, 100]) ?_ ?_ ?_
          · exact hb
          · rw [g2]
            exact okC_le (by repeat (first | assumption | apply ok_pick | apply ok_next)) (by omega)
          · first | omega | rfl | (intro hg; simp only [nrmT] at hg; omega) | (intro g1 g2; simp [g1, g2]; done) | (intro g1; simp at g1 ⊢; simp [g1]; done) | (simp only [nrmT] at *; omega) | (simp at * <;> omega) | (simp_all <;> omega) | (simp_all; done)
        · have gp : 0 < out1.length := by
            rw [k1]; exact sdG_pos (by rw [← g1]; exact b3)
          have gi := pickV_in code c1 (n := (out1.length : Int)) (by omega)
          omega
        · have gp : 0 < out1.length := by
            rw [k1]; exact sdG_pos (by rw [← g1]; exact b3)
          have gi := pickV_in code c1 (n := (out1.length : Int)) (by omega)
          omega
        · have gp : 0 < out1.length := by
            rw [k1]; exact sdG_pos (by rw [← g1]; exact b3)
          have gi := pickV_in code c1 (n := (out1.length : Int)) (by omega)
          omega
        · first | omega | rfl | (intro hg; simp only [nrmT] at hg; omega) | (intro g1 g2; simp [g1, g2]; done) | (intro g1; simp at g1 ⊢; simp [g1]; done) | (simp only [nrmT] at *; omega) | (simp at * <;> omega) | (simp_all <;> omega) | (simp_all; done)
        · unfold stabD; rw [if_pos (by rw [← g1]; exact b3), k1, g2]; rfl
      · intro b4
        try simp only [nrmT] at b4
        refine ⟨rfl, ?_⟩
        · unfold stabD; rw [if_neg (by rw [← g1, b4]; decide), k1]
theorem s_DrawStabPoints_pc (code : List Nat) (hb : ∀ x9 ∈ code, x9 < 256) : PC Try.prog 15 [.sl (.bytes code)] (.one (.own 30 (.pairs (stabD code)))) :=
  pc_wf @Try.call15 fun hw => pc_by (by kernel_rfl) Try.func15 @Try.call15 (by kernel_rfl) s_DrawStabPoints_C (s_DrawStabPoints_A code) (by kernel_rfl) (s_DrawStabPoints_vc code hb hw.1) (by kernel_rfl)
def s_DrawStabPoints_orc : List D → Orc := orcN [some .bytes] fun ds => match ds with
  | [.sl (.bytes code)] => some (.one (.own 30 (.pairs (stabD code))))
  | _ => none
/-- What the points and the intervals by which they were chosen keep. -/
structure StabI (list : List (Int × Int)) (p f : List Int) : Prop where
  len : f.length = p.length
  inn : ∀ j, j < f.length → 0 ≤ f.getD j 0 ∧ f.getD j 0 < (list.length : Int)
  apart : ∀ k i, k < i → i < f.length → (list.getD (f.getD k 0).toNat (0, 0)).2 < (list.getD (f.getD i 0).toNat (0, 0)).1
  right : ∀ x, x < list.length → openAt list p x = true → ∀ k, k < p.length → p.getD k 0 < (list.getD x (0, 0)).1
  pts : ∀ j, j < f.length → p.getD j 0 = (list.getD (f.getD j 0).toNat (0, 0)).2
theorem nextTo_min (list : List (Int × Int)) (points : List Int) : ∀ k, 0 ≤ nextTo list points k → ∀ j, j < k → openAt list points j = true → (list.getD (nextTo list points k).toNat (0, 0)).2 ≤ (list.getD j (0, 0)).2
  | 0, _, j, hj, _ => by omega
  | k + 1, h, j, hj, ho => by
    have ih := nextTo_min list points k
    have hf := nextTo_facts list points k
    rw [nextTo_succ] at h ⊢
    by_cases hc : (!(stabbed (list.getD k (0, 0)).1 (list.getD k (0, 0)).2 points) && (decide (nextTo list points k < 0) || decide ((list.getD k (0, 0)).2 < (list.getD (nextTo list points k).toNat (0, 0)).2))) = true
    · have e : nextF list points (nextTo list points k) k = (k : Int) := by unfold nextF; rw [if_pos hc]
      rw [e, Int.toNat_natCast]
      rw [Bool.and_eq_true, Bool.or_eq_true, decide_eq_true_eq, decide_eq_true_eq] at hc
      by_cases ej : j = k
      · rw [ej]; omega
      · rcases hc.2 with h1 | h1
        · have := hf.2.2 h1 j (by omega)
          rw [ho] at this; cases this
        · by_cases h0 : 0 ≤ nextTo list points k
          · have := ih h0 j (by omega) ho
            omega
          · have := hf.2.2 (by omega) j (by omega)
            rw [ho] at this; cases this
    · have e : nextF list points (nextTo list points k) k = nextTo list points k := by unfold nextF; rw [if_neg hc]
      rw [e] at h ⊢
      by_cases ej : j = k
      · subst ej
        by_cases hl : (list.getD j (0, 0)).2 < (list.getD (nextTo list points j).toNat (0, 0)).2
        · exfalso
          apply hc
          unfold openAt at ho
          rw [ho, decide_eq_true hl]
          simp
        · omega
      · exact ih h j (by omega) ho
theorem getD_snoc {α : Type} {l : List α} {x d : α} {j : Nat} (h : j < (l ++ [x]).length) : (l ++ [x]).getD j d = if j < l.length then l.getD j d else x := by
  rw [List.length_append, List.length_singleton] at h
  by_cases e : j < l.length
  · rw [if_pos e]; simp [List.getElem?_append_left e]
  · have : j = l.length := by omega
    rw [if_neg e, this]
    simp
theorem stabI_step {list : List (Int × Int)} (hg : goodIvs list = true) {p f : List Int} (h : StabI list p f) (hn : 0 ≤ nextIv list p) : StabI list (p ++ [(list.getD (nextIv list p).toNat (0, 0)).2]) (f ++ [nextIv list p]) := by
  have n1 := nextIv_facts list p
  have n2 := (nextTo_facts list p list.length).2.1 hn
  have n3 := nextTo_min list p list.length hn
  have n4 : nextIv list p = nextTo list p list.length := rfl
  refine ⟨by simp [h.len], fun j hj => ?_, fun k i hk hi => ?_, fun x hx ho k hk => ?_, fun j hj => ?_⟩
  · rw [getD_snoc hj]
    split
    · rename_i e; exact h.inn j e
    · exact ⟨hn, n1.2⟩
  · rw [getD_snoc hi, getD_snoc (by omega)]
    rw [List.length_append, List.length_singleton] at hi
    rw [if_pos (show k < f.length by omega)]
    by_cases e : i < f.length
    · rw [if_pos e]; exact h.apart k i hk e
    · rw [if_neg e, ← h.pts k (by omega)]
      exact h.right _ (by omega) n2 k (by have := h.len; omega)
  · have ho2 : openAt list p x = true ∧ inB (list.getD (nextIv list p).toNat (0, 0)).2 (list.getD x (0, 0)).1 (list.getD x (0, 0)).2 = false := by
      unfold openAt stabbed at ho ⊢
      rw [List.any_append] at ho
      revert ho
      simp only [List.any_cons, List.any_nil, Bool.or_false]
      cases p.any (fun q => inB q (list.getD x (0, 0)).1 (list.getD x (0, 0)).2) <;> cases inB (list.getD (nextIv list p).toNat (0, 0)).2 (list.getD x (0, 0)).1 (list.getD x (0, 0)).2 <;> simp
    rw [getD_snoc hk]
    split
    · rename_i e; exact h.right x hx ho2.1 k e
    · have h4 := n3 x hx ho2.1
      have h5 := of_decide_eq_false ho2.2
      unfold nextIv at h5 ⊢
      omega
  · rw [getD_snoc hj, getD_snoc (by have := h.len; simp only [List.length_append, List.length_singleton] at hj ⊢; omega)]
    have hl := h.len
    by_cases e : j < f.length
    · rw [if_pos e, if_pos (by omega)]; exact h.pts j e
    · rw [if_neg e, if_neg (by omega)]
theorem stabI_run {list : List (Int × Int)} (hg : goodIvs list = true) : ∀ n p f, unst list p ≤ n → StabI list p f → StabI list (stabF list n p f).1 (stabF list n p f).2 ∧ nextIv list (stabF list n p f).1 < 0
  | 0, p, f, hu, h => ⟨h, nextIv_stop (p := p) (by omega)⟩
  | n + 1, p, f, hu, h => by
    unfold stabF
    by_cases hn : nextIv list p < 0
    · rw [if_pos hn]; exact ⟨h, hn⟩
    · rw [if_neg hn]
      have := unst_step hg (points := p) (by omega)
      exact stabI_run hg n _ _ (by omega) (stabI_step hg h (by omega))
theorem stabI_nil (list : List (Int × Int)) : StabI list [] [] :=
  ⟨rfl, fun j hj => by simp at hj, fun k i _ hi => by simp at hi, fun x _ _ k hk => by simp at hk, fun j hj => by simp at hj⟩
theorem stab_final {list : List (Int × Int)} (hg : goodIvs list = true) : StabI list (stabP list) (stabB list) ∧ ∀ i, i < list.length → ∃ k, k < (stabP list).length ∧ (list.getD i (0, 0)).1 ≤ (stabP list).getD k 0 ∧ (stabP list).getD k 0 ≤ (list.getD i (0, 0)).2 := by
  unfold stabP stabB
  rw [if_pos hg, if_pos hg]
  obtain ⟨h1, h2⟩ := stabI_run hg (unst list []) [] [] (Nat.le_refl _) (stabI_nil list)
  refine ⟨h1, fun i hi => ?_⟩
  have h3 := (nextTo_facts list (stabs list [] []).1 list.length).2.2 h2 i hi
  unfold openAt stabbed at h3
  rw [Bool.not_eq_false', List.any_eq_true] at h3
  obtain ⟨q, hq, h4⟩ := h3
  obtain ⟨k, hk, rfl⟩ := List.mem_iff_getElem.1 hq
  have h5 := inB_le h4
  exact ⟨k, hk, by rw [getD_get hk]; exact h5.1, by rw [getD_get hk]; exact h5.2⟩
/-- Some point so far is in the interval. -/
def metTo (a b : Int) (p : List Int) (k : Nat) : Bool := foldTo (fun m j => cond m true (cond (decide (a ≤ p.getD j 0)) (decide (p.getD j 0 ≤ b)) false)) false k
theorem metTo_iff (a b : Int) (p : List Int) : ∀ k, metTo a b p k = true ↔ ∃ j, j < k ∧ a ≤ p.getD j 0 ∧ p.getD j 0 ≤ b
  | 0 => by simp [metTo, foldTo]
  | k + 1 => by
    have e : metTo a b p (k + 1) = cond (metTo a b p k) true (cond (decide (a ≤ p.getD k 0)) (decide (p.getD k 0 ≤ b)) false) := rfl
    have ih := metTo_iff a b p k
    rw [e]
    cases hm : metTo a b p k with
    | true =>
      obtain ⟨j, h1, h2⟩ := ih.1 hm
      simp only [cond_true, true_iff]
      exact ⟨j, by omega, h2⟩
    | false =>
      rw [hm] at ih
      simp only [cond_false, cond_and, Bool.and_eq_true, decide_eq_true_eq]
      constructor
      · intro h; exact ⟨k, by omega, h⟩
      · rintro ⟨j, h1, h2⟩
        by_cases ej : j = k
        · subst ej; exact h2
        · exact absurd (ih.2 ⟨j, by omega, h2⟩) (by simp)
def l_rBig_C (f : FuncId) (ds : List D) : Orc := .no
def l_rBig_A (code : List Nat) : Ann := .none
def l_rBig_P (code : List Nat) : Prop :=
  (((decide ((code.length : Int) > 65536)) = (decide ((code.length : Int) > 65536))))
theorem l_rBig_vc (code : List Nat)  (w_code : (code.length : Int) ≤ 9223372036854775807) : l_rBig_P code := by
  unfold l_rBig_P
  exact rfl
theorem l_rBig_pc (code : List Nat)  : PC Try.prog 14 [.sl (.bytes code)] (.one (.d (.bool (decide ((code.length : Int) > 65536))))) :=
  pc_wf @Try.call14 fun hw => pc_by (by kernel_rfl) Try.func14 @Try.call14 (by kernel_rfl) l_rBig_C (l_rBig_A code) (by kernel_rfl) (l_rBig_vc code hw.1) (by kernel_rfl)
def l_rBig_orc : List D → Orc := orcN [some .bytes] fun ds => match ds with
  | [.sl (.bytes code)] => some (.one (.d (.bool (decide ((code.length : Int) > 65536)))))
  | _ => none
abbrev l_rInts_JJ0 (xs : List Int) (ys : List Int) (i : Int) : Prop := (0 ≤ i) ∧ (i ≤ (xs.length : Int)) ∧ (allTo (fun k => xs.getD k 0 == ys.getD k 0) i.toNat = true) ∧ (xs.length = ys.length)
abbrev l_rInts_mJ0 (xs : List Int) (ys : List Int) (i : Int) : Nat := (xs.length - i).toNat
def l_rInts_C (f : FuncId) (ds : List D) : Orc := .no
def l_rInts_A (xs : List Int) (ys : List Int) : Ann := .two (.none) (.two (.none) (.two (.two (.none) (.loop (cut1 (fun (i : Int) => l_rInts_JJ0 xs ys i) (fun (i : Int) => [(0, .d false (.sl (.ints xs))), (1, .d false (.sl (.ints ys))), (5, .d true (.int .i64 i))]) (fun (i : Int) => [])) (fun g => l_rInts_mJ0 xs ys g) (fun _ => .none))) (.none)))
def l_rInts_P (xs : List Int) (ys : List Int) : Prop :=
  ((((xs.length : Int) != (ys.length : Int)) = true → ((false = (xs == ys)))) ∧ (((xs.length : Int) != (ys.length : Int)) = false → ((∃ i' : Int, (l_rInts_JJ0 xs ys i') ∧ (xs = xs) ∧ (ys = ys) ∧ ((0 : Int) = i')) ∧ (∀ i : Int, (l_rInts_JJ0 xs ys i) → (((decide (i < (xs.length : Int))) = true → (true = true) ∧ ((0 : Int) ≤ i) ∧ ((i : Int) < xs.length) ∧ (i.toNat < xs.length) ∧ ((0 : Int) ≤ i) ∧ ((i : Int) < ys.length) ∧ (i.toNat < ys.length) ∧ ((((xs.getD i.toNat 0) != (ys.getD i.toNat 0)) = true → ((false = (xs == ys)))) ∧ (((xs.getD i.toNat 0) != (ys.getD i.toNat 0)) = false → (-9223372036854775808 ≤ (i + 1) ∧ (i + 1) ≤ 9223372036854775807) ∧ (∃ i' : Int, (l_rInts_JJ0 xs ys i') ∧ (l_rInts_mJ0 xs ys i' < l_rInts_mJ0 xs ys i) ∧ (xs = xs) ∧ (ys = ys) ∧ ((i + 1) = i'))))) ∧ ((decide (i < (xs.length : Int))) = false → ((true = (xs == ys)))))))))
theorem l_rInts_vc (xs : List Int) (ys : List Int)  (w_xs : (xs.length : Int) ≤ 9223372036854775807) (w_ys : (ys.length : Int) ≤ 9223372036854775807) : l_rInts_P xs ys := by
  unfold l_rInts_P
  refine ⟨?_, ?_⟩
  · intro b1
    try simp only [nrmT] at b1
    exact (len_ne (by omega)).symm
  · intro b2
    try simp only [nrmT] at b2
    refine ⟨?_, ?_⟩
    · refine ⟨0, ?_⟩
      refine ⟨?_, rfl, rfl, rfl⟩
      · refine ⟨?_, ?_, ?_, ?_⟩
        · first | omega | rfl | (intro hg; simp only [nrmT] at hg; omega) | (intro g1 g2; simp [g1, g2]; done) | (intro g1; simp at g1 ⊢; simp [g1]; done) | (simp only [nrmT] at *; omega) | (simp at * <;> omega) | (simp_all <;> omega) | (simp_all; done)
        · first | omega | rfl | (intro hg; simp only [nrmT] at hg; omega) | (intro g1 g2; simp [g1, g2]; done) | (intro g1; simp at g1 ⊢; simp [g1]; done) | (simp only [nrmT] at *; omega) | (simp at * <;> omega) | (simp_all <;> omega) | (simp_all; done)
        · first | omega | rfl | (intro hg; simp only [nrmT] at hg; omega) | (intro g1 g2; simp [g1, g2]; done) | (intro g1; simp at g1 ⊢; simp [g1]; done) | (simp only [nrmT] at *; omega) | (simp at * <;> omega) | (simp_all <;> omega) | (simp_all; done)
        · first | omega | rfl | (intro hg; simp only [nrmT] at hg; omega) | (intro g1 g2; simp [g1, g2]; done) | (intro g1; simp at g1 ⊢; simp [g1]; done) | (simp only [nrmT] at *; omega) | (simp at * <;> omega) | (simp_all <;> omega) | (simp_all; done)
    · intro i hJ
      obtain ⟨h1, h2, h3, h4⟩ := hJ
      refine ⟨?_, ?_⟩
      · intro b3
        try simp only [nrmT] at b3
        refine ⟨rfl, ?_, ?_, ?_, ?_, ?_, ?_, ?_, ?_⟩
        · first | omega | rfl | (intro hg; simp only [nrmT] at hg; omega) | (intro g1 g2; simp [g1, g2]; done) | (intro g1; simp at g1 ⊢; simp [g1]; done) | (simp only [nrmT] at *; omega) | (simp at * <;> omega) | (simp_all <;> omega) | (simp_all; done)
        · first | omega | rfl | (intro hg; simp only [nrmT] at hg; omega) | (intro g1 g2; simp [g1, g2]; done) | (intro g1; simp at g1 ⊢; simp [g1]; done) | (simp only [nrmT] at *; omega) | (simp at * <;> omega) | (simp_all <;> omega) | (simp_all; done)
        · first | omega | rfl | (intro hg; simp only [nrmT] at hg; omega) | (intro g1 g2; simp [g1, g2]; done) | (intro g1; simp at g1 ⊢; simp [g1]; done) | (simp only [nrmT] at *; omega) | (simp at * <;> omega) | (simp_all <;> omega) | (simp_all; done)
        · first | omega | rfl | (intro hg; simp only [nrmT] at hg; omega) | (intro g1 g2; simp [g1, g2]; done) | (intro g1; simp at g1 ⊢; simp [g1]; done) | (simp only [nrmT] at *; omega) | (simp at * <;> omega) | (simp_all <;> omega) | (simp_all; done)
        · first | omega | rfl | (intro hg; simp only [nrmT] at hg; omega) | (intro g1 g2; simp [g1, g2]; done) | (intro g1; simp at g1 ⊢; simp [g1]; done) | (simp only [nrmT] at *; omega) | (simp at * <;> omega) | (simp_all <;> omega) | (simp_all; done)
        · first | omega | rfl | (intro hg; simp only [nrmT] at hg; omega) | (intro g1 g2; simp [g1, g2]; done) | (intro g1; simp at g1 ⊢; simp [g1]; done) | (simp only [nrmT] at *; omega) | (simp at * <;> omega) | (simp_all <;> omega) | (simp_all; done)
        · intro b4
          try simp only [nrmT] at b4
          rw [← beq_of_all (d := 0) h4]; exact (allTo_falseI h1 (by omega) (by simpa using b4)).symm
        · intro b5
          try simp only [nrmT] at b5
          refine ⟨?_, ?_⟩
          · first | omega | rfl | (intro hg; simp only [nrmT] at hg; omega) | (intro g1 g2; simp [g1, g2]; done) | (intro g1; simp at g1 ⊢; simp [g1]; done) | (simp only [nrmT] at *; omega) | (simp at * <;> omega) | (simp_all <;> omega) | (simp_all; done)
          · refine ⟨(i + 1), ?_⟩
            refine ⟨?_, ?_, rfl, rfl, rfl⟩
            · refine ⟨?_, ?_, ?_, ?_⟩
              · first | omega | rfl | (intro hg; simp only [nrmT] at hg; omega) | (intro g1 g2; simp [g1, g2]; done) | (intro g1; simp at g1 ⊢; simp [g1]; done) | (simp only [nrmT] at *; omega) | (simp at * <;> omega) | (simp_all <;> omega) | (simp_all; done)
              · first | omega | rfl | (intro hg; simp only [nrmT] at hg; omega) | (intro g1 g2; simp [g1, g2]; done) | (intro g1; simp at g1 ⊢; simp [g1]; done) | (simp only [nrmT] at *; omega) | (simp at * <;> omega) | (simp_all <;> omega) | (simp_all; done)
              · exact allTo_step h1 h3 (by simpa using b5)
              · first | omega | rfl | (intro hg; simp only [nrmT] at hg; omega) | (intro g1 g2; simp [g1, g2]; done) | (intro g1; simp at g1 ⊢; simp [g1]; done) | (simp only [nrmT] at *; omega) | (simp at * <;> omega) | (simp_all <;> omega) | (simp_all; done)
            · first | (show _ < _; omega) | (simp only [l_rInts_mJ0]; omega) | (simp only [l_rInts_mJ0] at *; simp at *; omega)
      · intro b6
        try simp only [nrmT] at b6
        rw [← beq_of_all (d := 0) h4, ← h3]; congr 1; omega
theorem l_rInts_pc (xs : List Int) (ys : List Int)  : PC Try.prog 18 [.sl (.ints xs), .sl (.ints ys)] (.one (.d (.bool (xs == ys)))) :=
  pc_wf @Try.call18 fun hw => pc_by (by kernel_rfl) Try.func18 @Try.call18 (by kernel_rfl) l_rInts_C (l_rInts_A xs ys) (by kernel_rfl) (l_rInts_vc xs ys hw.1 hw.2.1) (by kernel_rfl)
def l_rInts_orc : List D → Orc := orcN [some .ints, some .ints] fun ds => match ds with
  | [.sl (.ints xs), .sl (.ints ys)] => some (.one (.d (.bool (xs == ys))))
  | _ => none
abbrev l_FnIntervals_JJ0 (code : List Nat) (i : Int) : Prop := (goodIvs (stabD code) = true) ∧ (0 ≤ i)
abbrev l_FnIntervals_mJ0 (code : List Nat) (i : Int) : Nat := ((stabD code).length - i).toNat
abbrev l_FnIntervals_JA0 (code : List Nat) : Prop := (goodIvs (stabD code) = true)
abbrev l_FnIntervals_JJ1 (code : List Nat) (i : Int) (met : Bool) (k : Int) : Prop := (0 ≤ k) ∧ (k ≤ ((stabP (stabD code)).length : Int)) ∧ (met = metTo ((stabD code).getD i.toNat (0, 0)).1 ((stabD code).getD i.toNat (0, 0)).2 (stabP (stabD code)) k.toNat)
abbrev l_FnIntervals_mJ1 (code : List Nat) (i : Int) (met : Bool) (k : Int) : Nat := ((stabP (stabD code)).length - k).toNat
abbrev l_FnIntervals_JJ2 (code : List Nat) (i2 : Int) : Prop := (goodIvs (stabD code) = true) ∧ (0 ≤ i2)
abbrev l_FnIntervals_mJ2 (code : List Nat) (i2 : Int) : Nat := ((stabB (stabD code)).length - i2).toNat
abbrev l_FnIntervals_JJ3 (code : List Nat) (i2 : Int) (k2 : Int) : Prop := (0 ≤ k2) ∧ (k2 ≤ i2)
abbrev l_FnIntervals_mJ3 (code : List Nat) (i2 : Int) (k2 : Int) : Nat := (i2 - k2).toNat
def l_FnIntervals_C (f : FuncId) (ds : List D) : Orc := bif Nat.beq f 14 then l_rBig_orc ds else bif Nat.beq f 15 then s_DrawStabPoints_orc ds else bif Nat.beq f 16 then i_StabPoints_orc ds else bif Nat.beq f 17 then s_StabPoints_orc ds else bif Nat.beq f 18 then l_rInts_orc ds else bif Nat.beq f 19 then i_ApartIntervals_orc ds else bif Nat.beq f 20 then s_ApartIntervals_orc ds else .no
def l_FnIntervals_A (code : List Nat) : Ann := .two (.none) (.two (.none) (.two (.none) (.two (.none) (.two (.none) (.two (.none) (.two (.none) (.two (.none) (.cut (.two (.none) (.loop (cut1 (fun (i : Int) => l_FnIntervals_JJ0 code i) (fun (i : Int) => [(3, .own 22 ((stabD code).length)), (4, .own 25 ((stabP (stabD code)).length)), (8, .own 44 ((stabB (stabD code)).length)), (12, .d true (.int .i64 i))]) (fun (i : Int) => [(22, .arr true 30 (.pairs (stabD code))), (25, .arr true 3 (.ints (stabP (stabD code)))), (44, .arr true 3 (.ints (stabB (stabD code))))])) (fun g => l_FnIntervals_mJ0 code g) (fun g => (fun (i : Int) => .two (.none) (.two (.two (.none) (.two (.two (.none) (.loop (cut2 (fun (met : Bool) (k : Int) => l_FnIntervals_JJ1 code i met k) (fun (met : Bool) (k : Int) => [(3, .own 22 ((stabD code).length)), (4, .own 25 ((stabP (stabD code)).length)), (8, .own 44 ((stabB (stabD code)).length)), (12, .d true (.int .i64 i)), (13, .d true (.bool met)), (14, .d true (.int .i64 k))]) (fun (met : Bool) (k : Int) => [(22, .arr true 30 (.pairs (stabD code))), (25, .arr true 3 (.ints (stabP (stabD code)))), (44, .arr true 3 (.ints (stabB (stabD code))))])) (fun g => l_FnIntervals_mJ1 code i g.1 g.2) (fun _ => .none))) (.none))) (.none))) g))) (cut0 (l_FnIntervals_JA0 code ) ([(3, .own 22 ((stabD code).length)), (4, .own 25 ((stabP (stabD code)).length)), (8, .own 44 ((stabB (stabD code)).length))]) ([(22, .arr true 30 (.pairs (stabD code))), (25, .arr true 3 (.ints (stabP (stabD code)))), (44, .arr true 3 (.ints (stabB (stabD code))))])) (fun _ => .two (.two (.none) (.loop (cut1 (fun (i2 : Int) => l_FnIntervals_JJ2 code i2) (fun (i2 : Int) => [(3, .own 22 ((stabD code).length)), (4, .own 25 ((stabP (stabD code)).length)), (8, .own 44 ((stabB (stabD code)).length)), (15, .d true (.int .i64 i2))]) (fun (i2 : Int) => [(22, .arr true 30 (.pairs (stabD code))), (25, .arr true 3 (.ints (stabP (stabD code)))), (44, .arr true 3 (.ints (stabB (stabD code))))])) (fun g => l_FnIntervals_mJ2 code g) (fun g => (fun (i2 : Int) => .two (.none) (.two (.two (.none) (.loop (cut1 (fun (k2 : Int) => l_FnIntervals_JJ3 code i2 k2) (fun (k2 : Int) => [(3, .own 22 ((stabD code).length)), (4, .own 25 ((stabP (stabD code)).length)), (8, .own 44 ((stabB (stabD code)).length)), (15, .d true (.int .i64 i2)), (16, .d true (.int .i64 k2))]) (fun (k2 : Int) => [(22, .arr true 30 (.pairs (stabD code))), (25, .arr true 3 (.ints (stabP (stabD code)))), (44, .arr true 3 (.ints (stabB (stabD code))))])) (fun g => l_FnIntervals_mJ3 code i2 g) (fun _ => .none))) (.none))) g))) (.none))))))))))
def l_FnIntervals_P (code : List Nat) : Prop :=
  (PC Try.prog 14 [.sl (.bytes code)] (.one (.d (.bool (decide ((code.length : Int) > 65536)))))) ∧ (((decide ((code.length : Int) > 65536)) = true → ((true = true))) ∧ ((decide ((code.length : Int) > 65536)) = false → (PC Try.prog 15 [.sl (.bytes code)] (.one (.own 30 (.pairs (stabD code))))) ∧ ((stabD code).length = (stabD code).length) ∧ (PC Try.prog 16 [.sl (.pairs (stabD code))] (.tup [.own 3 (.ints (stabP (stabD code))), .d (.bool (goodIvs (stabD code)))])) ∧ ((stabD code).length = (stabD code).length) ∧ (PC Try.prog 17 [.sl (.pairs (stabD code))] (.tup [.d (.sl (.ints (stabP (stabD code)))), .d (.bool (goodIvs (stabD code)))])) ∧ ((!((goodIvs (stabD code)) != (goodIvs (stabD code)))) = true → (!((goodIvs (stabD code)) != (goodIvs (stabD code)))) = true) ∧ ((!((goodIvs (stabD code)) != (goodIvs (stabD code)))) = true → (!((goodIvs (stabD code)) != (goodIvs (stabD code)))) = true) ∧ (((!((goodIvs (stabD code)) != (goodIvs (stabD code)))) = true → (stabP (stabD code)).length = (stabP (stabD code)).length)) ∧ ((!((goodIvs (stabD code)) != (goodIvs (stabD code)))) = true → PC Try.prog 18 [.sl (.ints (stabP (stabD code))), .sl (.ints (stabP (stabD code)))] (.one (.d (.bool ((stabP (stabD code)) == (stabP (stabD code))))))) ∧ ((!((goodIvs (stabD code)) != (goodIvs (stabD code)))) = true → (!((goodIvs (stabD code)) != (goodIvs (stabD code)))) = true) ∧ (true = true) ∧ ((((goodIvs (stabD code)) != (goodIvs (stabD code))) = true → true = true)) ∧ ((((goodIvs (stabD code)) != (goodIvs (stabD code))) = false → (!((goodIvs (stabD code)) != (goodIvs (stabD code)))) = true)) ∧ (((cond ((goodIvs (stabD code)) != (goodIvs (stabD code))) true (!((stabP (stabD code)) == (stabP (stabD code))))) = true → ((false = true))) ∧ ((cond ((goodIvs (stabD code)) != (goodIvs (stabD code))) true (!((stabP (stabD code)) == (stabP (stabD code))))) = false → ((stabD code).length = (stabD code).length) ∧ (PC Try.prog 19 [.sl (.pairs (stabD code))] (.tup [.own 3 (.ints (stabB (stabD code))), .d (.bool (goodIvs (stabD code)))])) ∧ ((stabD code).length = (stabD code).length) ∧ (PC Try.prog 20 [.sl (.pairs (stabD code))] (.tup [.d (.sl (.ints (stabB (stabD code)))), .d (.bool (goodIvs (stabD code)))])) ∧ ((!((goodIvs (stabD code)) != (goodIvs (stabD code)))) = true → (!((goodIvs (stabD code)) != (goodIvs (stabD code)))) = true) ∧ ((!((goodIvs (stabD code)) != (goodIvs (stabD code)))) = true → (!((goodIvs (stabD code)) != (goodIvs (stabD code)))) = true) ∧ (true = true) ∧ ((((goodIvs (stabD code)) != (goodIvs (stabD code))) = true → true = true)) ∧ ((((goodIvs (stabD code)) != (goodIvs (stabD code))) = false → (!((goodIvs (stabD code)) != (goodIvs (stabD code)))) = true)) ∧ ((!(cond ((goodIvs (stabD code)) != (goodIvs (stabD code))) true ((goodIvs (stabD code)) != (goodIvs (stabD code))))) = true → (!(cond ((goodIvs (stabD code)) != (goodIvs (stabD code))) true ((goodIvs (stabD code)) != (goodIvs (stabD code))))) = true) ∧ ((!(cond ((goodIvs (stabD code)) != (goodIvs (stabD code))) true ((goodIvs (stabD code)) != (goodIvs (stabD code))))) = true → (!(cond ((goodIvs (stabD code)) != (goodIvs (stabD code))) true ((goodIvs (stabD code)) != (goodIvs (stabD code))))) = true) ∧ (((!(cond ((goodIvs (stabD code)) != (goodIvs (stabD code))) true ((goodIvs (stabD code)) != (goodIvs (stabD code))))) = true → (stabB (stabD code)).length = (stabB (stabD code)).length)) ∧ ((!(cond ((goodIvs (stabD code)) != (goodIvs (stabD code))) true ((goodIvs (stabD code)) != (goodIvs (stabD code))))) = true → PC Try.prog 18 [.sl (.ints (stabB (stabD code))), .sl (.ints (stabB (stabD code)))] (.one (.d (.bool ((stabB (stabD code)) == (stabB (stabD code))))))) ∧ ((!(cond ((goodIvs (stabD code)) != (goodIvs (stabD code))) true ((goodIvs (stabD code)) != (goodIvs (stabD code))))) = true → (!(cond ((goodIvs (stabD code)) != (goodIvs (stabD code))) true ((goodIvs (stabD code)) != (goodIvs (stabD code))))) = true) ∧ (true = true) ∧ (((cond ((goodIvs (stabD code)) != (goodIvs (stabD code))) true ((goodIvs (stabD code)) != (goodIvs (stabD code)))) = true → true = true)) ∧ (((cond ((goodIvs (stabD code)) != (goodIvs (stabD code))) true ((goodIvs (stabD code)) != (goodIvs (stabD code)))) = false → (!(cond ((goodIvs (stabD code)) != (goodIvs (stabD code))) true ((goodIvs (stabD code)) != (goodIvs (stabD code))))) = true)) ∧ (((cond (cond ((goodIvs (stabD code)) != (goodIvs (stabD code))) true ((goodIvs (stabD code)) != (goodIvs (stabD code)))) true (!((stabB (stabD code)) == (stabB (stabD code))))) = true → ((false = true))) ∧ ((cond (cond ((goodIvs (stabD code)) != (goodIvs (stabD code))) true ((goodIvs (stabD code)) != (goodIvs (stabD code)))) true (!((stabB (stabD code)) == (stabB (stabD code))))) = false → (((!(goodIvs (stabD code))) = true → ((true = true))) ∧ ((!(goodIvs (stabD code))) = false → ((((∃ i' : Int, (l_FnIntervals_JJ0 code i') ∧ ((stabD code).length = (stabD code).length) ∧ ((stabP (stabD code)).length = (stabP (stabD code)).length) ∧ ((stabB (stabD code)).length = (stabB (stabD code)).length) ∧ ((0 : Int) = i') ∧ (stabD code = stabD code) ∧ (stabP (stabD code) = stabP (stabD code)) ∧ (stabB (stabD code) = stabB (stabD code))) ∧ (∀ i : Int, (l_FnIntervals_JJ0 code i) → (((decide (i < (((stabD code).length) : Int))) = true → ((∃ met' : Bool, ∃ k' : Int, (l_FnIntervals_JJ1 code i met' k') ∧ ((stabD code).length = (stabD code).length) ∧ ((stabP (stabD code)).length = (stabP (stabD code)).length) ∧ ((stabB (stabD code)).length = (stabB (stabD code)).length) ∧ (i = i) ∧ (false = met') ∧ ((0 : Int) = k') ∧ (stabD code = stabD code) ∧ (stabP (stabD code) = stabP (stabD code)) ∧ (stabB (stabD code) = stabB (stabD code))) ∧ (∀ met : Bool, ∀ k : Int, (l_FnIntervals_JJ1 code i met k) → (((decide (k < (((stabP (stabD code)).length) : Int))) = true → (true = true) ∧ ((!met) = true → (!met) = true) ∧ ((!met) = true → (!met) = true) ∧ (((!met) = true → (0 : Int) ≤ i)) ∧ (((!met) = true → (i : Int) < (((stabD code).length) : Int))) ∧ ((!met) = true → (!met) = true) ∧ (((!met) = true → (0 : Int) ≤ 0)) ∧ (((!met) = true → (0 : Int) < 2)) ∧ ((!met) = true → (!met) = true) ∧ (((!met) = true → i.toNat < (stabD code).length)) ∧ ((!met) = true → (!met) = true) ∧ ((!met) = true → (!met) = true) ∧ (((!met) = true → (0 : Int) ≤ k)) ∧ (((!met) = true → (k : Int) < (((stabP (stabD code)).length) : Int))) ∧ ((!met) = true → (!met) = true) ∧ (((!met) = true → k.toNat < (stabP (stabD code)).length)) ∧ ((!met) = true → (!met) = true) ∧ ((!met) = true → (!met) = true) ∧ ((!met) = true → (!met) = true) ∧ (((!met) && (decide (((stabD code).getD i.toNat (0, 0)).1 ≤ ((stabP (stabD code)).getD k.toNat 0)))) = true → ((!met) && (decide (((stabD code).getD i.toNat (0, 0)).1 ≤ ((stabP (stabD code)).getD k.toNat 0)))) = true) ∧ (((!met) && (decide (((stabD code).getD i.toNat (0, 0)).1 ≤ ((stabP (stabD code)).getD k.toNat 0)))) = true → ((!met) && (decide (((stabD code).getD i.toNat (0, 0)).1 ≤ ((stabP (stabD code)).getD k.toNat 0)))) = true) ∧ ((((!met) && (decide (((stabD code).getD i.toNat (0, 0)).1 ≤ ((stabP (stabD code)).getD k.toNat 0)))) = true → (0 : Int) ≤ k)) ∧ ((((!met) && (decide (((stabD code).getD i.toNat (0, 0)).1 ≤ ((stabP (stabD code)).getD k.toNat 0)))) = true → (k : Int) < (((stabP (stabD code)).length) : Int))) ∧ (((!met) && (decide (((stabD code).getD i.toNat (0, 0)).1 ≤ ((stabP (stabD code)).getD k.toNat 0)))) = true → ((!met) && (decide (((stabD code).getD i.toNat (0, 0)).1 ≤ ((stabP (stabD code)).getD k.toNat 0)))) = true) ∧ ((((!met) && (decide (((stabD code).getD i.toNat (0, 0)).1 ≤ ((stabP (stabD code)).getD k.toNat 0)))) = true → k.toNat < (stabP (stabD code)).length)) ∧ (((!met) && (decide (((stabD code).getD i.toNat (0, 0)).1 ≤ ((stabP (stabD code)).getD k.toNat 0)))) = true → ((!met) && (decide (((stabD code).getD i.toNat (0, 0)).1 ≤ ((stabP (stabD code)).getD k.toNat 0)))) = true) ∧ (((!met) && (decide (((stabD code).getD i.toNat (0, 0)).1 ≤ ((stabP (stabD code)).getD k.toNat 0)))) = true → ((!met) && (decide (((stabD code).getD i.toNat (0, 0)).1 ≤ ((stabP (stabD code)).getD k.toNat 0)))) = true) ∧ ((((!met) && (decide (((stabD code).getD i.toNat (0, 0)).1 ≤ ((stabP (stabD code)).getD k.toNat 0)))) = true → (0 : Int) ≤ i)) ∧ ((((!met) && (decide (((stabD code).getD i.toNat (0, 0)).1 ≤ ((stabP (stabD code)).getD k.toNat 0)))) = true → (i : Int) < (((stabD code).length) : Int))) ∧ (((!met) && (decide (((stabD code).getD i.toNat (0, 0)).1 ≤ ((stabP (stabD code)).getD k.toNat 0)))) = true → ((!met) && (decide (((stabD code).getD i.toNat (0, 0)).1 ≤ ((stabP (stabD code)).getD k.toNat 0)))) = true) ∧ ((((!met) && (decide (((stabD code).getD i.toNat (0, 0)).1 ≤ ((stabP (stabD code)).getD k.toNat 0)))) = true → (0 : Int) ≤ 1)) ∧ ((((!met) && (decide (((stabD code).getD i.toNat (0, 0)).1 ≤ ((stabP (stabD code)).getD k.toNat 0)))) = true → (1 : Int) < 2)) ∧ (((!met) && (decide (((stabD code).getD i.toNat (0, 0)).1 ≤ ((stabP (stabD code)).getD k.toNat 0)))) = true → ((!met) && (decide (((stabD code).getD i.toNat (0, 0)).1 ≤ ((stabP (stabD code)).getD k.toNat 0)))) = true) ∧ ((((!met) && (decide (((stabD code).getD i.toNat (0, 0)).1 ≤ ((stabP (stabD code)).getD k.toNat 0)))) = true → i.toNat < (stabD code).length)) ∧ (((!met) && (decide (((stabD code).getD i.toNat (0, 0)).1 ≤ ((stabP (stabD code)).getD k.toNat 0)))) = true → ((!met) && (decide (((stabD code).getD i.toNat (0, 0)).1 ≤ ((stabP (stabD code)).getD k.toNat 0)))) = true) ∧ (((!met) && (decide (((stabD code).getD i.toNat (0, 0)).1 ≤ ((stabP (stabD code)).getD k.toNat 0)))) = true → ((!met) && (decide (((stabD code).getD i.toNat (0, 0)).1 ≤ ((stabP (stabD code)).getD k.toNat 0)))) = true) ∧ (((!met) = true → (!met) = true)) ∧ (((!met) = true → (decide (((stabD code).getD i.toNat (0, 0)).1 ≤ ((stabP (stabD code)).getD k.toNat 0))) = true → ((!met) && (decide (((stabD code).getD i.toNat (0, 0)).1 ≤ ((stabP (stabD code)).getD k.toNat 0)))) = true)) ∧ (((!met) = true → (decide (((stabD code).getD i.toNat (0, 0)).1 ≤ ((stabP (stabD code)).getD k.toNat 0))) = false → true = true)) ∧ (true = true) ∧ ((met = true → true = true)) ∧ ((met = false → (!met) = true)) ∧ (-9223372036854775808 ≤ (k + 1) ∧ (k + 1) ≤ 9223372036854775807) ∧ (∃ met' : Bool, ∃ k' : Int, (l_FnIntervals_JJ1 code i met' k') ∧ (l_FnIntervals_mJ1 code i met' k' < l_FnIntervals_mJ1 code i met k) ∧ ((stabD code).length = (stabD code).length) ∧ ((stabP (stabD code)).length = (stabP (stabD code)).length) ∧ ((stabB (stabD code)).length = (stabB (stabD code)).length) ∧ (i = i) ∧ ((cond met true (cond (decide (((stabD code).getD i.toNat (0, 0)).1 ≤ ((stabP (stabD code)).getD k.toNat 0))) (decide (((stabP (stabD code)).getD k.toNat 0) ≤ ((stabD code).getD i.toNat (0, 0)).2)) false)) = met') ∧ ((k + 1) = k') ∧ (stabD code = stabD code) ∧ (stabP (stabD code) = stabP (stabD code)) ∧ (stabB (stabD code) = stabB (stabD code)))) ∧ ((decide (k < (((stabP (stabD code)).length) : Int))) = false → (((!met) = true → ((false = true))) ∧ ((!met) = false → (-9223372036854775808 ≤ (i + 1) ∧ (i + 1) ≤ 9223372036854775807) ∧ (∃ i' : Int, (l_FnIntervals_JJ0 code i') ∧ (l_FnIntervals_mJ0 code i' < l_FnIntervals_mJ0 code i) ∧ ((stabD code).length = (stabD code).length) ∧ ((stabP (stabD code)).length = (stabP (stabD code)).length) ∧ ((stabB (stabD code)).length = (stabB (stabD code)).length) ∧ ((i + 1) = i') ∧ (stabD code = stabD code) ∧ (stabP (stabD code) = stabP (stabD code)) ∧ (stabB (stabD code) = stabB (stabD code)))))))))) ∧ ((decide (i < (((stabD code).length) : Int))) = false → ((l_FnIntervals_JA0 code) ∧ ((stabD code).length = (stabD code).length) ∧ ((stabP (stabD code)).length = (stabP (stabD code)).length) ∧ ((stabB (stabD code)).length = (stabB (stabD code)).length) ∧ (stabD code = stabD code) ∧ (stabP (stabD code) = stabP (stabD code)) ∧ (stabB (stabD code) = stabB (stabD code)))))))) ∧ ((l_FnIntervals_JA0 code) → ((∃ i2' : Int, (l_FnIntervals_JJ2 code i2') ∧ ((stabD code).length = (stabD code).length) ∧ ((stabP (stabD code)).length = (stabP (stabD code)).length) ∧ ((stabB (stabD code)).length = (stabB (stabD code)).length) ∧ ((0 : Int) = i2') ∧ (stabD code = stabD code) ∧ (stabP (stabD code) = stabP (stabD code)) ∧ (stabB (stabD code) = stabB (stabD code))) ∧ (∀ i2 : Int, (l_FnIntervals_JJ2 code i2) → (((decide (i2 < (((stabB (stabD code)).length) : Int))) = true → ((∃ k2' : Int, (l_FnIntervals_JJ3 code i2 k2') ∧ ((stabD code).length = (stabD code).length) ∧ ((stabP (stabD code)).length = (stabP (stabD code)).length) ∧ ((stabB (stabD code)).length = (stabB (stabD code)).length) ∧ (i2 = i2) ∧ ((0 : Int) = k2') ∧ (stabD code = stabD code) ∧ (stabP (stabD code) = stabP (stabD code)) ∧ (stabB (stabD code) = stabB (stabD code))) ∧ (∀ k2 : Int, (l_FnIntervals_JJ3 code i2 k2) → (((decide (k2 < i2)) = true → (true = true) ∧ ((0 : Int) ≤ i2) ∧ ((i2 : Int) < (((stabB (stabD code)).length) : Int)) ∧ (i2.toNat < (stabB (stabD code)).length) ∧ ((0 : Int) ≤ ((stabB (stabD code)).getD i2.toNat 0)) ∧ ((((stabB (stabD code)).getD i2.toNat 0) : Int) < (((stabD code).length) : Int)) ∧ (((stabB (stabD code)).getD i2.toNat 0).toNat < (stabD code).length) ∧ ((0 : Int) ≤ k2) ∧ ((k2 : Int) < (((stabB (stabD code)).length) : Int)) ∧ (k2.toNat < (stabB (stabD code)).length) ∧ ((0 : Int) ≤ ((stabB (stabD code)).getD k2.toNat 0)) ∧ ((((stabB (stabD code)).getD k2.toNat 0) : Int) < (((stabD code).length) : Int)) ∧ (((stabB (stabD code)).getD k2.toNat 0).toNat < (stabD code).length) ∧ ((0 : Int) ≤ 0) ∧ ((0 : Int) < 2) ∧ ((0 : Int) ≤ 1) ∧ ((1 : Int) < 2) ∧ (((decide (((stabD code).getD (((stabB (stabD code)).getD i2.toNat 0).toNat) (0, 0)).1 ≤ ((stabD code).getD (((stabB (stabD code)).getD k2.toNat 0).toNat) (0, 0)).2)) = true → (0 : Int) ≤ 0)) ∧ (((decide (((stabD code).getD (((stabB (stabD code)).getD i2.toNat 0).toNat) (0, 0)).1 ≤ ((stabD code).getD (((stabB (stabD code)).getD k2.toNat 0).toNat) (0, 0)).2)) = true → (0 : Int) < 2)) ∧ ((decide (((stabD code).getD (((stabB (stabD code)).getD i2.toNat 0).toNat) (0, 0)).1 ≤ ((stabD code).getD (((stabB (stabD code)).getD k2.toNat 0).toNat) (0, 0)).2)) = true → (decide (((stabD code).getD (((stabB (stabD code)).getD i2.toNat 0).toNat) (0, 0)).1 ≤ ((stabD code).getD (((stabB (stabD code)).getD k2.toNat 0).toNat) (0, 0)).2)) = true) ∧ (((decide (((stabD code).getD (((stabB (stabD code)).getD i2.toNat 0).toNat) (0, 0)).1 ≤ ((stabD code).getD (((stabB (stabD code)).getD k2.toNat 0).toNat) (0, 0)).2)) = true → (0 : Int) ≤ 1)) ∧ (((decide (((stabD code).getD (((stabB (stabD code)).getD i2.toNat 0).toNat) (0, 0)).1 ≤ ((stabD code).getD (((stabB (stabD code)).getD k2.toNat 0).toNat) (0, 0)).2)) = true → (1 : Int) < 2)) ∧ ((decide (((stabD code).getD (((stabB (stabD code)).getD i2.toNat 0).toNat) (0, 0)).1 ≤ ((stabD code).getD (((stabB (stabD code)).getD k2.toNat 0).toNat) (0, 0)).2)) = true → (decide (((stabD code).getD (((stabB (stabD code)).getD i2.toNat 0).toNat) (0, 0)).1 ≤ ((stabD code).getD (((stabB (stabD code)).getD k2.toNat 0).toNat) (0, 0)).2)) = true) ∧ ((decide (((stabD code).getD (((stabB (stabD code)).getD i2.toNat 0).toNat) (0, 0)).1 ≤ ((stabD code).getD (((stabB (stabD code)).getD k2.toNat 0).toNat) (0, 0)).2)) = true → (decide (((stabD code).getD (((stabB (stabD code)).getD i2.toNat 0).toNat) (0, 0)).1 ≤ ((stabD code).getD (((stabB (stabD code)).getD k2.toNat 0).toNat) (0, 0)).2)) = true) ∧ ((decide (((stabD code).getD (((stabB (stabD code)).getD i2.toNat 0).toNat) (0, 0)).1 ≤ ((stabD code).getD (((stabB (stabD code)).getD k2.toNat 0).toNat) (0, 0)).2)) = true → (decide (((stabD code).getD (((stabB (stabD code)).getD i2.toNat 0).toNat) (0, 0)).1 ≤ ((stabD code).getD (((stabB (stabD code)).getD k2.toNat 0).toNat) (0, 0)).2)) = true) ∧ (true = true) ∧ (((decide (((stabD code).getD (((stabB (stabD code)).getD i2.toNat 0).toNat) (0, 0)).1 ≤ ((stabD code).getD (((stabB (stabD code)).getD k2.toNat 0).toNat) (0, 0)).2)) = true → (decide (((stabD code).getD (((stabB (stabD code)).getD i2.toNat 0).toNat) (0, 0)).1 ≤ ((stabD code).getD (((stabB (stabD code)).getD k2.toNat 0).toNat) (0, 0)).2)) = true)) ∧ (((decide (((stabD code).getD (((stabB (stabD code)).getD i2.toNat 0).toNat) (0, 0)).1 ≤ ((stabD code).getD (((stabB (stabD code)).getD k2.toNat 0).toNat) (0, 0)).2)) = false → true = true)) ∧ (((cond (decide (((stabD code).getD (((stabB (stabD code)).getD i2.toNat 0).toNat) (0, 0)).1 ≤ ((stabD code).getD (((stabB (stabD code)).getD k2.toNat 0).toNat) (0, 0)).2)) (decide (((stabD code).getD (((stabB (stabD code)).getD k2.toNat 0).toNat) (0, 0)).1 ≤ ((stabD code).getD (((stabB (stabD code)).getD i2.toNat 0).toNat) (0, 0)).2)) false) = true → ((false = true))) ∧ ((cond (decide (((stabD code).getD (((stabB (stabD code)).getD i2.toNat 0).toNat) (0, 0)).1 ≤ ((stabD code).getD (((stabB (stabD code)).getD k2.toNat 0).toNat) (0, 0)).2)) (decide (((stabD code).getD (((stabB (stabD code)).getD k2.toNat 0).toNat) (0, 0)).1 ≤ ((stabD code).getD (((stabB (stabD code)).getD i2.toNat 0).toNat) (0, 0)).2)) false) = false → (-9223372036854775808 ≤ (k2 + 1) ∧ (k2 + 1) ≤ 9223372036854775807) ∧ (∃ k2' : Int, (l_FnIntervals_JJ3 code i2 k2') ∧ (l_FnIntervals_mJ3 code i2 k2' < l_FnIntervals_mJ3 code i2 k2) ∧ ((stabD code).length = (stabD code).length) ∧ ((stabP (stabD code)).length = (stabP (stabD code)).length) ∧ ((stabB (stabD code)).length = (stabB (stabD code)).length) ∧ (i2 = i2) ∧ ((k2 + 1) = k2') ∧ (stabD code = stabD code) ∧ (stabP (stabD code) = stabP (stabD code)) ∧ (stabB (stabD code) = stabB (stabD code)))))) ∧ ((decide (k2 < i2)) = false → (-9223372036854775808 ≤ (i2 + 1) ∧ (i2 + 1) ≤ 9223372036854775807) ∧ (∃ i2' : Int, (l_FnIntervals_JJ2 code i2') ∧ (l_FnIntervals_mJ2 code i2' < l_FnIntervals_mJ2 code i2) ∧ ((stabD code).length = (stabD code).length) ∧ ((stabP (stabD code)).length = (stabP (stabD code)).length) ∧ ((stabB (stabD code)).length = (stabB (stabD code)).length) ∧ ((i2 + 1) = i2') ∧ (stabD code = stabD code) ∧ (stabP (stabD code) = stabP (stabD code)) ∧ (stabB (stabD code) = stabB (stabD code)))))))) ∧ ((decide (i2 < (((stabB (stabD code)).length) : Int))) = false → ((((((stabB (stabD code)).length) : Int) == (((stabP (stabD code)).length) : Int)) = true))))))))))))))))
theorem l_FnIntervals_vc (code : List Nat) (hb : ∀ x9 ∈ code, x9 < 256) (w_code : (code.length : Int) ≤ 9223372036854775807) : l_FnIntervals_P code := by
  unfold l_FnIntervals_P
  refine ⟨l_rBig_pc code, ?_, ?_⟩
  · intro b1
    try simp only [nrmT] at b1
    exact rfl
  · intro b2
    try simp only [nrmT] at b2
    refine ⟨?_, rfl, i_StabPoints_pc (stabD code), rfl, s_StabPoints_pc (stabD code), id, id, fun _ => rfl, fun _ => l_rInts_pc (stabP (stabD code)) (stabP (stabD code)), id, rfl, fun _ => rfl, ?_, ?_, ?_⟩
    · refine s_DrawStabPoints_pc code ?_
      · exact hb
    · first | omega | rfl | (intro hg; simp only [nrmT] at hg; omega) | (intro g1 g2; simp [g1, g2]; done) | (intro g1; simp at g1 ⊢; simp [g1]; done) | (simp only [nrmT] at *; omega) | (simp at * <;> omega) | (simp_all <;> omega) | (simp_all; done)
    · intro b3
      simp at b3
    · intro b4
      refine ⟨rfl, i_ApartIntervals_pc (stabD code), rfl, s_ApartIntervals_pc (stabD code), id, id, rfl, fun _ => rfl, ?_, id, id, fun _ => rfl, fun _ => l_rInts_pc (stabB (stabD code)) (stabB (stabD code)), id, rfl, fun _ => rfl, ?_, ?_, ?_⟩
      · first | omega | rfl | (intro hg; simp only [nrmT] at hg; omega) | (intro g1 g2; simp [g1, g2]; done) | (intro g1; simp at g1 ⊢; simp [g1]; done) | (simp only [nrmT] at *; omega) | (simp at * <;> omega) | (simp_all <;> omega) | (simp_all; done)
      · first | omega | rfl | (intro hg; simp only [nrmT] at hg; omega) | (intro g1 g2; simp [g1, g2]; done) | (intro g1; simp at g1 ⊢; simp [g1]; done) | (simp only [nrmT] at *; omega) | (simp at * <;> omega) | (simp_all <;> omega) | (simp_all; done)
      · intro b5
        simp at b5
      · intro b6
        refine ⟨?_, ?_⟩
        · intro b7
          try simp only [nrmT] at b7
          exact rfl
        · intro b8
          try simp only [nrmT] at b8
          refine ⟨?_, ?_⟩
          · refine ⟨?_, ?_⟩
            · refine ⟨0, ?_⟩
              refine ⟨?_, rfl, rfl, rfl, rfl, rfl, rfl, rfl⟩
              · refine ⟨?_, ?_⟩
                · first | omega | rfl | (intro hg; simp only [nrmT] at hg; omega) | (intro g1 g2; simp [g1, g2]; done) | (intro g1; simp at g1 ⊢; simp [g1]; done) | (simp only [nrmT] at *; omega) | (simp at * <;> omega) | (simp_all <;> omega) | (simp_all; done)
                · first | omega | rfl | (intro hg; simp only [nrmT] at hg; omega) | (intro g1 g2; simp [g1, g2]; done) | (intro g1; simp at g1 ⊢; simp [g1]; done) | (simp only [nrmT] at *; omega) | (simp at * <;> omega) | (simp_all <;> omega) | (simp_all; done)
            · intro i hJ
              obtain ⟨h0, h1⟩ := hJ
              refine ⟨?_, ?_⟩
              · intro b9
                try simp only [nrmT] at b9
                refine ⟨?_, ?_⟩
                · refine ⟨false, 0, ?_⟩
                  refine ⟨?_, rfl, rfl, rfl, rfl, rfl, rfl, rfl, rfl, rfl⟩
                  · refine ⟨?_, ?_, ?_⟩
                    · first | omega | rfl | (intro hg; simp only [nrmT] at hg; omega) | (intro g1 g2; simp [g1, g2]; done) | (intro g1; simp at g1 ⊢; simp [g1]; done) | (simp only [nrmT] at *; omega) | (simp at * <;> omega) | (simp_all <;> omega) | (simp_all; done)
                    · first | omega | rfl | (intro hg; simp only [nrmT] at hg; omega) | (intro g1 g2; simp [g1, g2]; done) | (intro g1; simp at g1 ⊢; simp [g1]; done) | (simp only [nrmT] at *; omega) | (simp at * <;> omega) | (simp_all <;> omega) | (simp_all; done)
                    · first | omega | rfl | (intro hg; simp only [nrmT] at hg; omega) | (intro g1 g2; simp [g1, g2]; done) | (intro g1; simp at g1 ⊢; simp [g1]; done) | (simp only [nrmT] at *; omega) | (simp at * <;> omega) | (simp_all <;> omega) | (simp_all; done)
                · intro met k hJ
                  obtain ⟨h2, h3, h4⟩ := hJ
                  refine ⟨?_, ?_⟩
                  · intro b10
                    try simp only [nrmT] at b10
                    refine ⟨rfl, id, id, ?_, ?_, id, fun _ => by decide, fun _ => by decide, id, ?_, id, id, ?_, ?_, id, ?_, id, id, id, id, id, ?_, ?_, id, ?_, id, id, ?_, ?_, id, fun _ => by decide, fun _ => by decide, id, ?_, id, id, id, ?_, fun _ _ => rfl, rfl, fun _ => rfl, ?_, ?_, ?_⟩
                    · first | omega | rfl | (intro hg; simp only [nrmT] at hg; omega) | (intro g1 g2; simp [g1, g2]; done) | (intro g1; simp at g1 ⊢; simp [g1]; done) | (simp only [nrmT] at *; omega) | (simp at * <;> omega) | (simp_all <;> omega) | (simp_all; done)
                    · first | omega | rfl | (intro hg; simp only [nrmT] at hg; omega) | (intro g1 g2; simp [g1, g2]; done) | (intro g1; simp at g1 ⊢; simp [g1]; done) | (simp only [nrmT] at *; omega) | (simp at * <;> omega) | (simp_all <;> omega) | (simp_all; done)
                    · first | omega | rfl | (intro hg; simp only [nrmT] at hg; omega) | (intro g1 g2; simp [g1, g2]; done) | (intro g1; simp at g1 ⊢; simp [g1]; done) | (simp only [nrmT] at *; omega) | (simp at * <;> omega) | (simp_all <;> omega) | (simp_all; done)
                    · first | omega | rfl | (intro hg; simp only [nrmT] at hg; omega) | (intro g1 g2; simp [g1, g2]; done) | (intro g1; simp at g1 ⊢; simp [g1]; done) | (simp only [nrmT] at *; omega) | (simp at * <;> omega) | (simp_all <;> omega) | (simp_all; done)
                    · first | omega | rfl | (intro hg; simp only [nrmT] at hg; omega) | (intro g1 g2; simp [g1, g2]; done) | (intro g1; simp at g1 ⊢; simp [g1]; done) | (simp only [nrmT] at *; omega) | (simp at * <;> omega) | (simp_all <;> omega) | (simp_all; done)
                    · first | omega | rfl | (intro hg; simp only [nrmT] at hg; omega) | (intro g1 g2; simp [g1, g2]; done) | (intro g1; simp at g1 ⊢; simp [g1]; done) | (simp only [nrmT] at *; omega) | (simp at * <;> omega) | (simp_all <;> omega) | (simp_all; done)
                    · first | omega | rfl | (intro hg; simp only [nrmT] at hg; omega) | (intro g1 g2; simp [g1, g2]; done) | (intro g1; simp at g1 ⊢; simp [g1]; done) | (simp only [nrmT] at *; omega) | (simp at * <;> omega) | (simp_all <;> omega) | (simp_all; done)
                    · first | omega | rfl | (intro hg; simp only [nrmT] at hg; omega) | (intro g1 g2; simp [g1, g2]; done) | (intro g1; simp at g1 ⊢; simp [g1]; done) | (simp only [nrmT] at *; omega) | (simp at * <;> omega) | (simp_all <;> omega) | (simp_all; done)
                    · first | omega | rfl | (intro hg; simp only [nrmT] at hg; omega) | (intro g1 g2; simp [g1, g2]; done) | (intro g1; simp at g1 ⊢; simp [g1]; done) | (simp only [nrmT] at *; omega) | (simp at * <;> omega) | (simp_all <;> omega) | (simp_all; done)
                    · first | omega | rfl | (intro hg; simp only [nrmT] at hg; omega) | (intro g1 g2; simp [g1, g2]; done) | (intro g1; simp at g1 ⊢; simp [g1]; done) | (simp only [nrmT] at *; omega) | (simp at * <;> omega) | (simp_all <;> omega) | (simp_all; done)
                    · first | omega | rfl | (intro hg; simp only [nrmT] at hg; omega) | (intro g1 g2; simp [g1, g2]; done) | (intro g1; simp at g1 ⊢; simp [g1]; done) | (simp only [nrmT] at *; omega) | (simp at * <;> omega) | (simp_all <;> omega) | (simp_all; done)
                    · first | omega | rfl | (intro hg; simp only [nrmT] at hg; omega) | (intro g1 g2; simp [g1, g2]; done) | (intro g1; simp at g1 ⊢; simp [g1]; done) | (simp only [nrmT] at *; omega) | (simp at * <;> omega) | (simp_all <;> omega) | (simp_all; done)
                    · first | omega | rfl | (intro hg; simp only [nrmT] at hg; omega) | (intro g1 g2; simp [g1, g2]; done) | (intro g1; simp at g1 ⊢; simp [g1]; done) | (simp only [nrmT] at *; omega) | (simp at * <;> omega) | (simp_all <;> omega) | (simp_all; done)
                    · first | omega | rfl | (intro hg; simp only [nrmT] at hg; omega) | (intro g1 g2; simp [g1, g2]; done) | (intro g1; simp at g1 ⊢; simp [g1]; done) | (simp only [nrmT] at *; omega) | (simp at * <;> omega) | (simp_all <;> omega) | (simp_all; done)
                    · have := stabP_len (list := (stabD code))
                      omega
                    · refine ⟨(cond met true (cond (decide (((stabD code).getD i.toNat (0, 0)).1 ≤ ((stabP (stabD code)).getD k.toNat 0))) (decide (((stabP (stabD code)).getD k.toNat 0) ≤ ((stabD code).getD i.toNat (0, 0)).2)) false)), (k + 1), ?_⟩
                      refine ⟨?_, ?_, rfl, rfl, rfl, rfl, rfl, rfl, rfl, rfl, rfl⟩
                      · refine ⟨?_, ?_, ?_⟩
                        · first | omega | rfl | (intro hg; simp only [nrmT] at hg; omega) | (intro g1 g2; simp [g1, g2]; done) | (intro g1; simp at g1 ⊢; simp [g1]; done) | (simp only [nrmT] at *; omega) | (simp at * <;> omega) | (simp_all <;> omega) | (simp_all; done)
                        · first | omega | rfl | (intro hg; simp only [nrmT] at hg; omega) | (intro g1 g2; simp [g1, g2]; done) | (intro g1; simp at g1 ⊢; simp [g1]; done) | (simp only [nrmT] at *; omega) | (simp at * <;> omega) | (simp_all <;> omega) | (simp_all; done)
                        · rw [h4, show (k + 1).toNat = k.toNat + 1 by omega]; rfl
                      · first | (show _ < _; omega) | (simp only [l_FnIntervals_mJ1]; omega) | (simp only [l_FnIntervals_mJ1] at *; simp at *; omega)
                  · intro b11
                    try simp only [nrmT] at b11
                    refine ⟨?_, ?_⟩
                    · intro b12
                      try simp only [nrmT] at b12
                      exfalso
                      obtain ⟨_, q⟩ := stab_final h0
                      obtain ⟨j, q1, q2⟩ := q i.toNat (by omega)
                      have q3 := (metTo_iff _ _ _ k.toNat).2 ⟨j, by omega, q2⟩
                      rw [← h4] at q3
                      rw [q3] at b12
                      cases b12
                    · intro b13
                      try simp only [nrmT] at b13
                      refine ⟨?_, ?_⟩
                      · have := stabD_len code
                        omega
                      · refine ⟨(i + 1), ?_⟩
                        refine ⟨?_, ?_, rfl, rfl, rfl, rfl, rfl, rfl, rfl⟩
                        · refine ⟨?_, ?_⟩
                          · first | omega | rfl | (intro hg; simp only [nrmT] at hg; omega) | (intro g1 g2; simp [g1, g2]; done) | (intro g1; simp at g1 ⊢; simp [g1]; done) | (simp only [nrmT] at *; omega) | (simp at * <;> omega) | (simp_all <;> omega) | (simp_all; done)
                          · first | omega | rfl | (intro hg; simp only [nrmT] at hg; omega) | (intro g1 g2; simp [g1, g2]; done) | (intro g1; simp at g1 ⊢; simp [g1]; done) | (simp only [nrmT] at *; omega) | (simp at * <;> omega) | (simp_all <;> omega) | (simp_all; done)
                        · first | (show _ < _; omega) | (simp only [l_FnIntervals_mJ0]; omega) | (simp only [l_FnIntervals_mJ0] at *; simp at *; omega)
              · intro b14
                try simp only [nrmT] at b14
                refine ⟨?_, rfl, rfl, rfl, rfl, rfl, rfl⟩
                · unfold l_FnIntervals_JA0
                  first | omega | rfl | (intro hg; simp only [nrmT] at hg; omega) | (intro g1 g2; simp [g1, g2]; done) | (intro g1; simp at g1 ⊢; simp [g1]; done) | (simp only [nrmT] at *; omega) | (simp at * <;> omega) | (simp_all <;> omega) | (simp_all; done)
          · intro  hJ
            have e0 := hJ
            refine ⟨?_, ?_⟩
            · refine ⟨0, ?_⟩
              refine ⟨?_, rfl, rfl, rfl, rfl, rfl, rfl, rfl⟩
              · refine ⟨?_, ?_⟩
                · first | omega | rfl | (intro hg; simp only [nrmT] at hg; omega) | (intro g1 g2; simp [g1, g2]; done) | (intro g1; simp at g1 ⊢; simp [g1]; done) | (simp only [nrmT] at *; omega) | (simp at * <;> omega) | (simp_all <;> omega) | (simp_all; done)
                · first | omega | rfl | (intro hg; simp only [nrmT] at hg; omega) | (intro g1 g2; simp [g1, g2]; done) | (intro g1; simp at g1 ⊢; simp [g1]; done) | (simp only [nrmT] at *; omega) | (simp at * <;> omega) | (simp_all <;> omega) | (simp_all; done)
            · intro i2 hJ
              obtain ⟨j0, j1⟩ := hJ
              refine ⟨?_, ?_⟩
              · intro b15
                try simp only [nrmT] at b15
                refine ⟨?_, ?_⟩
                · refine ⟨0, ?_⟩
                  refine ⟨?_, rfl, rfl, rfl, rfl, rfl, rfl, rfl, rfl⟩
                  · refine ⟨?_, ?_⟩
                    · first | omega | rfl | (intro hg; simp only [nrmT] at hg; omega) | (intro g1 g2; simp [g1, g2]; done) | (intro g1; simp at g1 ⊢; simp [g1]; done) | (simp only [nrmT] at *; omega) | (simp at * <;> omega) | (simp_all <;> omega) | (simp_all; done)
                    · first | omega | rfl | (intro hg; simp only [nrmT] at hg; omega) | (intro g1 g2; simp [g1, g2]; done) | (intro g1; simp at g1 ⊢; simp [g1]; done) | (simp only [nrmT] at *; omega) | (simp at * <;> omega) | (simp_all <;> omega) | (simp_all; done)
                · intro k2 hJ
                  obtain ⟨j2, j3⟩ := hJ
                  refine ⟨?_, ?_⟩
                  · intro b16
                    try simp only [nrmT] at b16
                    refine ⟨rfl, ?_, ?_, ?_, ?_, ?_, ?_, ?_, ?_, ?_, ?_, ?_, ?_, by decide, by decide, by decide, by decide, fun _ => by decide, fun _ => by decide, id, fun _ => by decide, fun _ => by decide, id, id, id, rfl, id, fun _ => rfl, ?_, ?_⟩
                    · first | omega | rfl | (intro hg; simp only [nrmT] at hg; omega) | (intro g1 g2; simp [g1, g2]; done) | (intro g1; simp at g1 ⊢; simp [g1]; done) | (simp only [nrmT] at *; omega) | (simp at * <;> omega) | (simp_all <;> omega) | (simp_all; done)
                    · first | omega | rfl | (intro hg; simp only [nrmT] at hg; omega) | (intro g1 g2; simp [g1, g2]; done) | (intro g1; simp at g1 ⊢; simp [g1]; done) | (simp only [nrmT] at *; omega) | (simp at * <;> omega) | (simp_all <;> omega) | (simp_all; done)
                    · first | omega | rfl | (intro hg; simp only [nrmT] at hg; omega) | (intro g1 g2; simp [g1, g2]; done) | (intro g1; simp at g1 ⊢; simp [g1]; done) | (simp only [nrmT] at *; omega) | (simp at * <;> omega) | (simp_all <;> omega) | (simp_all; done)
                    · have q := (stab_final j0).1.inn i2.toNat (by omega)
                      omega
                    · have q := (stab_final j0).1.inn i2.toNat (by omega)
                      omega
                    · have q := (stab_final j0).1.inn i2.toNat (by omega)
                      omega
                    · first | omega | rfl | (intro hg; simp only [nrmT] at hg; omega) | (intro g1 g2; simp [g1, g2]; done) | (intro g1; simp at g1 ⊢; simp [g1]; done) | (simp only [nrmT] at *; omega) | (simp at * <;> omega) | (simp_all <;> omega) | (simp_all; done)
                    · first | omega | rfl | (intro hg; simp only [nrmT] at hg; omega) | (intro g1 g2; simp [g1, g2]; done) | (intro g1; simp at g1 ⊢; simp [g1]; done) | (simp only [nrmT] at *; omega) | (simp at * <;> omega) | (simp_all <;> omega) | (simp_all; done)
                    · first | omega | rfl | (intro hg; simp only [nrmT] at hg; omega) | (intro g1 g2; simp [g1, g2]; done) | (intro g1; simp at g1 ⊢; simp [g1]; done) | (simp only [nrmT] at *; omega) | (simp at * <;> omega) | (simp_all <;> omega) | (simp_all; done)
                    · have q := (stab_final j0).1.inn k2.toNat (by omega)
                      omega
                    · have q := (stab_final j0).1.inn k2.toNat (by omega)
                      omega
                    · have q := (stab_final j0).1.inn k2.toNat (by omega)
                      omega
                    · intro b17
                      exfalso
                      have q := (stab_final j0).1.apart k2.toNat i2.toNat (by omega) (by omega)
                      rw [cond_and, Bool.and_eq_true, decide_eq_true_eq, decide_eq_true_eq] at b17
                      omega
                    · intro b18
                      refine ⟨?_, ?_⟩
                      · have := stabB_len (list := (stabD code))
                        omega
                      · refine ⟨(k2 + 1), ?_⟩
                        refine ⟨?_, ?_, rfl, rfl, rfl, rfl, rfl, rfl, rfl, rfl⟩
                        · refine ⟨?_, ?_⟩
                          · first | omega | rfl | (intro hg; simp only [nrmT] at hg; omega) | (intro g1 g2; simp [g1, g2]; done) | (intro g1; simp at g1 ⊢; simp [g1]; done) | (simp only [nrmT] at *; omega) | (simp at * <;> omega) | (simp_all <;> omega) | (simp_all; done)
                          · first | omega | rfl | (intro hg; simp only [nrmT] at hg; omega) | (intro g1 g2; simp [g1, g2]; done) | (intro g1; simp at g1 ⊢; simp [g1]; done) | (simp only [nrmT] at *; omega) | (simp at * <;> omega) | (simp_all <;> omega) | (simp_all; done)
                        · first | (show _ < _; omega) | (simp only [l_FnIntervals_mJ3]; omega) | (simp only [l_FnIntervals_mJ3] at *; simp at *; omega)
                  · intro b19
                    try simp only [nrmT] at b19
                    refine ⟨?_, ?_⟩
                    · have := stabB_len (list := (stabD code))
                      omega
                    · refine ⟨(i2 + 1), ?_⟩
                      refine ⟨?_, ?_, rfl, rfl, rfl, rfl, rfl, rfl, rfl⟩
                      · refine ⟨?_, ?_⟩
                        · first | omega | rfl | (intro hg; simp only [nrmT] at hg; omega) | (intro g1 g2; simp [g1, g2]; done) | (intro g1; simp at g1 ⊢; simp [g1]; done) | (simp only [nrmT] at *; omega) | (simp at * <;> omega) | (simp_all <;> omega) | (simp_all; done)
                        · first | omega | rfl | (intro hg; simp only [nrmT] at hg; omega) | (intro g1 g2; simp [g1, g2]; done) | (intro g1; simp at g1 ⊢; simp [g1]; done) | (simp only [nrmT] at *; omega) | (simp at * <;> omega) | (simp_all <;> omega) | (simp_all; done)
                      · first | (show _ < _; omega) | (simp only [l_FnIntervals_mJ2]; omega) | (simp only [l_FnIntervals_mJ2] at *; simp at *; omega)
              · intro b20
                try simp only [nrmT] at b20
                rw [(stab_final j0).1.len]; simp
theorem l_FnIntervals_pc (code : List Nat) (hb : ∀ x9 ∈ code, x9 < 256) : PC Try.prog 3 [.sl (.bytes code)] (.one (.d (.bool true))) :=
  pc_wf @Try.call3 fun hw => pc_by (by kernel_rfl) Try.func3 @Try.call3 (by kernel_rfl) l_FnIntervals_C (l_FnIntervals_A code) (by kernel_rfl) (l_FnIntervals_vc code hb hw.1) (by kernel_rfl)
end Go.Proofs.Ytomnmacmlhkceaa
