/- Contracts of the functions that the law reaches. -/
import Derived.Test.YtomnmacmlhkceaaQw
import Derived.Test.YtomnmacmlhkceaaQma
import Derived.Test.YtomnmacmlhkceaaProg
import Derived.KernelRfl
set_option linter.unusedVariables false
set_option linter.unusedSimpArgs false
namespace Go.Proofs.Ytomnmacmlhkceaa
open Go

abbrev ZI := List Int
abbrev ZR := List (List Int)
abbrev I6 (x : Int) : Prop := -9223372036854775808 ≤ x ∧ x ≤ 9223372036854775807
def J3s (f : FuncId) (ds : List D) : Orc := .no
def J3v (x : Int) (a : Int) (b : Int) : Ann := .none
def J2k (x : Int) (a : Int) (b : Int) : Prop :=
  ((decide (x ≥ a)) = true → (decide (x ≥ a)) = true) ∧ ((decide (x ≥ a)) = true → (decide (x ≥ a)) = true) ∧ (true = true) ∧ (((decide (x ≥ a)) = true → (decide (x ≥ a)) = true)) ∧ (((decide (x ≥ a)) = false → true = true)) ∧ (((cond (decide (x ≥ a)) (decide (x ≤ b)) false) = (inB x a b)))
theorem J3j (x : Int) (a : Int) (b : Int)   : J2k x a b := by
  unfold J2k
  refine ⟨id, id, rfl, id, fun _ => rfl, ?_⟩
  ·(simp only [inB]; by_cases h : a ≤ x <;> simp_all)
theorem J0M (x : Int) (a : Int) (b : Int)  : PC Try.prog 116 [.int .i64 x, .int .i64 a, .int .i64 b] (.one (.d (.bool (inB x a b)))) :=
  pc_wf @Try.call116 fun _ => pc_by (by kernel_rfl) Try.func116 @Try.call116 (by kernel_rfl) J3s (J3v x a b) (by kernel_rfl) (J3j x a b) (by kernel_rfl)
def J0y : List D → Orc := orcN [none, none, none] fun ds => match ds with
  | [.int .i64 x, .int .i64 a, .int .i64 b] => some (.one (.d (.bool (inB x a b))))
  | _ => none
def J2J (f : FuncId) (ds : List D) : Orc := .no
def J2C (x : Int) (a : Int) (b : Int) : Ann := .none
def J1e (x : Int) (a : Int) (b : Int) : Prop :=
  ((decide (x ≥ a)) = true → (decide (x ≥ a)) = true) ∧ ((decide (x ≥ a)) = true → (decide (x ≥ a)) = true) ∧ (true = true) ∧ (((decide (x ≥ a)) = true → (decide (x ≥ a)) = true)) ∧ (((decide (x ≥ a)) = false → true = true)) ∧ (((cond (decide (x ≥ a)) (decide (x ≤ b)) false) = (inB x a b)))
theorem J2n (x : Int) (a : Int) (b : Int)   : J1e x a b := by
  unfold J1e
  refine ⟨id, id, rfl, id, fun _ => rfl, ?_⟩
  ·(simp only [inB]; by_cases h : a ≤ x <;> simp_all)
theorem J0m (x : Int) (a : Int) (b : Int)  : PC Try.prog 120 [.int .i64 x, .int .i64 a, .int .i64 b] (.one (.d (.bool (inB x a b)))) :=
  pc_wf @Try.call120 fun _ => pc_by (by kernel_rfl) Try.func120 @Try.call120 (by kernel_rfl) J2J (J2C x a b) (by kernel_rfl) (J2n x a b) (by kernel_rfl)
def J0g : List D → Orc := orcN [none, none, none] fun ds => match ds with
  | [.int .i64 x, .int .i64 a, .int .i64 b] => some (.one (.d (.bool (inB x a b))))
  | _ => none
def sz1 (n : Nat) (left : Int) : Int := if left - n < 0 then -1 else left - n
def Jq (xss : ZR) (left : Int) (k : Nat) : Int := foldTo (fun l k => if l < 0 then l else sz1 (xss.getD k []).length l) left k
def Jf (xss : ZR) (left : Int) : Int := if left - xss.length < 0 then -1 else Jq xss (left - xss.length) xss.length
theorem J1r {xss : ZR} {left : Int} {k : Nat} (h : Jq xss left k < 0) : ∀ n, k ≤ n → Jq xss left n = Jq xss left k
  | 0, hk => by have : k = 0 := by omega
                rw [this]
  | n + 1, hk => by
    by_cases e : k = n + 1
    · rw [e]
    have h2 := J1r h n (by omega)
    show (if Jq xss left n < 0 then Jq xss left n else _) = _
    rw [h2, if_pos h]
theorem J1N {xss : ZR} {left : Int} {i : Int} (h0 : 0 ≤ i) (h : 0 ≤ Jq xss left i.toNat) : Jq xss left (i + 1).toNat = sz1 (xss.getD i.toNat []).length (Jq xss left i.toNat) := by
  have e : (i + 1).toNat = i.toNat + 1 := by omega
  rw [e]
  show (if Jq xss left i.toNat < 0 then _ else _) = _
  rw [if_neg (by omega)]
  rfl
theorem J1y {xss : ZR} {left : Int} : ∀ k, k ≤ xss.length → 0 ≤ Jq xss left k → Jq xss left k ≤ left ∧ ∀ j, j < k → ((xss.getD j []).length : Int) ≤ left
  | 0, _, _ => ⟨Int.le_refl _, fun j hj => by omega⟩
  | k + 1, hk, h => by
    have e : Jq xss left (k + 1) = if Jq xss left k < 0 then Jq xss left k else sz1 (xss.getD k []).length (Jq xss left k) := rfl
    rw [e] at h ⊢
    by_cases h2 : Jq xss left k < 0
    · rw [if_pos h2] at h; omega
    rw [if_neg h2] at h ⊢
    obtain ⟨h3, h4⟩ := J1y (xss := xss) (left := left) k (by omega) (by omega)
    unfold sz1 at h ⊢
    by_cases h5 : Jq xss left k - ((xss.getD k []).length : Int) < 0
    · rw [if_pos h5] at h; omega
    rw [if_neg h5] at h ⊢
    refine ⟨by omega, fun j hj => ?_⟩
    by_cases ej : j = k
    · rw [ej]; omega
    exact h4 j (by omega)
theorem J23 {xss : ZR} {left : Int} (h : 0 ≤ Jf xss left) : Jf xss left ≤ left ∧ (xss.length : Int) ≤ left ∧ ∀ xs ∈ xss, (xs.length : Int) ≤ left := by
  unfold Jf at h ⊢
  by_cases h2 : left - (xss.length : Int) < 0
  · rw [if_pos h2] at h; omega
  rw [if_neg h2] at h ⊢
  obtain ⟨h3, h4⟩ := J1y _ (Nat.le_refl _) h
  refine ⟨by omega, by omega, fun xs hx => ?_⟩
  obtain ⟨k, hk, rfl⟩ := List.mem_iff_getElem.1 hx
  have := h4 k hk
  simp [hk] at this
  omega
theorem J3w {n : Nat} {left : Int} (h : sz1 n left < 0) : sz1 n left = -1 := by
  unfold sz1 at *
  by_cases c : left - (n : Int) < 0
  · rw [if_pos c]
  rw [if_neg c] at h; omega
theorem J0X {n : Nat} {left : Int} (h : 0 ≤ sz1 n left) : sz1 n left ≤ left ∧ (n : Int) ≤ left := by
  unfold sz1 at *
  split at h <;> simp_all <;> omega
def J3g (f : FuncId) (ds : List D) : Orc := .no
def J39 (xs : ZI) (left : Int) : Ann := .none
def J1x (xs : ZI) (left : Int) : Prop :=
  (I6 (left - (xs.length : Int))) ∧ (((decide ((left - (xs.length : Int)) < 0)) = true → ((((-1) : Int) = (sz1 xs.length left)))) ∧ ((decide ((left - (xs.length : Int)) < 0)) = false → (((left - (xs.length : Int)) = (sz1 xs.length left)))))
theorem J2M (xs : ZI) (left : Int) (hl : 0 ≤ left ∧ left ≤ 1048576) (w_xs : (xs.length : Int) ≤ 9223372036854775807) : J1x xs left := by
  unfold J1x
  refine ⟨?_, ?_, ?_⟩
  ·first | omega | rfl | (intro hg; simp only [nrmT] at hg; omega) | (intro g1 g2; simp [g1, g2]; done) | (intro g1; simp at g1 ⊢; simp [g1]; done) | (simp only [nrmT] at *; omega) | (simp at * <;> omega) | (simp_all <;> omega) | (simp_all; done)
  ·intro b1
   try simp only [nrmT] at b1
   unfold sz1; split <;> omega
  intro b2
  try simp only [nrmT] at b2
  unfold sz1; split <;> omega
theorem J17 (xs : ZI) (left : Int) (hl : 0 ≤ left ∧ left ≤ 1048576) : PC Try.prog 113 [.sl (.ints xs), .int .i64 left] (.one (.d (.int .i64 (sz1 xs.length left)))) :=
  pc_wf @Try.call113 fun hw => pc_by (by kernel_rfl) Try.func113 @Try.call113 (by kernel_rfl) J3g (J39 xs left) (by kernel_rfl) (J2M xs left hl hw.1) (by kernel_rfl)
def J0N : List D → Orc := orcN [some .ints, none] fun ds => match ds with
  | [.sl (.ints xs), .int .i64 left] => some (.one (.d (.int .i64 (sz1 xs.length left))))
  | _ => none
abbrev JF (xss : ZR) (left : Int) (left1 : Int) (i : Int) : Prop := (0 ≤ i) ∧ (i ≤ (xss.length : Int)) ∧ (left1 = Jq xss (left - xss.length) i.toNat) ∧ (0 ≤ left1 ∧ left1 ≤ 1048576) ∧ (0 ≤ left - (xss.length : Int))
abbrev Ju (xss : ZR) (left : Int) (left1 : Int) (i : Int) : Nat := (xss.length - i).toNat
def J2B (f : FuncId) (ds : List D) : Orc := bif Nat.beq f 113 then J0N ds else .no
def J2A (xss : ZR) (left : Int) : Ann := .two (.none) (.two (.none) (.two (.none) (.two (.two (.none) (.loop (cut2 (fun (left1 : Int) (i : Int) => JF xss left left1 i) (fun (left1 : Int) (i : Int) => [(0, .d false (.sl (.rows xss))), (1, .d true (.int .i64 left1)), (5, .d true (.int .i64 i))]) (fun (left1 : Int) (i : Int) => [])) (fun g => Ju xss left g.1 g.2) (fun _ => .none))) (.none))))
def J1a (xss : ZR) (left : Int) : Prop :=
  (I6 (left - (xss.length : Int))) ∧ (((decide ((left - (xss.length : Int)) < 0)) = true → ((((-1) : Int) = (Jf xss left)))) ∧ ((decide ((left - (xss.length : Int)) < 0)) = false → ((∃ left1' : Int, ∃ i' : Int, (JF xss left left1' i') ∧ (xss = xss) ∧ ((left - (xss.length : Int)) = left1') ∧ ((0 : Int) = i')) ∧ (∀ left1 : Int, ∀ i : Int, (JF xss left left1 i) → (((decide (i < (xss.length : Int))) = true → ((0 : Int) ≤ i) ∧ ((i : Int) < xss.length) ∧ (i.toNat < xss.length) ∧ (PC Try.prog 113 [.sl (.ints (xss.getD i.toNat [])), .int .i64 left1] (.one (.d (.int .i64 (sz1 (xss.getD i.toNat []).length left1))))) ∧ (((decide ((sz1 (xss.getD i.toNat []).length left1) < 0)) = true → ((((-1) : Int) = (Jf xss left)))) ∧ ((decide ((sz1 (xss.getD i.toNat []).length left1) < 0)) = false → (I6 (i + 1)) ∧ (∃ left1' : Int, ∃ i' : Int, (JF xss left left1' i') ∧ (Ju xss left left1' i' < Ju xss left left1 i) ∧ (xss = xss) ∧ ((sz1 (xss.getD i.toNat []).length left1) = left1') ∧ ((i + 1) = i'))))) ∧ ((decide (i < (xss.length : Int))) = false → ((left1 = (Jf xss left)))))))))
theorem J2e (xss : ZR) (left : Int) (hl : 0 ≤ left ∧ left ≤ 1048576) (w_xss : (xss.length : Int) ≤ 9223372036854775807) (v_xss : ∀ x9 ∈ xss, (x9.length : Int) ≤ 9223372036854775807) : J1a xss left := by
  unfold J1a
  refine ⟨?_, ?_, ?_⟩
  ·first | omega | rfl | (intro hg; simp only [nrmT] at hg; omega) | (intro g1 g2; simp [g1, g2]; done) | (intro g1; simp at g1 ⊢; simp [g1]; done) | (simp only [nrmT] at *; omega) | (simp at * <;> omega) | (simp_all <;> omega) | (simp_all; done)
  ·intro b1
   try simp only [nrmT] at b1
   unfold Jf; rw [if_pos (by omega)]
  intro b2
  try simp only [nrmT] at b2
  refine ⟨?_, ?_⟩
  ·refine ⟨(left - (xss.length : Int)), 0, ?_⟩
   refine ⟨?_, rfl, rfl, rfl⟩
   ·refine ⟨?_, ?_, ?_, ?_, ?_⟩
    ·first | omega | rfl | (intro hg; simp only [nrmT] at hg; omega) | (intro g1 g2; simp [g1, g2]; done) | (intro g1; simp at g1 ⊢; simp [g1]; done) | (simp only [nrmT] at *; omega) | (simp at * <;> omega) | (simp_all <;> omega) | (simp_all; done)
    ·first | omega | rfl | (intro hg; simp only [nrmT] at hg; omega) | (intro g1 g2; simp [g1, g2]; done) | (intro g1; simp at g1 ⊢; simp [g1]; done) | (simp only [nrmT] at *; omega) | (simp at * <;> omega) | (simp_all <;> omega) | (simp_all; done)
    ·first | omega | rfl | (intro hg; simp only [nrmT] at hg; omega) | (intro g1 g2; simp [g1, g2]; done) | (intro g1; simp at g1 ⊢; simp [g1]; done) | (simp only [nrmT] at *; omega) | (simp at * <;> omega) | (simp_all <;> omega) | (simp_all; done)
    ·first | omega | rfl | (intro hg; simp only [nrmT] at hg; omega) | (intro g1 g2; simp [g1, g2]; done) | (intro g1; simp at g1 ⊢; simp [g1]; done) | (simp only [nrmT] at *; omega) | (simp at * <;> omega) | (simp_all <;> omega) | (simp_all; done)
    ·first | omega | rfl | (intro hg; simp only [nrmT] at hg; omega) | (intro g1 g2; simp [g1, g2]; done) | (intro g1; simp at g1 ⊢; simp [g1]; done) | (simp only [nrmT] at *; omega) | (simp at * <;> omega) | (simp_all <;> omega) | (simp_all; done)
  intro left1 i hJ
  obtain ⟨h1, h2, h3, h4, h5⟩ := hJ
  refine ⟨?_, ?_⟩
  ·intro b3
   try simp only [nrmT] at b3
   refine ⟨?_, ?_, ?_, ?_, ?_, ?_⟩
   ·first | omega | rfl | (intro hg; simp only [nrmT] at hg; omega) | (intro g1 g2; simp [g1, g2]; done) | (intro g1; simp at g1 ⊢; simp [g1]; done) | (simp only [nrmT] at *; omega) | (simp at * <;> omega) | (simp_all <;> omega) | (simp_all; done)
   ·first | omega | rfl | (intro hg; simp only [nrmT] at hg; omega) | (intro g1 g2; simp [g1, g2]; done) | (intro g1; simp at g1 ⊢; simp [g1]; done) | (simp only [nrmT] at *; omega) | (simp at * <;> omega) | (simp_all <;> omega) | (simp_all; done)
   ·first | omega | rfl | (intro hg; simp only [nrmT] at hg; omega) | (intro g1 g2; simp [g1, g2]; done) | (intro g1; simp at g1 ⊢; simp [g1]; done) | (simp only [nrmT] at *; omega) | (simp at * <;> omega) | (simp_all <;> omega) | (simp_all; done)
   ·refine J17 (xss.getD i.toNat []) left1 ?_
    ·first | omega | rfl | (intro hg; simp only [nrmT] at hg; omega) | (intro g1 g2; simp [g1, g2]; done) | (intro g1; simp at g1 ⊢; simp [g1]; done) | (simp only [nrmT] at *; omega) | (simp at * <;> omega) | (simp_all <;> omega) | (simp_all; done)
   ·intro b4
    try simp only [nrmT] at b4
    have e := J1N (xss := xss) (left := left - xss.length) h1 (by omega)
    rw [← h3] at e
    have e2 := J1r (k := (i + 1).toNat) (by rw [e]; exact b4) xss.length (by omega)
    unfold Jf
    rw [if_neg (by omega), e2, e]
    exact (J3w b4).symm
   intro b5
   try simp only [nrmT] at b5
   refine ⟨?_, ?_⟩
   ·first | omega | rfl | (intro hg; simp only [nrmT] at hg; omega) | (intro g1 g2; simp [g1, g2]; done) | (intro g1; simp at g1 ⊢; simp [g1]; done) | (simp only [nrmT] at *; omega) | (simp at * <;> omega) | (simp_all <;> omega) | (simp_all; done)
   refine ⟨(sz1 (xss.getD i.toNat []).length left1), (i + 1), ?_⟩
   refine ⟨?_, ?_, rfl, rfl, rfl⟩
   ·refine ⟨?_, ?_, ?_, ?_, ?_⟩
    ·first | omega | rfl | (intro hg; simp only [nrmT] at hg; omega) | (intro g1 g2; simp [g1, g2]; done) | (intro g1; simp at g1 ⊢; simp [g1]; done) | (simp only [nrmT] at *; omega) | (simp at * <;> omega) | (simp_all <;> omega) | (simp_all; done)
    ·first | omega | rfl | (intro hg; simp only [nrmT] at hg; omega) | (intro g1 g2; simp [g1, g2]; done) | (intro g1; simp at g1 ⊢; simp [g1]; done) | (simp only [nrmT] at *; omega) | (simp at * <;> omega) | (simp_all <;> omega) | (simp_all; done)
    ·rw [h3, J1N h1 (by omega)]
    ·have := J0X (n := (xss.getD i.toNat []).length) (left := left1) (by omega)
     omega
    ·first | omega | rfl | (intro hg; simp only [nrmT] at hg; omega) | (intro g1 g2; simp [g1, g2]; done) | (intro g1; simp at g1 ⊢; simp [g1]; done) | (simp only [nrmT] at *; omega) | (simp at * <;> omega) | (simp_all <;> omega) | (simp_all; done)
   first | (show _ < _; omega) | (simp only [Ju]; omega) | (simp only [Ju] at *; simp at *; omega)
  intro b6
  try simp only [nrmT] at b6
  unfold Jf
  rw [if_neg (by omega), h3]
  have : i.toNat = xss.length := by omega
  rw [this]
theorem J2l (xss : ZR) (left : Int) (hl : 0 ≤ left ∧ left ≤ 1048576) : PC Try.prog 114 [.sl (.rows xss), .int .i64 left] (.one (.d (.int .i64 (Jf xss left)))) :=
  pc_wf @Try.call114 fun hw => pc_by (by kernel_rfl) Try.func114 @Try.call114 (by kernel_rfl) J2B (J2A xss left) (by kernel_rfl) (J2e xss left hl hw.1.1 hw.1.2) (by kernel_rfl)
def J1T : List D → Orc := orcN [some .rows, none] fun ds => match ds with
  | [.sl (.rows xss), .int .i64 left] => some (.one (.d (.int .i64 (Jf xss left))))
  | _ => none
def J32 (xs : ZI) (lo hi : Int) (k : Nat) : Bool := inB (xs.getD k 0) lo hi && (decide (k = 0) || decide (xs.getD (k - 1) 0 < xs.getD k 0))
def J28 (xs : ZI) (lo hi : Int) : Bool := allTo (J32 xs lo hi) xs.length
theorem J3p (m n : Nat) : decide ((m : Int) ≤ (n : Int)) = decide (m ≤ n) := by
  rw [Bool.eq_iff_iff]; simp only [decide_eq_true_eq]; omega
theorem J33 {α : Type} {p : α → Bool} {d : α} {xs : List α} {i : Int} (h2 : (xs.length : Int) ≤ i) (h2' : i ≤ (xs.length : Int)) (h3 : allTo (fun k => p (xs.getD k d)) i.toNat = true) : xs.all p = true := by
  have e : i.toNat = xs.length := by omega
  rw [e, allTo_list] at h3; exact h3
theorem J3l {α : Type} {p : α → Bool} {d : α} {xs : List α} {i : Int} (h0 : 0 ≤ i) (h : i < (xs.length : Int)) (h3 : p (xs.getD i.toNat d) = false) : xs.all p = false := by
  rw [← allTo_list (d := d)]; exact allTo_falseI h0 h h3
def J31 (size : Int) (sets : ZR) (costs : ZI) : Bool :=
  inB size 0 8 && decide (sets.length ≤ 8) && decide (costs.length = sets.length) && costs.all (fun x => inB x 1 99) && sets.all (fun xs => J28 xs 0 (size - 1))
theorem J2m {x lo hi : Int} (h : inB x lo hi = true) : lo ≤ x ∧ x ≤ hi := of_decide_eq_true h
def J1n (f : FuncId) (ds : List D) : Orc := bif Nat.beq f 120 then J0g ds else .no
def J1i (x : Int) (lo : Int) (hi : Int) : Ann := .none
def J0k (x : Int) (lo : Int) (hi : Int) : Prop :=
  (PC Try.prog 120 [.int .i64 x, .int .i64 lo, .int .i64 hi] (.one (.d (.bool (inB x lo hi))))) ∧ (((!(inB x lo hi)) = (!(inB x lo hi))))
theorem J14 (x : Int) (lo : Int) (hi : Int)   : J0k x lo hi := by
  unfold J0k
  refine ⟨J0m x lo hi, rfl⟩
theorem J13 (x : Int) (lo : Int) (hi : Int)  : PC Try.prog 205 [.int .i64 x, .bx [.int .i64 lo] 0, .bx [.int .i64 hi] 0] (.one (.d (.bool (!(inB x lo hi))))) :=
  pc_wf @Try.call205 fun _ => pc_by (by kernel_rfl) Try.func205 @Try.call205 (by kernel_rfl) J1n (J1i x lo hi) (by kernel_rfl) (J14 x lo hi) (by kernel_rfl)
def J0L : List D → Orc := orcN [none, none, none] fun ds => match ds with
  | [.int .i64 x, .bx [.int .i64 lo] 0, .bx [.int .i64 hi] 0] => some (.one (.d (.bool (!(inB x lo hi)))))
  | _ => none
abbrev Ja (xs : ZI) (lo : Int) (hi : Int) (i : Int) : Prop := (0 ≤ i) ∧ (i ≤ (xs.length : Int)) ∧ (∀ k, k < i.toNat → (fun x => !(inB x lo hi)) (xs.getD k 0) = false)
abbrev J9 (xs : ZI) (lo : Int) (hi : Int) (i : Int) : Nat := (xs.length - i).toNat
def J04 (f : FuncId) (ds : List D) : Orc := bif Nat.beq f 205 then J0L ds else .no
def J05 (xs : ZI) (lo : Int) (hi : Int) : Ann := .two (.none) (.two (.two (.none) (.loop (cut1 (fun (i : Int) => Ja xs lo hi i) (fun (i : Int) => [(0, .d false (.sl (.ints xs))), (1, .d false (.fn 205 0 [.bx [.int .i64 lo] 0, .bx [.int .i64 hi] 0])), (7, .d true (.int .i64 (xs.length : Int))), (8, .d true (.int .i64 i))]) (fun (i : Int) => [])) (fun g => J9 xs lo hi g) (fun _ => .none))) (.none))
def Jn (xs : ZI) (lo : Int) (hi : Int) : Prop :=
  ((∃ i' : Int, (Ja xs lo hi i') ∧ (xs = xs) ∧ ((.fn 205 0 [.bx [.int .i64 lo] 0, .bx [.int .i64 hi] 0] : D) = (.fn 205 0 [.bx [.int .i64 lo] 0, .bx [.int .i64 hi] 0] : D)) ∧ ((xs.length : Int) = (xs.length : Int)) ∧ ((0 : Int) = i')) ∧ (∀ i : Int, (Ja xs lo hi i) → (((decide (i < (xs.length : Int))) = true → ((0 : Int) ≤ i) ∧ ((i : Int) < xs.length) ∧ (i.toNat < xs.length) ∧ (PC Try.prog 205 [.int .i64 (xs.getD i.toNat 0), .bx [.int .i64 lo] 0, .bx [.int .i64 hi] 0] (.one (.d (.bool (!(inB (xs.getD i.toNat 0) lo hi)))))) ∧ (((!(inB (xs.getD i.toNat 0) lo hi)) = true → ((i = (idxI (fun x => !(inB x lo hi)) xs)))) ∧ ((!(inB (xs.getD i.toNat 0) lo hi)) = false → (I6 (i + 1)) ∧ (∃ i' : Int, (Ja xs lo hi i') ∧ (J9 xs lo hi i' < J9 xs lo hi i) ∧ (xs = xs) ∧ ((.fn 205 0 [.bx [.int .i64 lo] 0, .bx [.int .i64 hi] 0] : D) = (.fn 205 0 [.bx [.int .i64 lo] 0, .bx [.int .i64 hi] 0] : D)) ∧ ((xs.length : Int) = (xs.length : Int)) ∧ ((i + 1) = i'))))) ∧ ((decide (i < (xs.length : Int))) = false → ((((-1) : Int) = (idxI (fun x => !(inB x lo hi)) xs)))))))
theorem JS (xs : ZI) (lo : Int) (hi : Int)  (w_xs : (xs.length : Int) ≤ 9223372036854775807) : Jn xs lo hi := by
  unfold Jn
  refine ⟨?_, ?_⟩
  ·refine ⟨0, ?_⟩
   refine ⟨?_, rfl, rfl, rfl, rfl⟩
   ·refine ⟨?_, ?_, ?_⟩
    ·omega
    ·omega
    ·omega
  intro i hJ
  obtain ⟨h1, h2, h3⟩ := hJ
  refine ⟨?_, ?_⟩
  ·intro b1
   try simp only [nrmT] at b1
   refine ⟨?_, ?_, ?_, J13 (xs.getD i.toNat 0) lo hi, ?_, ?_⟩
   ·omega
   ·omega
   ·omega
   ·intro b2
    try simp only [nrmT] at b2
    exact idx_found (p := fun x => !(inB x lo hi)) h1 b1 h3 (by simpa using b2)
   intro b3
   try simp only [nrmT] at b3
   refine ⟨?_, ?_⟩
   ·omega
   refine ⟨(i + 1), ?_⟩
   refine ⟨?_, ?_, rfl, rfl, rfl, rfl⟩
   ·refine ⟨?_, ?_, ?_⟩
    ·omega
    ·omega
    ·exact idx_step (p := fun x => !(inB x lo hi)) h1 h3 (by simpa using b3)
   (simp only [J9]; omega)
  intro b4
  try simp only [nrmT] at b4
  exact (idx_none (by omega) h3).symm
theorem J01 (xs : ZI) (lo : Int) (hi : Int)  : PC Try.prog 204 [.sl (.ints xs), .fn 205 0 [.bx [.int .i64 lo] 0, .bx [.int .i64 hi] 0]] (.one (.d (.int .i64 (idxI (fun x => !(inB x lo hi)) xs)))) :=
  pc_wf @Try.call204 fun hw => pc_by (by kernel_rfl) Try.func204 @Try.call204 (by kernel_rfl) J04 (J05 xs lo hi) (by kernel_rfl) (JS xs lo hi hw.1) (by kernel_rfl)
def JQ : List D → Orc := orcN [some .ints, none] fun ds => match ds with
  | [.sl (.ints xs), .fn f0 0 [.bx [.int .i64 lo] 0, .bx [.int .i64 hi] 0]] => bif Nat.beq f0 205 then some (.one (.d (.int .i64 (idxI (fun x => !(inB x lo hi)) xs)))) else none
  | _ => none
def JN (f : FuncId) (ds : List D) : Orc := bif Nat.beq f 204 then JQ ds else .no
def JK (xs : ZI) (lo : Int) (hi : Int) : Ann := .none
def Jk (xs : ZI) (lo : Int) (hi : Int) : Prop :=
  (PC Try.prog 204 [.sl (.ints xs), .fn 205 0 [.bx [.int .i64 lo] 0, .bx [.int .i64 hi] 0]] (.one (.d (.int .i64 (idxI (fun x => !(inB x lo hi)) xs))))) ∧ (((decide ((idxI (fun x => !(inB x lo hi)) xs) ≥ 0)) = (xs.any (fun x => !(inB x lo hi)))))
theorem JC (xs : ZI) (lo : Int) (hi : Int)  (w_xs : (xs.length : Int) ≤ 9223372036854775807) : Jk xs lo hi := by
  unfold Jk
  refine ⟨J01 xs lo hi, ?_⟩
  ·exact idx_any _ _
theorem JB (xs : ZI) (lo : Int) (hi : Int)  : PC Try.prog 127 [.sl (.ints xs), .fn 205 0 [.bx [.int .i64 lo] 0, .bx [.int .i64 hi] 0]] (.one (.d (.bool (xs.any (fun x => !(inB x lo hi)))))) :=
  pc_wf @Try.call127 fun hw => pc_by (by kernel_rfl) Try.func127 @Try.call127 (by kernel_rfl) JN (JK xs lo hi) (by kernel_rfl) (JC xs lo hi hw.1) (by kernel_rfl)
def JA : List D → Orc := orcN [some .ints, none] fun ds => match ds with
  | [.sl (.ints xs), .fn f0 0 [.bx [.int .i64 lo] 0, .bx [.int .i64 hi] 0]] => bif Nat.beq f0 205 then some (.one (.d (.bool (xs.any (fun x => !(inB x lo hi)))))) else none
  | _ => none
def J1J (f : FuncId) (ds : List D) : Orc := bif Nat.beq f 127 then JA ds else .no
def J1H (xs : ZI) (lo : Int) (hi : Int) : Ann := .none
def J0s (xs : ZI) (lo : Int) (hi : Int) : Prop :=
  (PC Try.prog 127 [.sl (.ints xs), .fn 205 0 [.bx [.int .i64 lo] 0, .bx [.int .i64 hi] 0]] (.one (.d (.bool (xs.any (fun x => !(inB x lo hi))))))) ∧ (((!(xs.any (fun x => !(inB x lo hi)))) = (xs.all (fun x => inB x lo hi))))
theorem J1A (xs : ZI) (lo : Int) (hi : Int)  (w_xs : (xs.length : Int) ≤ 9223372036854775807) : J0s xs lo hi := by
  unfold J0s
  refine ⟨JB xs lo hi, ?_⟩
  ·exact any_not _ _
theorem J0o (xs : ZI) (lo : Int) (hi : Int)  : PC Try.prog 131 [.sl (.ints xs), .int .i64 lo, .int .i64 hi] (.one (.d (.bool (xs.all (fun x => inB x lo hi))))) :=
  pc_wf @Try.call131 fun hw => pc_by (by kernel_rfl) Try.func131 @Try.call131 (by kernel_rfl) J1J (J1H xs lo hi) (by kernel_rfl) (J1A xs lo hi hw.1) (by kernel_rfl)
def J0l : List D → Orc := orcN [some .ints, none, none] fun ds => match ds with
  | [.sl (.ints xs), .int .i64 lo, .int .i64 hi] => some (.one (.d (.bool (xs.all (fun x => inB x lo hi)))))
  | _ => none
abbrev J00 (xs : ZI) (out : ZI) (i : Int) : Prop := (0 ≤ i) ∧ (i ≤ (xs.length : Int)) ∧ (out = xs.take i.toNat ++ (List.replicate xs.length 0).drop i.toNat)
abbrev Jx (xs : ZI) (out : ZI) (i : Int) : Nat := (xs.length - i).toNat
def J3e (f : FuncId) (ds : List D) : Orc := .no
def J3f (xs : ZI) : Ann := .two (.none) (.two (.none) (.two (.two (.none) (.loop (cut2 (fun (out : ZI) (i : Int) => J00 xs out i) (fun (out : ZI) (i : Int) => [(0, .d false (.sl (.ints xs))), (3, .own 7 out.length), (4, .d true (.int .i64 i))]) (fun (out : ZI) (i : Int) => [(7, .arr true 3 (.ints out))])) (fun g => Jx xs g.1 g.2) (fun _ => .none))) (.none)))
def J1w (xs : ZI) : Prop :=
  ((xs.length : Int) = (xs.length : Int)) ∧ ((0 : Int) ≤ (xs.length : Int)) ∧ (((xs.length : Int) : Int) * ((8 : Nat) : Int) ≤ 140737488355328) ∧ ((∃ out' : ZI, ∃ i' : Int, (J00 xs out' i') ∧ (xs = xs) ∧ ((xs.length : Int).toNat = out'.length) ∧ ((0 : Int) = i') ∧ ((List.replicate ((xs.length : Int).toNat) (0 : Int)) = out')) ∧ (∀ out : ZI, ∀ i : Int, (J00 xs out i) → (((decide (i < (xs.length : Int))) = true → ((0 : Int) ≤ i) ∧ ((i : Int) < xs.length) ∧ (i.toNat < xs.length) ∧ ((0 : Int) ≤ i) ∧ ((i : Int) < (out.length : Int)) ∧ (i.toNat < out.length) ∧ (I6 (i + 1)) ∧ (∃ out' : ZI, ∃ i' : Int, (J00 xs out' i') ∧ (Jx xs out' i' < Jx xs out i) ∧ (xs = xs) ∧ (out.length = out'.length) ∧ ((i + 1) = i') ∧ ((out.set i.toNat (xs.getD i.toNat 0)) = out'))) ∧ ((decide (i < (xs.length : Int))) = false → ((out.length = out.length) ∧ ((out : ZI) = xs))))))
theorem J2N (xs : ZI) (hn : xs.length ≤ 1048576) (w_xs : (xs.length : Int) ≤ 9223372036854775807) : J1w xs := by
  unfold J1w
  refine ⟨rfl, ?_, ?_, ?_, ?_⟩
  ·first | omega | rfl | (intro hg; simp only [nrmT] at hg; omega) | (intro g1 g2; simp [g1, g2]; done) | (intro g1; simp at g1 ⊢; simp [g1]; done) | (simp only [nrmT] at *; omega) | (simp at * <;> omega) | (simp_all <;> omega) | (simp_all; done)
  ·first | omega | rfl | (intro hg; simp only [nrmT] at hg; omega) | (intro g1 g2; simp [g1, g2]; done) | (intro g1; simp at g1 ⊢; simp [g1]; done) | (simp only [nrmT] at *; omega) | (simp at * <;> omega) | (simp_all <;> omega) | (simp_all; done)
  ·refine ⟨(List.replicate ((xs.length : Int).toNat) (0 : Int)), 0, ?_⟩
   refine ⟨?_, rfl, ?_, rfl, rfl⟩
   ·refine ⟨?_, ?_, ?_⟩
    ·first | omega | rfl | (intro hg; simp only [nrmT] at hg; omega) | (intro g1 g2; simp [g1, g2]; done) | (intro g1; simp at g1 ⊢; simp [g1]; done) | (simp only [nrmT] at *; omega) | (simp at * <;> omega) | (simp_all <;> omega) | (simp_all; done)
    ·first | omega | rfl | (intro hg; simp only [nrmT] at hg; omega) | (intro g1 g2; simp [g1, g2]; done) | (intro g1; simp at g1 ⊢; simp [g1]; done) | (simp only [nrmT] at *; omega) | (simp at * <;> omega) | (simp_all <;> omega) | (simp_all; done)
    ·simp
   simp
  intro out i hJ
  obtain ⟨h1, h2, h3⟩ := hJ
  refine ⟨?_, ?_⟩
  ·intro b1
   try simp only [nrmT] at b1
   refine ⟨?_, ?_, ?_, ?_, ?_, ?_, ?_, ?_⟩
   ·first | omega | rfl | (intro hg; simp only [nrmT] at hg; omega) | (intro g1 g2; simp [g1, g2]; done) | (intro g1; simp at g1 ⊢; simp [g1]; done) | (simp only [nrmT] at *; omega) | (simp at * <;> omega) | (simp_all <;> omega) | (simp_all; done)
   ·first | omega | rfl | (intro hg; simp only [nrmT] at hg; omega) | (intro g1 g2; simp [g1, g2]; done) | (intro g1; simp at g1 ⊢; simp [g1]; done) | (simp only [nrmT] at *; omega) | (simp at * <;> omega) | (simp_all <;> omega) | (simp_all; done)
   ·first | omega | rfl | (intro hg; simp only [nrmT] at hg; omega) | (intro g1 g2; simp [g1, g2]; done) | (intro g1; simp at g1 ⊢; simp [g1]; done) | (simp only [nrmT] at *; omega) | (simp at * <;> omega) | (simp_all <;> omega) | (simp_all; done)
   ·first | omega | rfl | (intro hg; simp only [nrmT] at hg; omega) | (intro g1 g2; simp [g1, g2]; done) | (intro g1; simp at g1 ⊢; simp [g1]; done) | (simp only [nrmT] at *; omega) | (simp at * <;> omega) | (simp_all <;> omega) | (simp_all; done)
   ·have e : out.length = xs.length := by rw [h3]; exact copy_len (by omega) (by simp)
    omega
   ·have e : out.length = xs.length := by rw [h3]; exact copy_len (by omega) (by simp)
    omega
   ·first | omega | rfl | (intro hg; simp only [nrmT] at hg; omega) | (intro g1 g2; simp [g1, g2]; done) | (intro g1; simp at g1 ⊢; simp [g1]; done) | (simp only [nrmT] at *; omega) | (simp at * <;> omega) | (simp_all <;> omega) | (simp_all; done)
   refine ⟨(out.set i.toNat (xs.getD i.toNat 0)), (i + 1), ?_⟩
   refine ⟨?_, ?_, rfl, ?_, rfl, rfl⟩
   ·refine ⟨?_, ?_, ?_⟩
    ·first | omega | rfl | (intro hg; simp only [nrmT] at hg; omega) | (intro g1 g2; simp [g1, g2]; done) | (intro g1; simp at g1 ⊢; simp [g1]; done) | (simp only [nrmT] at *; omega) | (simp at * <;> omega) | (simp_all <;> omega) | (simp_all; done)
    ·first | omega | rfl | (intro hg; simp only [nrmT] at hg; omega) | (intro g1 g2; simp [g1, g2]; done) | (intro g1; simp at g1 ⊢; simp [g1]; done) | (simp only [nrmT] at *; omega) | (simp at * <;> omega) | (simp_all <;> omega) | (simp_all; done)
    ·rw [h3]; exact copy_step h1 b1 (by simp)
   ·first | (show _ < _; omega) | (simp only [Jx]; omega) | (simp only [Jx] at *; simp at *; omega)
   simp
  intro b2
  try simp only [nrmT] at b2
  refine ⟨rfl, ?_⟩
  ·rw [h3, take_all (by omega)]; simp; omega
theorem J1c (xs : ZI) (hn : xs.length ≤ 1048576) : PC Try.prog 44 [.sl (.ints xs)] (.one (.d (.sl (.ints xs)))) :=
  pc_wf @Try.call44 fun hw => pc_by (by kernel_rfl) Try.func44 @Try.call44 (by kernel_rfl) J3e (J3f xs) (by kernel_rfl) (J2N xs hn hw.1) (by kernel_rfl)
def J0V : List D → Orc := orcN [some .ints] fun ds => match ds with
  | [.sl (.ints xs)] => some (.one (.d (.sl (.ints xs))))
  | _ => none
abbrev JH (xss : ZR) (out : ZR) (i : Int) : Prop := (0 ≤ i) ∧ (i ≤ (xss.length : Int)) ∧ (out = xss.take i.toNat ++ (List.replicate xss.length []).drop i.toNat)
abbrev Jt (xss : ZR) (out : ZR) (i : Int) : Nat := (xss.length - i).toNat
def J2S (f : FuncId) (ds : List D) : Orc := bif Nat.beq f 44 then J0V ds else .no
def J2F (xss : ZR) : Ann := .two (.none) (.two (.none) (.two (.two (.none) (.loop (cut2 (fun (out : ZR) (i : Int) => JH xss out i) (fun (out : ZR) (i : Int) => [(0, .d false (.sl (.rows xss))), (3, .own 7 out.length), (4, .d true (.int .i64 i))]) (fun (out : ZR) (i : Int) => [(7, .arr true 26 (.rows out))])) (fun g => Jt xss g.1 g.2) (fun _ => .none))) (.none)))
def J1b (xss : ZR) : Prop :=
  ((xss.length : Int) = (xss.length : Int)) ∧ ((0 : Int) ≤ (xss.length : Int)) ∧ (((xss.length : Int) : Int) * ((24 : Nat) : Int) ≤ 140737488355328) ∧ ((∃ out' : ZR, ∃ i' : Int, (JH xss out' i') ∧ (xss = xss) ∧ ((xss.length : Int).toNat = out'.length) ∧ ((0 : Int) = i') ∧ ((List.replicate ((xss.length : Int).toNat) ([] : ZI)) = out')) ∧ (∀ out : ZR, ∀ i : Int, (JH xss out i) → (((decide (i < (xss.length : Int))) = true → ((0 : Int) ≤ i) ∧ ((i : Int) < xss.length) ∧ (i.toNat < xss.length) ∧ (PC Try.prog 44 [.sl (.ints (xss.getD i.toNat []))] (.one (.d (.sl (.ints (xss.getD i.toNat [])))))) ∧ ((0 : Int) ≤ i) ∧ ((i : Int) < (out.length : Int)) ∧ (i.toNat < out.length) ∧ (I6 (i + 1)) ∧ (∃ out' : ZR, ∃ i' : Int, (JH xss out' i') ∧ (Jt xss out' i' < Jt xss out i) ∧ (xss = xss) ∧ (out.length = out'.length) ∧ ((i + 1) = i') ∧ ((out.set i.toNat (xss.getD i.toNat [])) = out'))) ∧ ((decide (i < (xss.length : Int))) = false → ((out.length = out.length) ∧ ((out : ZR) = xss))))))
theorem J25 (xss : ZR) (hn : xss.length ≤ 1048576) (hm : ∀ xs ∈ xss, xs.length ≤ 1048576) (w_xss : (xss.length : Int) ≤ 9223372036854775807) (v_xss : ∀ x9 ∈ xss, (x9.length : Int) ≤ 9223372036854775807) : J1b xss := by
  unfold J1b
  refine ⟨rfl, ?_, ?_, ?_, ?_⟩
  ·first | omega | rfl | (intro hg; simp only [nrmT] at hg; omega) | (intro g1 g2; simp [g1, g2]; done) | (intro g1; simp at g1 ⊢; simp [g1]; done) | (simp only [nrmT] at *; omega) | (simp at * <;> omega) | (simp_all <;> omega) | (simp_all; done)
  ·first | omega | rfl | (intro hg; simp only [nrmT] at hg; omega) | (intro g1 g2; simp [g1, g2]; done) | (intro g1; simp at g1 ⊢; simp [g1]; done) | (simp only [nrmT] at *; omega) | (simp at * <;> omega) | (simp_all <;> omega) | (simp_all; done)
  ·refine ⟨(List.replicate ((xss.length : Int).toNat) ([] : ZI)), 0, ?_⟩
   refine ⟨?_, rfl, ?_, rfl, rfl⟩
   ·refine ⟨?_, ?_, ?_⟩
    ·first | omega | rfl | (intro hg; simp only [nrmT] at hg; omega) | (intro g1 g2; simp [g1, g2]; done) | (intro g1; simp at g1 ⊢; simp [g1]; done) | (simp only [nrmT] at *; omega) | (simp at * <;> omega) | (simp_all <;> omega) | (simp_all; done)
    ·first | omega | rfl | (intro hg; simp only [nrmT] at hg; omega) | (intro g1 g2; simp [g1, g2]; done) | (intro g1; simp at g1 ⊢; simp [g1]; done) | (simp only [nrmT] at *; omega) | (simp at * <;> omega) | (simp_all <;> omega) | (simp_all; done)
    ·simp
   simp
  intro out i hJ
  obtain ⟨h1, h2, h3⟩ := hJ
  refine ⟨?_, ?_⟩
  ·intro b1
   try simp only [nrmT] at b1
   refine ⟨?_, ?_, ?_, ?_, ?_, ?_, ?_, ?_, ?_⟩
   ·first | omega | rfl | (intro hg; simp only [nrmT] at hg; omega) | (intro g1 g2; simp [g1, g2]; done) | (intro g1; simp at g1 ⊢; simp [g1]; done) | (simp only [nrmT] at *; omega) | (simp at * <;> omega) | (simp_all <;> omega) | (simp_all; done)
   ·first | omega | rfl | (intro hg; simp only [nrmT] at hg; omega) | (intro g1 g2; simp [g1, g2]; done) | (intro g1; simp at g1 ⊢; simp [g1]; done) | (simp only [nrmT] at *; omega) | (simp at * <;> omega) | (simp_all <;> omega) | (simp_all; done)
   ·first | omega | rfl | (intro hg; simp only [nrmT] at hg; omega) | (intro g1 g2; simp [g1, g2]; done) | (intro g1; simp at g1 ⊢; simp [g1]; done) | (simp only [nrmT] at *; omega) | (simp at * <;> omega) | (simp_all <;> omega) | (simp_all; done)
   ·refine J1c (xss.getD i.toNat []) ?_
    ·exact hm _ (getD_memI h1 b1)
   ·first | omega | rfl | (intro hg; simp only [nrmT] at hg; omega) | (intro g1 g2; simp [g1, g2]; done) | (intro g1; simp at g1 ⊢; simp [g1]; done) | (simp only [nrmT] at *; omega) | (simp at * <;> omega) | (simp_all <;> omega) | (simp_all; done)
   ·have e : out.length = xss.length := by rw [h3]; exact copy_len (by omega) (by simp)
    omega
   ·have e : out.length = xss.length := by rw [h3]; exact copy_len (by omega) (by simp)
    omega
   ·first | omega | rfl | (intro hg; simp only [nrmT] at hg; omega) | (intro g1 g2; simp [g1, g2]; done) | (intro g1; simp at g1 ⊢; simp [g1]; done) | (simp only [nrmT] at *; omega) | (simp at * <;> omega) | (simp_all <;> omega) | (simp_all; done)
   refine ⟨(out.set i.toNat (xss.getD i.toNat [])), (i + 1), ?_⟩
   refine ⟨?_, ?_, rfl, ?_, rfl, rfl⟩
   ·refine ⟨?_, ?_, ?_⟩
    ·first | omega | rfl | (intro hg; simp only [nrmT] at hg; omega) | (intro g1 g2; simp [g1, g2]; done) | (intro g1; simp at g1 ⊢; simp [g1]; done) | (simp only [nrmT] at *; omega) | (simp at * <;> omega) | (simp_all <;> omega) | (simp_all; done)
    ·first | omega | rfl | (intro hg; simp only [nrmT] at hg; omega) | (intro g1 g2; simp [g1, g2]; done) | (intro g1; simp at g1 ⊢; simp [g1]; done) | (simp only [nrmT] at *; omega) | (simp at * <;> omega) | (simp_all <;> omega) | (simp_all; done)
    ·rw [h3]; exact copy_step h1 b1 (by simp)
   ·first | (show _ < _; omega) | (simp only [Jt]; omega) | (simp only [Jt] at *; simp at *; omega)
   simp
  intro b2
  try simp only [nrmT] at b2
  refine ⟨rfl, ?_⟩
  ·rw [h3, take_all (by omega)]; simp; omega
theorem J2d (xss : ZR) (hn : xss.length ≤ 1048576) (hm : ∀ xs ∈ xss, xs.length ≤ 1048576) : PC Try.prog 118 [.sl (.rows xss)] (.one (.d (.sl (.rows xss)))) :=
  pc_wf @Try.call118 fun hw => pc_by (by kernel_rfl) Try.func118 @Try.call118 (by kernel_rfl) J2S (J2F xss) (by kernel_rfl) (J25 xss hn hm hw.1.1 hw.1.2) (by kernel_rfl)
def J1W : List D → Orc := orcN [some .rows] fun ds => match ds with
  | [.sl (.rows xss)] => some (.one (.d (.sl (.rows xss))))
  | _ => none
theorem J0j {α : Type} [BEq α] [LawfulBEq α] {d : α} {xs ys : List α} (hl : xs.length = ys.length) : allTo (fun k => xs.getD k d == ys.getD k d) xs.length = (xs == ys) := by
  rw [Bool.eq_iff_iff, allTo_iff]
  simp only [beq_iff_eq]
  constructor
  · intro h
    refine List.ext_getElem hl fun k h1 h2 => ?_
    have := h k h1
    simpa [h1, h2] using this
  intro h k _
  rw [h]
theorem J3n {α : Type} [BEq α] [LawfulBEq α] {xs ys : List α} (h : ¬ xs.length = ys.length) : (xs == ys) = false := by
  rw [Bool.eq_false_iff]; intro h2; simp only [beq_iff_eq] at h2; exact h (by rw [h2])
abbrev JV (xs : ZI) (ys : ZI) (i : Int) : Prop := (0 ≤ i) ∧ (i ≤ (xs.length : Int)) ∧ (allTo (fun k => xs.getD k 0 == ys.getD k 0) i.toNat = true) ∧ (xs.length = ys.length)
abbrev Jw (xs : ZI) (ys : ZI) (i : Int) : Nat := (xs.length - i).toNat
def J3a (f : FuncId) (ds : List D) : Orc := .no
def J38 (xs : ZI) (ys : ZI) : Ann := .two (.none) (.two (.none) (.two (.two (.none) (.loop (cut1 (fun (i : Int) => JV xs ys i) (fun (i : Int) => [(0, .d false (.sl (.ints xs))), (1, .d false (.sl (.ints ys))), (5, .d true (.int .i64 i))]) (fun (i : Int) => [])) (fun g => Jw xs ys g) (fun _ => .none))) (.none)))
def J1C (xs : ZI) (ys : ZI) : Prop :=
  ((((xs.length : Int) != (ys.length : Int)) = true → ((false = (xs == ys)))) ∧ (((xs.length : Int) != (ys.length : Int)) = false → ((∃ i' : Int, (JV xs ys i') ∧ (xs = xs) ∧ (ys = ys) ∧ ((0 : Int) = i')) ∧ (∀ i : Int, (JV xs ys i) → (((decide (i < (xs.length : Int))) = true → (true = true) ∧ ((0 : Int) ≤ i) ∧ ((i : Int) < xs.length) ∧ (i.toNat < xs.length) ∧ ((0 : Int) ≤ i) ∧ ((i : Int) < ys.length) ∧ (i.toNat < ys.length) ∧ ((((xs.getD i.toNat 0) != (ys.getD i.toNat 0)) = true → ((false = (xs == ys)))) ∧ (((xs.getD i.toNat 0) != (ys.getD i.toNat 0)) = false → (I6 (i + 1)) ∧ (∃ i' : Int, (JV xs ys i') ∧ (Jw xs ys i' < Jw xs ys i) ∧ (xs = xs) ∧ (ys = ys) ∧ ((i + 1) = i'))))) ∧ ((decide (i < (xs.length : Int))) = false → ((true = (xs == ys)))))))))
theorem J2Y (xs : ZI) (ys : ZI)  (w_xs : (xs.length : Int) ≤ 9223372036854775807) (w_ys : (ys.length : Int) ≤ 9223372036854775807) : J1C xs ys := by
  unfold J1C
  refine ⟨?_, ?_⟩
  ·intro b1
   try simp only [nrmT] at b1
   exact (J3n (by omega)).symm
  intro b2
  try simp only [nrmT] at b2
  refine ⟨?_, ?_⟩
  ·refine ⟨0, ?_⟩
   refine ⟨?_, rfl, rfl, rfl⟩
   ·refine ⟨?_, ?_, ?_, ?_⟩
    ·first | omega | rfl | (intro hg; simp only [nrmT] at hg; omega) | (intro g1 g2; simp [g1, g2]; done) | (intro g1; simp at g1 ⊢; simp [g1]; done) | (simp only [nrmT] at *; omega) | (simp at * <;> omega) | (simp_all <;> omega) | (simp_all; done)
    ·first | omega | rfl | (intro hg; simp only [nrmT] at hg; omega) | (intro g1 g2; simp [g1, g2]; done) | (intro g1; simp at g1 ⊢; simp [g1]; done) | (simp only [nrmT] at *; omega) | (simp at * <;> omega) | (simp_all <;> omega) | (simp_all; done)
    ·first | omega | rfl | (intro hg; simp only [nrmT] at hg; omega) | (intro g1 g2; simp [g1, g2]; done) | (intro g1; simp at g1 ⊢; simp [g1]; done) | (simp only [nrmT] at *; omega) | (simp at * <;> omega) | (simp_all <;> omega) | (simp_all; done)
    ·first | omega | rfl | (intro hg; simp only [nrmT] at hg; omega) | (intro g1 g2; simp [g1, g2]; done) | (intro g1; simp at g1 ⊢; simp [g1]; done) | (simp only [nrmT] at *; omega) | (simp at * <;> omega) | (simp_all <;> omega) | (simp_all; done)
  intro i hJ
  obtain ⟨h1, h2, h3, h4⟩ := hJ
  refine ⟨?_, ?_⟩
  ·intro b3
   try simp only [nrmT] at b3
   refine ⟨rfl, ?_, ?_, ?_, ?_, ?_, ?_, ?_, ?_⟩
   ·first | omega | rfl | (intro hg; simp only [nrmT] at hg; omega) | (intro g1 g2; simp [g1, g2]; done) | (intro g1; simp at g1 ⊢; simp [g1]; done) | (simp only [nrmT] at *; omega) | (simp at * <;> omega) | (simp_all <;> omega) | (simp_all; done)
   ·first | omega | rfl | (intro hg; simp only [nrmT] at hg; omega) | (intro g1 g2; simp [g1, g2]; done) | (intro g1; simp at g1 ⊢; simp [g1]; done) | (simp only [nrmT] at *; omega) | (simp at * <;> omega) | (simp_all <;> omega) | (simp_all; done)
   ·first | omega | rfl | (intro hg; simp only [nrmT] at hg; omega) | (intro g1 g2; simp [g1, g2]; done) | (intro g1; simp at g1 ⊢; simp [g1]; done) | (simp only [nrmT] at *; omega) | (simp at * <;> omega) | (simp_all <;> omega) | (simp_all; done)
   ·first | omega | rfl | (intro hg; simp only [nrmT] at hg; omega) | (intro g1 g2; simp [g1, g2]; done) | (intro g1; simp at g1 ⊢; simp [g1]; done) | (simp only [nrmT] at *; omega) | (simp at * <;> omega) | (simp_all <;> omega) | (simp_all; done)
   ·first | omega | rfl | (intro hg; simp only [nrmT] at hg; omega) | (intro g1 g2; simp [g1, g2]; done) | (intro g1; simp at g1 ⊢; simp [g1]; done) | (simp only [nrmT] at *; omega) | (simp at * <;> omega) | (simp_all <;> omega) | (simp_all; done)
   ·first | omega | rfl | (intro hg; simp only [nrmT] at hg; omega) | (intro g1 g2; simp [g1, g2]; done) | (intro g1; simp at g1 ⊢; simp [g1]; done) | (simp only [nrmT] at *; omega) | (simp at * <;> omega) | (simp_all <;> omega) | (simp_all; done)
   ·intro b4
    try simp only [nrmT] at b4
    rw [← J0j (d := 0) h4]; exact (allTo_falseI h1 (by omega) (by simpa using b4)).symm
   intro b5
   try simp only [nrmT] at b5
   refine ⟨?_, ?_⟩
   ·first | omega | rfl | (intro hg; simp only [nrmT] at hg; omega) | (intro g1 g2; simp [g1, g2]; done) | (intro g1; simp at g1 ⊢; simp [g1]; done) | (simp only [nrmT] at *; omega) | (simp at * <;> omega) | (simp_all <;> omega) | (simp_all; done)
   refine ⟨(i + 1), ?_⟩
   refine ⟨?_, ?_, rfl, rfl, rfl⟩
   ·refine ⟨?_, ?_, ?_, ?_⟩
    ·first | omega | rfl | (intro hg; simp only [nrmT] at hg; omega) | (intro g1 g2; simp [g1, g2]; done) | (intro g1; simp at g1 ⊢; simp [g1]; done) | (simp only [nrmT] at *; omega) | (simp at * <;> omega) | (simp_all <;> omega) | (simp_all; done)
    ·first | omega | rfl | (intro hg; simp only [nrmT] at hg; omega) | (intro g1 g2; simp [g1, g2]; done) | (intro g1; simp at g1 ⊢; simp [g1]; done) | (simp only [nrmT] at *; omega) | (simp at * <;> omega) | (simp_all <;> omega) | (simp_all; done)
    ·exact allTo_step h1 h3 (by simpa using b5)
    ·first | omega | rfl | (intro hg; simp only [nrmT] at hg; omega) | (intro g1 g2; simp [g1, g2]; done) | (intro g1; simp at g1 ⊢; simp [g1]; done) | (simp only [nrmT] at *; omega) | (simp at * <;> omega) | (simp_all <;> omega) | (simp_all; done)
   first | (show _ < _; omega) | (simp only [Jw]; omega) | (simp only [Jw] at *; simp at *; omega)
  intro b6
  try simp only [nrmT] at b6
  rw [← J0j (d := 0) h4, ← h3]; congr 1; omega
theorem J0r (xs : ZI) (ys : ZI)  : PC Try.prog 47 [.sl (.ints xs), .sl (.ints ys)] (.one (.d (.bool (xs == ys)))) :=
  pc_wf @Try.call47 fun hw => pc_by (by kernel_rfl) Try.func47 @Try.call47 (by kernel_rfl) J3a (J38 xs ys) (by kernel_rfl) (J2Y xs ys hw.1 hw.2.1) (by kernel_rfl)
def J0n : List D → Orc := orcN [some .ints, some .ints] fun ds => match ds with
  | [.sl (.ints xs), .sl (.ints ys)] => some (.one (.d (.bool (xs == ys))))
  | _ => none
abbrev JI (xs : ZR) (ys : ZR) (i : Int) : Prop := (0 ≤ i) ∧ (i ≤ (xs.length : Int)) ∧ (allTo (fun k => xs.getD k [] == ys.getD k []) i.toNat = true) ∧ (xs.length = ys.length)
abbrev Jr (xs : ZR) (ys : ZR) (i : Int) : Nat := (xs.length - i).toNat
def J2G (f : FuncId) (ds : List D) : Orc := bif Nat.beq f 47 then J0n ds else .no
def J2W (xs : ZR) (ys : ZR) : Ann := .two (.none) (.two (.none) (.two (.two (.none) (.loop (cut1 (fun (i : Int) => JI xs ys i) (fun (i : Int) => [(0, .d false (.sl (.rows xs))), (1, .d false (.sl (.rows ys))), (5, .d true (.int .i64 i))]) (fun (i : Int) => [])) (fun g => Jr xs ys g) (fun _ => .none))) (.none)))
def J16 (xs : ZR) (ys : ZR) : Prop :=
  ((((xs.length : Int) != (ys.length : Int)) = true → ((false = (xs == ys)))) ∧ (((xs.length : Int) != (ys.length : Int)) = false → ((∃ i' : Int, (JI xs ys i') ∧ (xs = xs) ∧ (ys = ys) ∧ ((0 : Int) = i')) ∧ (∀ i : Int, (JI xs ys i) → (((decide (i < (xs.length : Int))) = true → (true = true) ∧ ((0 : Int) ≤ i) ∧ ((i : Int) < xs.length) ∧ (i.toNat < xs.length) ∧ ((0 : Int) ≤ i) ∧ ((i : Int) < ys.length) ∧ (i.toNat < ys.length) ∧ (PC Try.prog 47 [.sl (.ints (xs.getD i.toNat [])), .sl (.ints (ys.getD i.toNat []))] (.one (.d (.bool ((xs.getD i.toNat []) == (ys.getD i.toNat [])))))) ∧ (((!((xs.getD i.toNat []) == (ys.getD i.toNat []))) = true → ((false = (xs == ys)))) ∧ ((!((xs.getD i.toNat []) == (ys.getD i.toNat []))) = false → (I6 (i + 1)) ∧ (∃ i' : Int, (JI xs ys i') ∧ (Jr xs ys i' < Jr xs ys i) ∧ (xs = xs) ∧ (ys = ys) ∧ ((i + 1) = i'))))) ∧ ((decide (i < (xs.length : Int))) = false → ((true = (xs == ys)))))))))
theorem J2q (xs : ZR) (ys : ZR)  (w_xs : (xs.length : Int) ≤ 9223372036854775807) (v_xs : ∀ x9 ∈ xs, (x9.length : Int) ≤ 9223372036854775807) (w_ys : (ys.length : Int) ≤ 9223372036854775807) (v_ys : ∀ x9 ∈ ys, (x9.length : Int) ≤ 9223372036854775807) : J16 xs ys := by
  unfold J16
  refine ⟨?_, ?_⟩
  ·intro b1
   try simp only [nrmT] at b1
   exact (J3n (by omega)).symm
  intro b2
  try simp only [nrmT] at b2
  refine ⟨?_, ?_⟩
  ·refine ⟨0, ?_⟩
   refine ⟨?_, rfl, rfl, rfl⟩
   ·refine ⟨?_, ?_, ?_, ?_⟩
    ·first | omega | rfl | (intro hg; simp only [nrmT] at hg; omega) | (intro g1 g2; simp [g1, g2]; done) | (intro g1; simp at g1 ⊢; simp [g1]; done) | (simp only [nrmT] at *; omega) | (simp at * <;> omega) | (simp_all <;> omega) | (simp_all; done)
    ·first | omega | rfl | (intro hg; simp only [nrmT] at hg; omega) | (intro g1 g2; simp [g1, g2]; done) | (intro g1; simp at g1 ⊢; simp [g1]; done) | (simp only [nrmT] at *; omega) | (simp at * <;> omega) | (simp_all <;> omega) | (simp_all; done)
    ·first | omega | rfl | (intro hg; simp only [nrmT] at hg; omega) | (intro g1 g2; simp [g1, g2]; done) | (intro g1; simp at g1 ⊢; simp [g1]; done) | (simp only [nrmT] at *; omega) | (simp at * <;> omega) | (simp_all <;> omega) | (simp_all; done)
    ·first | omega | rfl | (intro hg; simp only [nrmT] at hg; omega) | (intro g1 g2; simp [g1, g2]; done) | (intro g1; simp at g1 ⊢; simp [g1]; done) | (simp only [nrmT] at *; omega) | (simp at * <;> omega) | (simp_all <;> omega) | (simp_all; done)
  intro i hJ
  obtain ⟨h1, h2, h3, h4⟩ := hJ
  refine ⟨?_, ?_⟩
  ·intro b3
   try simp only [nrmT] at b3
   refine ⟨rfl, ?_, ?_, ?_, ?_, ?_, ?_, J0r (xs.getD i.toNat []) (ys.getD i.toNat []), ?_, ?_⟩
   ·first | omega | rfl | (intro hg; simp only [nrmT] at hg; omega) | (intro g1 g2; simp [g1, g2]; done) | (intro g1; simp at g1 ⊢; simp [g1]; done) | (simp only [nrmT] at *; omega) | (simp at * <;> omega) | (simp_all <;> omega) | (simp_all; done)
   ·first | omega | rfl | (intro hg; simp only [nrmT] at hg; omega) | (intro g1 g2; simp [g1, g2]; done) | (intro g1; simp at g1 ⊢; simp [g1]; done) | (simp only [nrmT] at *; omega) | (simp at * <;> omega) | (simp_all <;> omega) | (simp_all; done)
   ·first | omega | rfl | (intro hg; simp only [nrmT] at hg; omega) | (intro g1 g2; simp [g1, g2]; done) | (intro g1; simp at g1 ⊢; simp [g1]; done) | (simp only [nrmT] at *; omega) | (simp at * <;> omega) | (simp_all <;> omega) | (simp_all; done)
   ·first | omega | rfl | (intro hg; simp only [nrmT] at hg; omega) | (intro g1 g2; simp [g1, g2]; done) | (intro g1; simp at g1 ⊢; simp [g1]; done) | (simp only [nrmT] at *; omega) | (simp at * <;> omega) | (simp_all <;> omega) | (simp_all; done)
   ·first | omega | rfl | (intro hg; simp only [nrmT] at hg; omega) | (intro g1 g2; simp [g1, g2]; done) | (intro g1; simp at g1 ⊢; simp [g1]; done) | (simp only [nrmT] at *; omega) | (simp at * <;> omega) | (simp_all <;> omega) | (simp_all; done)
   ·first | omega | rfl | (intro hg; simp only [nrmT] at hg; omega) | (intro g1 g2; simp [g1, g2]; done) | (intro g1; simp at g1 ⊢; simp [g1]; done) | (simp only [nrmT] at *; omega) | (simp at * <;> omega) | (simp_all <;> omega) | (simp_all; done)
   ·intro b4
    try simp only [nrmT] at b4
    rw [← J0j (d := []) h4]; exact (allTo_falseI h1 (by omega) (by simpa using b4)).symm
   intro b5
   try simp only [nrmT] at b5
   refine ⟨?_, ?_⟩
   ·first | omega | rfl | (intro hg; simp only [nrmT] at hg; omega) | (intro g1 g2; simp [g1, g2]; done) | (intro g1; simp at g1 ⊢; simp [g1]; done) | (simp only [nrmT] at *; omega) | (simp at * <;> omega) | (simp_all <;> omega) | (simp_all; done)
   refine ⟨(i + 1), ?_⟩
   refine ⟨?_, ?_, rfl, rfl, rfl⟩
   ·refine ⟨?_, ?_, ?_, ?_⟩
    ·first | omega | rfl | (intro hg; simp only [nrmT] at hg; omega) | (intro g1 g2; simp [g1, g2]; done) | (intro g1; simp at g1 ⊢; simp [g1]; done) | (simp only [nrmT] at *; omega) | (simp at * <;> omega) | (simp_all <;> omega) | (simp_all; done)
    ·first | omega | rfl | (intro hg; simp only [nrmT] at hg; omega) | (intro g1 g2; simp [g1, g2]; done) | (intro g1; simp at g1 ⊢; simp [g1]; done) | (simp only [nrmT] at *; omega) | (simp at * <;> omega) | (simp_all <;> omega) | (simp_all; done)
    ·exact allTo_step h1 h3 (by simpa using b5)
    ·first | omega | rfl | (intro hg; simp only [nrmT] at hg; omega) | (intro g1 g2; simp [g1, g2]; done) | (intro g1; simp at g1 ⊢; simp [g1]; done) | (simp only [nrmT] at *; omega) | (simp at * <;> omega) | (simp_all <;> omega) | (simp_all; done)
   first | (show _ < _; omega) | (simp only [Jr]; omega) | (simp only [Jr] at *; simp at *; omega)
  intro b6
  try simp only [nrmT] at b6
  rw [← J0j (d := []) h4, ← h3]; congr 1; omega
theorem J0W (xs : ZR) (ys : ZR)  : PC Try.prog 46 [.sl (.rows xs), .sl (.rows ys)] (.one (.d (.bool (xs == ys)))) :=
  pc_wf @Try.call46 fun hw => pc_by (by kernel_rfl) Try.func46 @Try.call46 (by kernel_rfl) J2G (J2W xs ys) (by kernel_rfl) (J2q xs ys hw.1.1 hw.1.2 hw.2.1.1 hw.2.1.2) (by kernel_rfl)
def J0B : List D → Orc := orcN [some .rows, some .rows] fun ds => match ds with
  | [.sl (.rows xs), .sl (.rows ys)] => some (.one (.d (.bool (xs == ys))))
  | _ => none
def J2p (f : FuncId) (ds : List D) : Orc := bif Nat.beq f 46 then J0B ds else bif Nat.beq f 47 then J0n ds else .no
def J24 (n1 : Int) (s1 : ZR) (c1 : ZI) (n2 : Int) (s2 : ZR) (c2 : ZI) : Ann := .none
def J0R (n1 : Int) (s1 : ZR) (c1 : ZI) (n2 : Int) (s2 : ZR) (c2 : ZI) : Prop :=
  (((n1 != n2) = true → ((false = ((n1 == n2) && (s1 == s2) && (c1 == c2))))) ∧ ((n1 != n2) = false → (PC Try.prog 46 [.sl (.rows s1), .sl (.rows s2)] (.one (.d (.bool (s1 == s2))))) ∧ (((!(s1 == s2)) = true → ((false = ((n1 == n2) && (s1 == s2) && (c1 == c2))))) ∧ ((!(s1 == s2)) = false → (PC Try.prog 47 [.sl (.ints c1), .sl (.ints c2)] (.one (.d (.bool (c1 == c2))))) ∧ (((!(c1 == c2)) = true → ((false = ((n1 == n2) && (s1 == s2) && (c1 == c2))))) ∧ ((!(c1 == c2)) = false → ((true = ((n1 == n2) && (s1 == s2) && (c1 == c2))))))))))
theorem J1S (n1 : Int) (s1 : ZR) (c1 : ZI) (n2 : Int) (s2 : ZR) (c2 : ZI)  (w_s1 : (s1.length : Int) ≤ 9223372036854775807) (v_s1 : ∀ x9 ∈ s1, (x9.length : Int) ≤ 9223372036854775807) (w_c1 : (c1.length : Int) ≤ 9223372036854775807) (w_s2 : (s2.length : Int) ≤ 9223372036854775807) (v_s2 : ∀ x9 ∈ s2, (x9.length : Int) ≤ 9223372036854775807) (w_c2 : (c2.length : Int) ≤ 9223372036854775807) : J0R n1 s1 c1 n2 s2 c2 := by
  unfold J0R
  refine ⟨?_, ?_⟩
  ·intro b1
   try simp only [nrmT] at b1
   first | omega | rfl | (intro hg; simp only [nrmT] at hg; omega) | (intro g1 g2; simp [g1, g2]; done) | (intro g1; simp at g1 ⊢; simp [g1]; done) | (simp only [nrmT] at *; omega) | (simp at * <;> omega) | (simp_all <;> omega) | (simp_all; done)
  intro b2
  try simp only [nrmT] at b2
  refine ⟨J0W s1 s2, ?_, ?_⟩
  ·intro b3
   try simp only [nrmT] at b3
   first | omega | rfl | (intro hg; simp only [nrmT] at hg; omega) | (intro g1 g2; simp [g1, g2]; done) | (intro g1; simp at g1 ⊢; simp [g1]; done) | (simp only [nrmT] at *; omega) | (simp at * <;> omega) | (simp_all <;> omega) | (simp_all; done)
  intro b4
  try simp only [nrmT] at b4
  refine ⟨J0r c1 c2, ?_, ?_⟩
  ·intro b5
   try simp only [nrmT] at b5
   first | omega | rfl | (intro hg; simp only [nrmT] at hg; omega) | (intro g1 g2; simp [g1, g2]; done) | (intro g1; simp at g1 ⊢; simp [g1]; done) | (simp only [nrmT] at *; omega) | (simp at * <;> omega) | (simp_all <;> omega) | (simp_all; done)
  intro b6
  try simp only [nrmT] at b6
  first | omega | rfl | (intro hg; simp only [nrmT] at hg; omega) | (intro g1 g2; simp [g1, g2]; done) | (intro g1; simp at g1 ⊢; simp [g1]; done) | (simp only [nrmT] at *; omega) | (simp at * <;> omega) | (simp_all <;> omega) | (simp_all; done)
theorem J0f (n1 : Int) (s1 : ZR) (c1 : ZI) (n2 : Int) (s2 : ZR) (c2 : ZI)  : PC Try.prog 25 [.agg [.int .i64 n1, .sl (.rows s1), .sl (.ints c1)], .agg [.int .i64 n2, .sl (.rows s2), .sl (.ints c2)]] (.one (.d (.bool ((n1 == n2) && (s1 == s2) && (c1 == c2))))) :=
  pc_wf @Try.call25 fun hw => pc_by (by kernel_rfl) Try.func25 @Try.call25 (by kernel_rfl) J2p (J24 n1 s1 c1 n2 s2 c2) (by kernel_rfl) (J1S n1 s1 c1 n2 s2 c2 hw.1.2.1.1 hw.1.2.1.2 hw.1.2.2.1 hw.2.1.2.1.1 hw.2.1.2.1.2 hw.2.1.2.2.1) (by kernel_rfl)
def J1D : List D → Orc := orcN [none, none] fun ds => match ds with
  | [.agg [.int .i64 n1, .sl (.rows s1), .sl (.ints c1)], .agg [.int .i64 n2, .sl (.rows s2), .sl (.ints c2)]] => some (.one (.d (.bool ((n1 == n2) && (s1 == s2) && (c1 == c2)))))
  | _ => none
def J3 (row : ZI) (n most : Int) : Bool := row.all (fun x => inB x 0 most) && decide ((row.length : Int) = n)
def J0 (U : ZI) (E : ZR) : Bool :=
  inB (U.length : Int) 1 7 && U.all (fun x => inB x 0 99) && decide (E.length ≤ 7) && E.all (fun l => J3 l (U.length : Int) 99)
theorem JO {U : ZI} {E : ZR} (h : J0 U E = true) : 1 ≤ U.length ∧ U.length ≤ 7 ∧ E.length ≤ 7 := by
  simp only [J0, Bool.and_eq_true, decide_eq_true_eq] at h
  have := J2m h.1.1.1
  omega
theorem J1q {U : ZI} {E : ZR} (h : J0 U E = true) {i : Nat} (hi : i < E.length) : (E.getD i []).length = U.length ∧ ∀ a, a < U.length → 0 ≤ (E.getD i []).getD a 0 ∧ (E.getD i []).getD a 0 ≤ 99 := by
  simp only [J0, Bool.and_eq_true, decide_eq_true_eq] at h
  have h2 := List.all_eq_true.1 h.2 _ (getD_mem (d := []) hi)
  simp only [J3, Bool.and_eq_true, decide_eq_true_eq] at h2
  refine ⟨by omega, fun a ha => ?_⟩
  exact J2m (List.all_eq_true.1 h2.1 _ (getD_mem (by omega)))
def Ji (o : ZI) (d : ZR) (left : Int) : Int := if sz1 o.length left < 0 then -1 else if Jf d (sz1 o.length left) < 0 then -1 else Jf d (sz1 o.length left)
theorem J6 {o : ZI} {d : ZR} {left : Int} (h : 0 ≤ Ji o d left) : (o.length : Int) ≤ left ∧ (d.length : Int) ≤ left ∧ (∀ xs ∈ d, (xs.length : Int) ≤ left) := by
  unfold Ji at h
  by_cases h1 : sz1 o.length left < 0
  · rw [if_pos h1] at h; omega
  rw [if_neg h1] at h
  obtain ⟨a1, a2⟩ := J0X (by omega : 0 ≤ sz1 o.length left)
  by_cases h2 : Jf d (sz1 o.length left) < 0
  · rw [if_pos h2] at h; omega
  obtain ⟨b1, b2, b3⟩ := J23 (by omega : 0 ≤ Jf d (sz1 o.length left))
  exact ⟨a2, by omega, fun xs hx => by have := b3 xs hx; omega⟩
def J2I (f : FuncId) (ds : List D) : Orc := bif Nat.beq f 113 then J0N ds else bif Nat.beq f 114 then J1T ds else .no
def J2X (U : ZI) (E : ZR) (left : Int) : Ann := .none
def J19 (U : ZI) (E : ZR) (left : Int) : Prop :=
  (PC Try.prog 113 [.sl (.ints U), .int .i64 left] (.one (.d (.int .i64 (sz1 U.length left))))) ∧ (((decide ((sz1 U.length left) < 0)) = true → ((((-1) : Int) = (Ji U E left)))) ∧ ((decide ((sz1 U.length left) < 0)) = false → (PC Try.prog 114 [.sl (.rows E), .int .i64 (sz1 U.length left)] (.one (.d (.int .i64 (Jf E (sz1 U.length left)))))) ∧ (((decide ((Jf E (sz1 U.length left)) < 0)) = true → ((((-1) : Int) = (Ji U E left)))) ∧ ((decide ((Jf E (sz1 U.length left)) < 0)) = false → (((Jf E (sz1 U.length left)) = (Ji U E left)))))))
theorem J2g (U : ZI) (E : ZR) (left : Int) (hl : 0 ≤ left ∧ left ≤ 1048576) (w_Open : (U.length : Int) ≤ 9223372036854775807) (w_Dist : (E.length : Int) ≤ 9223372036854775807) (v_Dist : ∀ x9 ∈ E, (x9.length : Int) ≤ 9223372036854775807) : J19 U E left := by
  unfold J19
  refine ⟨?_, ?_, ?_⟩
  ·refine J17 U left ?_
   ·first | omega | rfl | (intro hg; simp only [nrmT] at hg; omega) | (intro g1 g2; simp [g1, g2]; done) | (intro g1; simp at g1 ⊢; simp [g1]; done) | (simp only [nrmT] at *; omega) | (simp at * <;> omega) | (simp_all <;> omega) | (simp_all; done)
  ·intro b1
   try simp only [nrmT] at b1
   unfold Ji; first | rw [if_pos (by omega)] | rw [if_neg (by omega), if_pos (by omega)] | rw [if_neg (by omega), if_neg (by omega)]
  intro b2
  try simp only [nrmT] at b2
  refine ⟨?_, ?_, ?_⟩
  ·refine J2l E (sz1 U.length left) ?_
   ·have := J0X (n := U.length) (left := left) (by omega); omega
  ·intro b3
   try simp only [nrmT] at b3
   unfold Ji; first | rw [if_pos (by omega)] | rw [if_neg (by omega), if_pos (by omega)] | rw [if_neg (by omega), if_neg (by omega)]
  intro b4
  try simp only [nrmT] at b4
  unfold Ji; first | rw [if_pos (by omega)] | rw [if_neg (by omega), if_pos (by omega)] | rw [if_neg (by omega), if_neg (by omega)]
theorem J2v (U : ZI) (E : ZR) (left : Int) (hl : 0 ≤ left ∧ left ≤ 1048576) : PC Try.prog 21 [.agg [.sl (.ints U), .sl (.rows E)], .int .i64 left] (.one (.d (.int .i64 (Ji U E left)))) :=
  pc_wf @Try.call21 fun hw => pc_by (by kernel_rfl) Try.func21 @Try.call21 (by kernel_rfl) J2I (J2X U E left) (by kernel_rfl) (J2g U E left hl hw.1.1 hw.1.2.1.1 hw.1.2.1.2) (by kernel_rfl)
def J1P : List D → Orc := orcN [none, none] fun ds => match ds with
  | [.agg [.sl (.ints U), .sl (.rows E)], .int .i64 left] => some (.one (.d (.int .i64 (Ji U E left))))
  | _ => none
def J2K (f : FuncId) (ds : List D) : Orc := bif Nat.beq f 44 then J0V ds else bif Nat.beq f 118 then J1W ds else .no
def J2O (U : ZI) (E : ZR) : Ann := .none
def J1g (U : ZI) (E : ZR) : Prop :=
  (PC Try.prog 44 [.sl (.ints U)] (.one (.d (.sl (.ints U))))) ∧ (PC Try.prog 118 [.sl (.rows E)] (.one (.d (.sl (.rows E))))) ∧ (((.agg [.sl (.ints U), .sl (.rows E)] : D) = .agg [.sl (.ints U), .sl (.rows E)]))
theorem J2u (U : ZI) (E : ZR) (h1 : U.length ≤ 1048576) (h2 : E.length ≤ 1048576) (h3 : ∀ xs ∈ E, xs.length ≤ 1048576) (w_Open : (U.length : Int) ≤ 9223372036854775807) (w_Dist : (E.length : Int) ≤ 9223372036854775807) (v_Dist : ∀ x9 ∈ E, (x9.length : Int) ≤ 9223372036854775807) : J1g U E := by
  unfold J1g
  refine ⟨?_, ?_, rfl⟩
  ·refine J1c U ?_
   ·assumption
  refine J2d E ?_ ?_
  ·assumption
  ·assumption
theorem JX (U : ZI) (E : ZR) (h1 : U.length ≤ 1048576) (h2 : E.length ≤ 1048576) (h3 : ∀ xs ∈ E, xs.length ≤ 1048576) : PC Try.prog 23 [.agg [.sl (.ints U), .sl (.rows E)]] (.one (.d (.agg [.sl (.ints U), .sl (.rows E)]))) :=
  pc_wf @Try.call23 fun hw => pc_by (by kernel_rfl) Try.func23 @Try.call23 (by kernel_rfl) J2K (J2O U E) (by kernel_rfl) (J2u U E h1 h2 h3 hw.1.1 hw.1.2.1.1 hw.1.2.1.2) (by kernel_rfl)
def J21 : List D → Orc := orcN [none] fun ds => match ds with
  | [.agg [.sl (.ints U), .sl (.rows E)]] => some (.one (.d (.agg [.sl (.ints U), .sl (.rows E)])))
  | _ => none
def J2E (f : FuncId) (ds : List D) : Orc := bif Nat.beq f 47 then J0n ds else bif Nat.beq f 46 then J0B ds else .no
def J2L (o1 : ZI) (d1 : ZR) (o2 : ZI) (d2 : ZR) : Ann := .none
def J18 (o1 : ZI) (d1 : ZR) (o2 : ZI) (d2 : ZR) : Prop :=
  (PC Try.prog 47 [.sl (.ints o1), .sl (.ints o2)] (.one (.d (.bool (o1 == o2))))) ∧ (((!(o1 == o2)) = true → ((false = ((o1 == o2) && (d1 == d2))))) ∧ ((!(o1 == o2)) = false → (PC Try.prog 46 [.sl (.rows d1), .sl (.rows d2)] (.one (.d (.bool (d1 == d2))))) ∧ (((!(d1 == d2)) = true → ((false = ((o1 == o2) && (d1 == d2))))) ∧ ((!(d1 == d2)) = false → ((true = ((o1 == o2) && (d1 == d2))))))))
theorem J2x (o1 : ZI) (d1 : ZR) (o2 : ZI) (d2 : ZR)  (w_o1 : (o1.length : Int) ≤ 9223372036854775807) (w_d1 : (d1.length : Int) ≤ 9223372036854775807) (v_d1 : ∀ x9 ∈ d1, (x9.length : Int) ≤ 9223372036854775807) (w_o2 : (o2.length : Int) ≤ 9223372036854775807) (w_d2 : (d2.length : Int) ≤ 9223372036854775807) (v_d2 : ∀ x9 ∈ d2, (x9.length : Int) ≤ 9223372036854775807) : J18 o1 d1 o2 d2 := by
  unfold J18
  refine ⟨J0r o1 o2, ?_, ?_⟩
  ·intro b1
   try simp only [nrmT] at b1
   first | omega | rfl | (intro hg; simp only [nrmT] at hg; omega) | (intro g1 g2; simp [g1, g2]; done) | (intro g1; simp at g1 ⊢; simp [g1]; done) | (simp only [nrmT] at *; omega) | (simp at * <;> omega) | (simp_all <;> omega) | (simp_all; done)
  intro b2
  try simp only [nrmT] at b2
  refine ⟨J0W d1 d2, ?_, ?_⟩
  ·intro b3
   try simp only [nrmT] at b3
   first | omega | rfl | (intro hg; simp only [nrmT] at hg; omega) | (intro g1 g2; simp [g1, g2]; done) | (intro g1; simp at g1 ⊢; simp [g1]; done) | (simp only [nrmT] at *; omega) | (simp at * <;> omega) | (simp_all <;> omega) | (simp_all; done)
  intro b4
  try simp only [nrmT] at b4
  first | omega | rfl | (intro hg; simp only [nrmT] at hg; omega) | (intro g1 g2; simp [g1, g2]; done) | (intro g1; simp at g1 ⊢; simp [g1]; done) | (simp only [nrmT] at *; omega) | (simp at * <;> omega) | (simp_all <;> omega) | (simp_all; done)
theorem J2w (o1 : ZI) (d1 : ZR) (o2 : ZI) (d2 : ZR)  : PC Try.prog 26 [.agg [.sl (.ints o1), .sl (.rows d1)], .agg [.sl (.ints o2), .sl (.rows d2)]] (.one (.d (.bool ((o1 == o2) && (d1 == d2))))) :=
  pc_wf @Try.call26 fun hw => pc_by (by kernel_rfl) Try.func26 @Try.call26 (by kernel_rfl) J2E (J2L o1 d1 o2 d2) (by kernel_rfl) (J2x o1 d1 o2 d2 hw.1.1 hw.1.2.1.1 hw.1.2.1.2 hw.2.1.1 hw.2.1.2.1.1 hw.2.1.2.1.2) (by kernel_rfl)
def J20 : List D → Orc := orcN [none, none] fun ds => match ds with
  | [.agg [.sl (.ints o1), .sl (.rows d1)], .agg [.sl (.ints o2), .sl (.rows d2)]] => some (.one (.d (.bool ((o1 == o2) && (d1 == d2)))))
  | _ => none
abbrev J09 (row : ZI) (n : Int) (most : Int) (i : Int) : Prop := (0 ≤ i) ∧ (i ≤ (row.length : Int)) ∧ (allTo (fun k => inB (row.getD k 0) 0 most) i.toNat = true)
abbrev J08 (row : ZI) (n : Int) (most : Int) (i : Int) : Nat := (row.length - i).toNat
def J3k (f : FuncId) (ds : List D) : Orc := bif Nat.beq f 116 then J0y ds else .no
def J3o (row : ZI) (n : Int) (most : Int) : Ann := .two (.none) (.two (.two (.none) (.loop (cut1 (fun (i : Int) => J09 row n most i) (fun (i : Int) => [(0, .d false (.sl (.ints row))), (1, .d false (.int .i64 n)), (2, .d false (.int .i64 most)), (7, .d true (.int .i64 i))]) (fun (i : Int) => [])) (fun g => J08 row n most g) (fun _ => .none))) (.none))
def J1O (row : ZI) (n : Int) (most : Int) : Prop :=
  ((∃ i' : Int, (J09 row n most i') ∧ (row = row) ∧ (n = n) ∧ (most = most) ∧ ((0 : Int) = i')) ∧ (∀ i : Int, (J09 row n most i) → (((decide (i < (row.length : Int))) = true → ((0 : Int) ≤ i) ∧ ((i : Int) < row.length) ∧ (i.toNat < row.length) ∧ (PC Try.prog 116 [.int .i64 (row.getD i.toNat 0), .int .i64 0, .int .i64 most] (.one (.d (.bool (inB (row.getD i.toNat 0) 0 most))))) ∧ (((!(inB (row.getD i.toNat 0) 0 most)) = true → ((false = (J3 row n most)))) ∧ ((!(inB (row.getD i.toNat 0) 0 most)) = false → (I6 (i + 1)) ∧ (∃ i' : Int, (J09 row n most i') ∧ (J08 row n most i' < J08 row n most i) ∧ (row = row) ∧ (n = n) ∧ (most = most) ∧ ((i + 1) = i'))))) ∧ ((decide (i < (row.length : Int))) = false → ((((row.length : Int) == n) = (J3 row n most)))))))
theorem J3c (row : ZI) (n : Int) (most : Int)  (w_row : (row.length : Int) ≤ 9223372036854775807) : J1O row n most := by
  unfold J1O
  refine ⟨?_, ?_⟩
  ·refine ⟨0, ?_⟩
   refine ⟨?_, rfl, rfl, rfl, rfl⟩
   ·refine ⟨?_, ?_, ?_⟩
    ·omega
    ·omega
    ·rfl
  intro i hJ
  obtain ⟨h1, h2, h3⟩ := hJ
  refine ⟨?_, ?_⟩
  ·intro b1
   try simp only [nrmT] at b1
   refine ⟨?_, ?_, ?_, J0M (row.getD i.toNat 0) 0 most, ?_, ?_⟩
   ·omega
   ·omega
   ·omega
   ·intro b2
    try simp only [nrmT] at b2
    unfold J3
    rw [J3l (p := fun x => inB x 0 most) (d := 0) h1 (by omega) b2]; rfl
   intro b3
   try simp only [nrmT] at b3
   refine ⟨?_, ?_⟩
   ·omega
   refine ⟨(i + 1), ?_⟩
   refine ⟨?_, ?_, rfl, rfl, rfl, rfl⟩
   ·refine ⟨?_, ?_, ?_⟩
    ·omega
    ·omega
    ·exact allTo_step h1 h3 b3
   (simp only [J08]; omega)
  intro b4
  try simp only [nrmT] at b4
  unfold J3
  rw [J33 (p := fun x => inB x 0 most) (d := 0) (by omega) h2 h3, Bool.true_and]; rfl
theorem J1p (row : ZI) (n : Int) (most : Int)  : PC Try.prog 150 [.sl (.ints row), .int .i64 n, .int .i64 most] (.one (.d (.bool (J3 row n most)))) :=
  pc_wf @Try.call150 fun hw => pc_by (by kernel_rfl) Try.func150 @Try.call150 (by kernel_rfl) J3k (J3o row n most) (by kernel_rfl) (J3c row n most hw.1) (by kernel_rfl)
def J2H : List D → Orc := orcN [some .ints, none, none] fun ds => match ds with
  | [.sl (.ints row), .int .i64 n, .int .i64 most] => some (.one (.d (.bool (J3 row n most))))
  | _ => none
abbrev JU (U : ZI) (E : ZR) (i : Int) : Prop := (0 ≤ i) ∧ (i ≤ (E.length : Int)) ∧ (allTo (fun k => J3 (E.getD k []) (U.length : Int) 99) i.toNat = true)
abbrev JW (U : ZI) (E : ZR) (i : Int) : Nat := (E.length - i).toNat
def J35 (f : FuncId) (ds : List D) : Orc := bif Nat.beq f 150 then J2H ds else bif Nat.beq f 116 then J0y ds else .no
def J37 (U : ZI) (E : ZR) : Ann := .two (.none) (.two (.none) (.two (.two (.none) (.loop (cut1 (fun (i : Int) => JU U E i) (fun (i : Int) => [(1, .ptr 1 0), (3, .d true (.int .i64 (U.length : Int))), (4, .d true (.int .i64 i))]) (fun (i : Int) => [(1, .box 39 [.d false (.sl (.ints U)), .d false (.sl (.rows E))])])) (fun g => JW U E g) (fun _ => .none))) (.none)))
def J1o (U : ZI) (E : ZR) : Prop :=
  ((∃ i' : Int, (JU U E i') ∧ ((U.length : Int) = (U.length : Int)) ∧ ((0 : Int) = i') ∧ (U = U) ∧ (E = E)) ∧ (∀ i : Int, (JU U E i) → (((decide (i < (E.length : Int))) = true → ((0 : Int) ≤ i) ∧ ((i : Int) < E.length) ∧ (i.toNat < E.length) ∧ (PC Try.prog 150 [.sl (.ints (E.getD i.toNat [])), .int .i64 (U.length : Int), .int .i64 99] (.one (.d (.bool (J3 (E.getD i.toNat []) (U.length : Int) 99))))) ∧ (((!(J3 (E.getD i.toNat []) (U.length : Int) 99)) = true → ((false = (J0 U E)))) ∧ ((!(J3 (E.getD i.toNat []) (U.length : Int) 99)) = false → (I6 (i + 1)) ∧ (∃ i' : Int, (JU U E i') ∧ (JW U E i' < JW U E i) ∧ ((U.length : Int) = (U.length : Int)) ∧ ((i + 1) = i') ∧ (U = U) ∧ (E = E))))) ∧ ((decide (i < (E.length : Int))) = false → (PC Try.prog 116 [.int .i64 (U.length : Int), .int .i64 1, .int .i64 7] (.one (.d (.bool (inB (U.length : Int) 1 7))))) ∧ ((inB (U.length : Int) 1 7) = true → (inB (U.length : Int) 1 7) = true) ∧ ((inB (U.length : Int) 1 7) = true → (inB (U.length : Int) 1 7) = true) ∧ ((inB (U.length : Int) 1 7) = true → (inB (U.length : Int) 1 7) = true) ∧ ((inB (U.length : Int) 1 7) = true → PC Try.prog 150 [.sl (.ints U), .int .i64 (U.length : Int), .int .i64 99] (.one (.d (.bool (J3 U (U.length : Int) 99))))) ∧ (true = true) ∧ (((inB (U.length : Int) 1 7) = true → (inB (U.length : Int) 1 7) = true)) ∧ (((inB (U.length : Int) 1 7) = false → true = true)) ∧ ((cond (inB (U.length : Int) 1 7) (J3 U (U.length : Int) 99) false) = true → (cond (inB (U.length : Int) 1 7) (J3 U (U.length : Int) 99) false) = true) ∧ ((cond (inB (U.length : Int) 1 7) (J3 U (U.length : Int) 99) false) = true → (cond (inB (U.length : Int) 1 7) (J3 U (U.length : Int) 99) false) = true) ∧ ((cond (inB (U.length : Int) 1 7) (J3 U (U.length : Int) 99) false) = true → (cond (inB (U.length : Int) 1 7) (J3 U (U.length : Int) 99) false) = true) ∧ (true = true) ∧ (((cond (inB (U.length : Int) 1 7) (J3 U (U.length : Int) 99) false) = true → (cond (inB (U.length : Int) 1 7) (J3 U (U.length : Int) 99) false) = true)) ∧ (((cond (inB (U.length : Int) 1 7) (J3 U (U.length : Int) 99) false) = false → true = true)) ∧ (((cond (cond (inB (U.length : Int) 1 7) (J3 U (U.length : Int) 99) false) (decide ((E.length : Int) ≤ 7)) false) = (J0 U E)))))))
theorem J2z (U : ZI) (E : ZR)  (w_Open : (U.length : Int) ≤ 9223372036854775807) (w_Dist : (E.length : Int) ≤ 9223372036854775807) (v_Dist : ∀ x9 ∈ E, (x9.length : Int) ≤ 9223372036854775807) : J1o U E := by
  unfold J1o
  refine ⟨?_, ?_⟩
  ·refine ⟨0, ?_⟩
   refine ⟨?_, rfl, rfl, rfl, rfl⟩
   ·refine ⟨?_, ?_, ?_⟩
    ·omega
    ·omega
    ·rfl
  intro i hJ
  obtain ⟨h1, h2, h3⟩ := hJ
  refine ⟨?_, ?_⟩
  ·intro b1
   try simp only [nrmT] at b1
   refine ⟨?_, ?_, ?_, J1p (E.getD i.toNat []) (U.length : Int) 99, ?_, ?_⟩
   ·omega
   ·omega
   ·omega
   ·intro b2
    try simp only [nrmT] at b2
    unfold J0
    rw [J3l (p := fun l => J3 l (U.length : Int) 99) (d := []) h1 (by omega) b2, Bool.and_false]
   intro b3
   try simp only [nrmT] at b3
   refine ⟨?_, ?_⟩
   ·omega
   refine ⟨(i + 1), ?_⟩
   refine ⟨?_, ?_, rfl, rfl, rfl, rfl⟩
   ·refine ⟨?_, ?_, ?_⟩
    ·omega
    ·omega
    ·exact allTo_step h1 h3 b3
   (simp only [JW]; omega)
  intro b4
  try simp only [nrmT] at b4
  refine ⟨J0M (U.length : Int) 1 7, id, id, id, fun _ => J1p U (U.length : Int) 99, rfl, id, fun _ => rfl, id, id, id, rfl, id, fun _ => rfl, ?_⟩
  ·unfold J0
   rw [J33 (p := fun l => J3 l (U.length : Int) 99) (d := []) (by omega) h2 h3, show decide ((E.length : Int) ≤ 7) = decide (E.length ≤ 7) from J3p _ 7]
   unfold J3
   cases inB (U.length : Int) 1 7 <;> cases U.all (fun x => inB x 0 99) <;> cases decide (E.length ≤ 7) <;> simp
theorem J2U (U : ZI) (E : ZR)  : PC Try.prog 115 [.agg [.sl (.ints U), .sl (.rows E)]] (.one (.d (.bool (J0 U E)))) :=
  pc_wf @Try.call115 fun hw => pc_by (by kernel_rfl) Try.func115 @Try.call115 (by kernel_rfl) J35 (J37 U E) (by kernel_rfl) (J2z U E hw.1.1 hw.1.2.1.1 hw.1.2.1.2) (by kernel_rfl)
def J2o : List D → Orc := orcN [none] fun ds => match ds with
  | [.agg [.sl (.ints U), .sl (.rows E)]] => some (.one (.d (.bool (J0 U E))))
  | _ => none
def J1U (f : FuncId) (ds : List D) : Orc := bif Nat.beq f 131 then J0l ds else .no
def J1Z (xs : ZI) (U : ZI) (E : ZR) : Ann := .none
def J0D (xs : ZI) (U : ZI) (E : ZR) : Prop :=
  ((!((xs.length : Int) != (U.length : Int))) = true → (!((xs.length : Int) != (U.length : Int))) = true) ∧ ((!((xs.length : Int) != (U.length : Int))) = true → PC Try.prog 131 [.sl (.ints xs), .int .i64 0, .int .i64 99] (.one (.d (.bool (xs.all (fun x => inB x 0 99)))))) ∧ ((!((xs.length : Int) != (U.length : Int))) = true → (!((xs.length : Int) != (U.length : Int))) = true) ∧ (true = true) ∧ ((((xs.length : Int) != (U.length : Int)) = true → true = true)) ∧ ((((xs.length : Int) != (U.length : Int)) = false → (!((xs.length : Int) != (U.length : Int))) = true)) ∧ (((cond ((xs.length : Int) != (U.length : Int)) true (!(xs.all (fun x => inB x 0 99)))) = (!(J3 xs (U.length : Int) 99))))
theorem J1F (xs : ZI) (U : ZI) (E : ZR)  (w_xs : (xs.length : Int) ≤ 9223372036854775807) (w_Open : (U.length : Int) ≤ 9223372036854775807) (w_Dist : (E.length : Int) ≤ 9223372036854775807) (v_Dist : ∀ x9 ∈ E, (x9.length : Int) ≤ 9223372036854775807) : J0D xs U E := by
  unfold J0D
  refine ⟨id, fun _ => J0o xs 0 99, id, rfl, fun _ => rfl, ?_, ?_⟩
  ·(simp_all; done)
  unfold J3
  by_cases h : (xs.length : Int) = (U.length : Int)
  · simp [h]
  simp [h]
theorem J1I (xs : ZI) (U : ZI) (E : ZR)  : PC Try.prog 200 [.sl (.ints xs), .bx [.sl (.ints U), .sl (.rows E)] 0] (.one (.d (.bool (!(J3 xs (U.length : Int) 99))))) :=
  pc_wf @Try.call200 fun hw => pc_by (by kernel_rfl) Try.func200 @Try.call200 (by kernel_rfl) J1U (J1Z xs U E) (by kernel_rfl) (J1F xs U E hw.1 hw.2.1.1 hw.2.1.2.1.1 hw.2.1.2.1.2) (by kernel_rfl)
def J1s : List D → Orc := orcN [some .ints, none] fun ds => match ds with
  | [.sl (.ints xs), .bx [.sl (.ints U), .sl (.rows E)] 0] => some (.one (.d (.bool (!(J3 xs (U.length : Int) 99)))))
  | _ => none
abbrev J8 (xs : ZR) (U : ZI) (E : ZR) (i : Int) : Prop := (0 ≤ i) ∧ (i ≤ (xs.length : Int)) ∧ (∀ k, k < i.toNat → (fun x => !(J3 x (U.length : Int) 99)) (xs.getD k []) = false)
abbrev Jb (xs : ZR) (U : ZI) (E : ZR) (i : Int) : Nat := (xs.length - i).toNat
def J02 (f : FuncId) (ds : List D) : Orc := bif Nat.beq f 200 then J1s ds else .no
def J03 (xs : ZR) (U : ZI) (E : ZR) : Ann := .two (.none) (.two (.two (.none) (.loop (cut1 (fun (i : Int) => J8 xs U E i) (fun (i : Int) => [(0, .d false (.sl (.rows xs))), (1, .d false (.fn 200 0 [.bx [.sl (.ints U), .sl (.rows E)] 0])), (7, .d true (.int .i64 (xs.length : Int))), (8, .d true (.int .i64 i))]) (fun (i : Int) => [])) (fun g => Jb xs U E g) (fun _ => .none))) (.none))
def Jo (xs : ZR) (U : ZI) (E : ZR) : Prop :=
  ((∃ i' : Int, (J8 xs U E i') ∧ (xs = xs) ∧ ((.fn 200 0 [.bx [.sl (.ints U), .sl (.rows E)] 0] : D) = (.fn 200 0 [.bx [.sl (.ints U), .sl (.rows E)] 0] : D)) ∧ ((xs.length : Int) = (xs.length : Int)) ∧ ((0 : Int) = i')) ∧ (∀ i : Int, (J8 xs U E i) → (((decide (i < (xs.length : Int))) = true → ((0 : Int) ≤ i) ∧ ((i : Int) < xs.length) ∧ (i.toNat < xs.length) ∧ (PC Try.prog 200 [.sl (.ints (xs.getD i.toNat [])), .bx [.sl (.ints U), .sl (.rows E)] 0] (.one (.d (.bool (!(J3 (xs.getD i.toNat []) (U.length : Int) 99)))))) ∧ (((!(J3 (xs.getD i.toNat []) (U.length : Int) 99)) = true → ((i = (idxI (fun x => !(J3 x (U.length : Int) 99)) xs)))) ∧ ((!(J3 (xs.getD i.toNat []) (U.length : Int) 99)) = false → (I6 (i + 1)) ∧ (∃ i' : Int, (J8 xs U E i') ∧ (Jb xs U E i' < Jb xs U E i) ∧ (xs = xs) ∧ ((.fn 200 0 [.bx [.sl (.ints U), .sl (.rows E)] 0] : D) = (.fn 200 0 [.bx [.sl (.ints U), .sl (.rows E)] 0] : D)) ∧ ((xs.length : Int) = (xs.length : Int)) ∧ ((i + 1) = i'))))) ∧ ((decide (i < (xs.length : Int))) = false → ((((-1) : Int) = (idxI (fun x => !(J3 x (U.length : Int) 99)) xs)))))))
theorem JY (xs : ZR) (U : ZI) (E : ZR)  (w_xs : (xs.length : Int) ≤ 9223372036854775807) (v_xs : ∀ x9 ∈ xs, (x9.length : Int) ≤ 9223372036854775807) (w_Open : (U.length : Int) ≤ 9223372036854775807) (w_Dist : (E.length : Int) ≤ 9223372036854775807) (v_Dist : ∀ x9 ∈ E, (x9.length : Int) ≤ 9223372036854775807) : Jo xs U E := by
  unfold Jo
  refine ⟨?_, ?_⟩
  ·refine ⟨0, ?_⟩
   refine ⟨?_, rfl, rfl, rfl, rfl⟩
   ·refine ⟨?_, ?_, ?_⟩
    ·omega
    ·omega
    ·omega
  intro i hJ
  obtain ⟨h1, h2, h3⟩ := hJ
  refine ⟨?_, ?_⟩
  ·intro b1
   try simp only [nrmT] at b1
   refine ⟨?_, ?_, ?_, J1I (xs.getD i.toNat []) U E, ?_, ?_⟩
   ·omega
   ·omega
   ·omega
   ·intro b2
    try simp only [nrmT] at b2
    exact idx_found (p := fun x => !(J3 x (U.length : Int) 99)) h1 b1 h3 (by simpa using b2)
   intro b3
   try simp only [nrmT] at b3
   refine ⟨?_, ?_⟩
   ·omega
   refine ⟨(i + 1), ?_⟩
   refine ⟨?_, ?_, rfl, rfl, rfl, rfl⟩
   ·refine ⟨?_, ?_, ?_⟩
    ·omega
    ·omega
    ·exact idx_step (p := fun x => !(J3 x (U.length : Int) 99)) h1 h3 (by simpa using b3)
   (simp only [Jb]; omega)
  intro b4
  try simp only [nrmT] at b4
  exact (idx_none (by omega) h3).symm
theorem JZ (xs : ZR) (U : ZI) (E : ZR)  : PC Try.prog 224 [.sl (.rows xs), .fn 200 0 [.bx [.sl (.ints U), .sl (.rows E)] 0]] (.one (.d (.int .i64 (idxI (fun x => !(J3 x (U.length : Int) 99)) xs)))) :=
  pc_wf @Try.call224 fun hw => pc_by (by kernel_rfl) Try.func224 @Try.call224 (by kernel_rfl) J02 (J03 xs U E) (by kernel_rfl) (JY xs U E hw.1.1 hw.1.2 hw.2.1.1.1 hw.2.1.1.2.1.1 hw.2.1.1.2.1.2) (by kernel_rfl)
def JR : List D → Orc := orcN [some .rows, none] fun ds => match ds with
  | [.sl (.rows xs), .fn f0 0 [.bx [.sl (.ints U), .sl (.rows E)] 0]] => bif Nat.beq f0 200 then some (.one (.d (.int .i64 (idxI (fun x => !(J3 x (U.length : Int) 99)) xs)))) else none
  | _ => none
def JM (f : FuncId) (ds : List D) : Orc := bif Nat.beq f 224 then JR ds else .no
def JL (xs : ZR) (U : ZI) (E : ZR) : Ann := .none
def Jj (xs : ZR) (U : ZI) (E : ZR) : Prop :=
  (PC Try.prog 224 [.sl (.rows xs), .fn 200 0 [.bx [.sl (.ints U), .sl (.rows E)] 0]] (.one (.d (.int .i64 (idxI (fun x => !(J3 x (U.length : Int) 99)) xs))))) ∧ (((decide ((idxI (fun x => !(J3 x (U.length : Int) 99)) xs) ≥ 0)) = (xs.any (fun x => !(J3 x (U.length : Int) 99)))))
theorem JD (xs : ZR) (U : ZI) (E : ZR)  (w_xs : (xs.length : Int) ≤ 9223372036854775807) (v_xs : ∀ x9 ∈ xs, (x9.length : Int) ≤ 9223372036854775807) (w_Open : (U.length : Int) ≤ 9223372036854775807) (w_Dist : (E.length : Int) ≤ 9223372036854775807) (v_Dist : ∀ x9 ∈ E, (x9.length : Int) ≤ 9223372036854775807) : Jj xs U E := by
  unfold Jj
  refine ⟨JZ xs U E, ?_⟩
  ·exact idx_any _ _
theorem JE (xs : ZR) (U : ZI) (E : ZR)  : PC Try.prog 169 [.sl (.rows xs), .fn 200 0 [.bx [.sl (.ints U), .sl (.rows E)] 0]] (.one (.d (.bool (xs.any (fun x => !(J3 x (U.length : Int) 99)))))) :=
  pc_wf @Try.call169 fun hw => pc_by (by kernel_rfl) Try.func169 @Try.call169 (by kernel_rfl) JM (JL xs U E) (by kernel_rfl) (JD xs U E hw.1.1 hw.1.2 hw.2.1.1.1 hw.2.1.1.2.1.1 hw.2.1.1.2.1.2) (by kernel_rfl)
def Jz : List D → Orc := orcN [some .rows, none] fun ds => match ds with
  | [.sl (.rows xs), .fn f0 0 [.bx [.sl (.ints U), .sl (.rows E)] 0]] => bif Nat.beq f0 200 then some (.one (.d (.bool (xs.any (fun x => !(J3 x (U.length : Int) 99)))))) else none
  | _ => none
def J2D (f : FuncId) (ds : List D) : Orc := bif Nat.beq f 120 then J0g ds else bif Nat.beq f 131 then J0l ds else bif Nat.beq f 169 then Jz ds else .no
def J2V (U : ZI) (E : ZR) : Ann := .none
def J7 (U : ZI) (E : ZR) : Bool := (cond (cond (inB (U.length : Int) 1 7) (U.all (fun x => inB x 0 99)) false) (decide ((E.length : Int) ≤ 7)) false)
def J1f (U : ZI) (E : ZR) : Prop :=
  (PC Try.prog 120 [.int .i64 (U.length : Int), .int .i64 1, .int .i64 7] (.one (.d (.bool (inB (U.length : Int) 1 7))))) ∧ ((inB (U.length : Int) 1 7) = true → (inB (U.length : Int) 1 7) = true) ∧ ((inB (U.length : Int) 1 7) = true → (inB (U.length : Int) 1 7) = true) ∧ ((inB (U.length : Int) 1 7) = true → PC Try.prog 131 [.sl (.ints U), .int .i64 0, .int .i64 99] (.one (.d (.bool (U.all (fun x => inB x 0 99)))))) ∧ (true = true) ∧ (((inB (U.length : Int) 1 7) = true → (inB (U.length : Int) 1 7) = true)) ∧ (((inB (U.length : Int) 1 7) = false → true = true)) ∧ ((cond (inB (U.length : Int) 1 7) (U.all (fun x => inB x 0 99)) false) = true → (cond (inB (U.length : Int) 1 7) (U.all (fun x => inB x 0 99)) false) = true) ∧ ((cond (inB (U.length : Int) 1 7) (U.all (fun x => inB x 0 99)) false) = true → (cond (inB (U.length : Int) 1 7) (U.all (fun x => inB x 0 99)) false) = true) ∧ ((cond (inB (U.length : Int) 1 7) (U.all (fun x => inB x 0 99)) false) = true → (cond (inB (U.length : Int) 1 7) (U.all (fun x => inB x 0 99)) false) = true) ∧ (true = true) ∧ (((cond (inB (U.length : Int) 1 7) (U.all (fun x => inB x 0 99)) false) = true → (cond (inB (U.length : Int) 1 7) (U.all (fun x => inB x 0 99)) false) = true)) ∧ (((cond (inB (U.length : Int) 1 7) (U.all (fun x => inB x 0 99)) false) = false → true = true)) ∧ ((J7 U E) = true → (J7 U E) = true) ∧ ((J7 U E) = true → (J7 U E) = true) ∧ ((J7 U E) = true → (J7 U E) = true) ∧ ((J7 U E) = true → PC Try.prog 169 [.sl (.rows E), .fn 200 0 [.bx [.sl (.ints U), .sl (.rows E)] 0]] (.one (.d (.bool (E.any (fun x => !(J3 x (U.length : Int) 99))))))) ∧ ((J7 U E) = true → (J7 U E) = true) ∧ (true = true) ∧ (((J7 U E) = true → (J7 U E) = true)) ∧ (((J7 U E) = false → true = true)) ∧ (((cond (J7 U E) (!(E.any (fun x => !(J3 x (U.length : Int) 99)))) false) = (J0 U E)))
theorem J29 (U : ZI) (E : ZR)  (w_Open : (U.length : Int) ≤ 9223372036854775807) (w_Dist : (E.length : Int) ≤ 9223372036854775807) (v_Dist : ∀ x9 ∈ E, (x9.length : Int) ≤ 9223372036854775807) : J1f U E := by
  unfold J1f J7
  refine ⟨J0m (U.length : Int) 1 7, id, id, fun _ => J0o U 0 99, rfl, id, fun _ => rfl, id, id, id, rfl, id, fun _ => rfl, id, id, id, fun _ => JE E U E, id, rfl, id, fun _ => rfl, ?_⟩
  ·unfold J0
   rw [any_not, show decide ((E.length : Int) ≤ 7) = decide (E.length ≤ 7) from J3p _ 7]
   cases inB (U.length : Int) 1 7 <;> cases U.all (fun x => inB x 0 99) <;> cases decide (E.length ≤ 7) <;> simp
theorem J2b (U : ZI) (E : ZR)  : PC Try.prog 119 [.agg [.sl (.ints U), .sl (.rows E)]] (.one (.d (.bool (J0 U E)))) :=
  pc_wf @Try.call119 fun hw => pc_by (by kernel_rfl) Try.func119 @Try.call119 (by kernel_rfl) J2D (J2V U E) (by kernel_rfl) (J29 U E hw.1.1 hw.1.2.1.1 hw.1.2.1.2) (by kernel_rfl)
def J1Q : List D → Orc := orcN [none] fun ds => match ds with
  | [.agg [.sl (.ints U), .sl (.rows E)]] => some (.one (.d (.bool (J0 U E))))
  | _ => none
def J3x (E : ZR) (r : Int) (i j a : Nat) : Bool := decide ((E.getD i []).getD a 0 ≤ r) && decide ((E.getD j []).getD a 0 ≤ r)
def J3C (n : Nat) (E : ZR) (i j r : Int) : Bool := allTo (fun a => !(J3x E r i.toNat j.toNat a)) n
theorem J2a {α : Type} {xs : List α} {k : Nat} {d : α} (h : k < xs.length) : xs.getD k d = xs[k] := by simp [h]
/-- Marks from k on. -/
def J4 (k : Int) (n : Nat) : ZI := (List.range n).map fun (i : Nat) => k + (i : Int)
def Jl (k : Int) (xs : ZI) (g : Nat) : ZI := J4 k g ++ xs.drop g
theorem J2 (k : Int) (n : Nat) : (J4 k n).length = n := by simp [J4]
theorem J2Q (k : Int) (xs : ZI) : Jl k xs 0 = xs := by simp [Jl, J4]
theorem J3d (k : Int) (xs : ZI) : Jl k xs xs.length = J4 k xs.length := by simp [Jl]
theorem J34 (k : Int) (xs : ZI) (g : Nat) (h : g ≤ xs.length) : (Jl k xs g).length = xs.length := by simp [Jl, J2]; omega
theorem J2y (k : Int) (xs : ZI) (g : Nat) (h : g < xs.length) : (Jl k xs g).set g (k + (g : Int)) = Jl k xs (g + 1) := by
  apply List.ext_getElem?
  intro j
  simp only [Jl, J4, List.getElem?_set, List.getElem?_append, List.length_map, List.length_range, List.getElem?_map, List.getElem?_drop, List.length_append, List.length_drop]
  by_cases h1 : g = j
  · subst h1
    simp [h]
    omega
  by_cases h2 : j < g
  · simp [h1, h2, show j < g + 1 by omega]
  · simp [h1, h2, show ¬ j < g + 1 by omega]
    congr 1; omega
theorem J1h : ∀ (ns : List Nat) (g : Nat), g < ns.length → (ns.take (g + 1)).sum = (ns.take g).sum + ns.getD g 0
  | [], g, h => by simp at h
  | n :: r, 0, _ => by simp
  | n :: r, g + 1, h => by
    have := J1h r g (by simpa using h)
    simp only [List.take_succ_cons, List.sum_cons, List.getD_cons_succ, this]
    omega
theorem J2R (ns : List Nat) (g : Nat) : (ns.take g).sum ≤ ns.sum := by
  have := List.take_append_drop g ns
  have h2 : ns.sum = (ns.take g).sum + (ns.drop g).sum := by rw [← List.sum_append, this]
  omega
def J0Z (f : FuncId) (ms : List MV) : Option Int := none
def J10 (n : Nat) (k : Int) : MAnn := .two (.none) (.two (.two (.none) (.loop n (fun g => [(0, .shp (.ints n)), (1, .int (k + (g : Int))), (5, .int (g : Int))]) (fun g => []) (fun g => .none))) (.none))
def J0h (n : Nat) (k : Int) : Prop :=
  (((([] : ZI) = []) ∧ ((.ints n : Sh) = .ints n) ∧ ((k : Int) = (k + ((0 : Nat) : Int))) ∧ ((0 : Int) = ((0 : Nat) : Int))) ∧ (∀ g : Nat, g ≤ n → (((decide ((g : Int) < ((n : Nat) : Int))) = true → ((0 : Int) ≤ (g : Int)) ∧ (((g : Int) : Int) < ((n : Nat) : Int)) ∧ (I6 ((k + (g : Int)) + 1)) ∧ (I6 ((g : Int) + 1)) ∧ ((g + 1 ≤ n) ∧ (([] : ZI) = []) ∧ ((.ints n : Sh) = .ints n) ∧ ((((k + (g : Int)) + 1) : Int) = (k + ((g + 1 : Nat) : Int))) ∧ ((((g : Int) + 1) : Int) = ((g + 1 : Nat) : Int)))) ∧ ((decide ((g : Int) < ((n : Nat) : Int))) = false → (((((k + (g : Int)) : Int) = k + (n : Int))) ∧ ((([] : ZI) = [])))))))
theorem J0O (n : Nat) (k : Int) (hk : 0 ≤ k) (hn : k + (n : Int) ≤ 9223372036854775807) : J0h n k := by
  unfold J0h
  refine ⟨?_, ?_⟩
  · refine ⟨?_, ?_⟩
    · exact rfl
    refine ⟨?_, ?_⟩
    · exact rfl
    refine ⟨?_, ?_⟩
    · first | omega | rfl | (simp; done) | (simp <;> omega)
    first | omega | rfl | (simp; done) | (simp <;> omega)
  intro g hg
  refine ⟨?_, ?_⟩
  · intro b1
    simp only [nrmT] at b1
    refine ⟨?_, ?_⟩
    · first | omega | rfl | (simp; done) | (simp <;> omega)
    refine ⟨?_, ?_⟩
    · first | omega | rfl | (simp; done) | (simp <;> omega)
    refine ⟨?_, ?_⟩
    · first | omega | rfl | (simp; done) | (simp <;> omega)
    refine ⟨?_, ?_⟩
    · first | omega | rfl | (simp; done) | (simp <;> omega)
    refine ⟨?_, ?_⟩
    · first | omega | rfl | (simp; done) | (simp <;> omega)
    refine ⟨?_, ?_⟩
    · exact rfl
    refine ⟨?_, ?_⟩
    · exact rfl
    refine ⟨?_, ?_⟩
    · first | omega | rfl | (simp; done) | (simp <;> omega)
    first | omega | rfl | (simp; done) | (simp <;> omega)
  intro b2
  simp only [nrmT] at b2
  refine ⟨?_, ?_⟩
  · first | omega | rfl | (simp; done) | (simp <;> omega)
  exact rfl
theorem J0b (n : Nat) (k : Int) (hk : 0 ≤ k) (hn : k + (n : Int) ≤ 9223372036854775807) : PG Try.prog 48 [.shp (.ints n), .int k] (k + (n : Int)) :=
  pg_by Try.func48 @Try.call48 (by kernel_rfl) J0Z (J10 n k) (by kernel_rfl) (J0O n k hk hn) (by kernel_rfl)
def J15 (f : FuncId) (ms : List MV) : Option Int := none
def J12 (xs : ZI) (k : Int) : MAnn := .two (.none) (.two (.two (.none) (.loop xs.length (fun g => [(0, .row xs.length), (1, .int (k + (g : Int))), (5, .int (g : Int))]) (fun g => (Jl k xs g)) (fun g => .none))) (.none))
def J0i (xs : ZI) (k : Int) : Prop :=
  ((((xs : ZI) = (Jl k xs (0 : Nat))) ∧ ((xs.length : Nat) = xs.length) ∧ ((k : Int) = (k + ((0 : Nat) : Int))) ∧ ((0 : Int) = ((0 : Nat) : Int))) ∧ (∀ g : Nat, g ≤ xs.length → (((decide ((g : Int) < (xs.length : Int))) = true → ((0 : Int) ≤ (g : Int)) ∧ (((g : Int) : Int) < (xs.length : Int)) ∧ ((g : Int).toNat < (Jl k xs g).length) ∧ (I6 ((k + (g : Int)) + 1)) ∧ (I6 ((g : Int) + 1)) ∧ ((g + 1 ≤ xs.length) ∧ ((((Jl k xs g).set ((g : Int).toNat) (k + (g : Int))) : ZI) = (Jl k xs (g + 1 : Nat))) ∧ ((xs.length : Nat) = xs.length) ∧ ((((k + (g : Int)) + 1) : Int) = (k + ((g + 1 : Nat) : Int))) ∧ ((((g : Int) + 1) : Int) = ((g + 1 : Nat) : Int)))) ∧ ((decide ((g : Int) < (xs.length : Int))) = false → (((((k + (g : Int)) : Int) = k + (xs.length : Int))) ∧ ((((Jl k xs g) : ZI) = (J4 k xs.length))))))))
theorem J0P (xs : ZI) (k : Int) (hk : 0 ≤ k) (hn : k + (xs.length : Int) ≤ 9223372036854775807) : J0i xs k := by
  unfold J0i
  refine ⟨?_, ?_⟩
  · refine ⟨?_, ?_⟩
    · exact (J2Q k xs).symm
    refine ⟨?_, ?_⟩
    · exact rfl
    refine ⟨?_, ?_⟩
    · first | omega | rfl | (simp; done) | (simp <;> omega)
    first | omega | rfl | (simp; done) | (simp <;> omega)
  intro g hg
  refine ⟨?_, ?_⟩
  · intro b1
    simp only [nrmT] at b1
    refine ⟨?_, ?_⟩
    · first | omega | rfl | (simp; done) | (simp <;> omega)
    refine ⟨?_, ?_⟩
    · first | omega | rfl | (simp; done) | (simp <;> omega)
    refine ⟨?_, ?_⟩
    · rw [J34 _ _ _ (by omega)]; omega
    refine ⟨?_, ?_⟩
    · first | omega | rfl | (simp; done) | (simp <;> omega)
    refine ⟨?_, ?_⟩
    · first | omega | rfl | (simp; done) | (simp <;> omega)
    refine ⟨?_, ?_⟩
    · first | omega | rfl | (simp; done) | (simp <;> omega)
    refine ⟨?_, ?_⟩
    · exact J2y k xs g (by omega)
    refine ⟨?_, ?_⟩
    · exact rfl
    refine ⟨?_, ?_⟩
    · first | omega | rfl | (simp; done) | (simp <;> omega)
    first | omega | rfl | (simp; done) | (simp <;> omega)
  intro b2
  simp only [nrmT] at b2
  refine ⟨?_, ?_⟩
  · first | omega | rfl | (simp; done) | (simp <;> omega)
  rw [show g = xs.length by omega]; exact J3d k xs
theorem J0d (xs : ZI) (k : Int) (hk : 0 ≤ k) (hn : k + (xs.length : Int) ≤ 9223372036854775807) : PW Try.prog 48 3 xs (J4 k xs.length) k (k + (xs.length : Int)) :=
  pw_by Try.func48 @Try.call48 (by kernel_rfl) J15 (J12 xs k) (by kernel_rfl) (Nat.le_of_eq (J2 _ _)) (J0P xs k hk hn) (by kernel_rfl)
def J0T (f : FuncId) (ms : List MV) : Option Int := bif Nat.beq f 48 then (match ms with
  | [.shp (.ints n), .int k] => some (k + (n : Int))
  | _ => none) else none
def J0K (ns : List Nat) (k : Int) : MAnn := .two (.none) (.two (.two (.none) (.loop ns.length (fun g => [(0, .shp (.rows ns)), (1, .int (k + ((ns.take g).sum : Int))), (5, .int (g : Int))]) (fun g => []) (fun g => .none))) (.none))
def J0a (ns : List Nat) (k : Int) : Prop :=
  (((([] : ZI) = []) ∧ ((.rows ns : Sh) = .rows ns) ∧ ((k : Int) = (k + ((ns.take (0 : Nat)).sum : Int))) ∧ ((0 : Int) = ((0 : Nat) : Int))) ∧ (∀ g : Nat, g ≤ ns.length → (((decide ((g : Int) < ((ns.length : Nat) : Int))) = true → ((0 : Int) ≤ (g : Int)) ∧ (((g : Int) : Int) < ((ns.length : Nat) : Int)) ∧ (PG Try.prog 48 [.shp (.ints (ns.getD ((g : Int).toNat) 0)), .int (k + ((ns.take g).sum : Int))] ((k + ((ns.take g).sum : Int)) + ((ns.getD ((g : Int).toNat) 0) : Int))) ∧ (I6 ((g : Int) + 1)) ∧ ((g + 1 ≤ ns.length) ∧ (([] : ZI) = []) ∧ ((.rows ns : Sh) = .rows ns) ∧ ((((k + ((ns.take g).sum : Int)) + ((ns.getD ((g : Int).toNat) 0) : Int)) : Int) = (k + ((ns.take (g + 1 : Nat)).sum : Int))) ∧ ((((g : Int) + 1) : Int) = ((g + 1 : Nat) : Int)))) ∧ ((decide ((g : Int) < ((ns.length : Nat) : Int))) = false → (((((k + ((ns.take g).sum : Int)) : Int) = k + (ns.sum : Int))) ∧ ((([] : ZI) = [])))))))
theorem J0J (ns : List Nat) (k : Int) (hk : 0 ≤ k) (hl : (ns.length : Int) ≤ 9223372036854775807) (hn : k + (ns.sum : Int) ≤ 9223372036854775807) : J0a ns k := by
  unfold J0a
  refine ⟨?_, ?_⟩
  · refine ⟨?_, ?_⟩
    · exact rfl
    refine ⟨?_, ?_⟩
    · exact rfl
    refine ⟨?_, ?_⟩
    · first | omega | rfl | (simp; done) | (simp <;> omega)
    first | omega | rfl | (simp; done) | (simp <;> omega)
  intro g hg
  refine ⟨?_, ?_⟩
  · intro b1
    simp only [nrmT] at b1
    refine ⟨?_, ?_⟩
    · first | omega | rfl | (simp; done) | (simp <;> omega)
    refine ⟨?_, ?_⟩
    · first | omega | rfl | (simp; done) | (simp <;> omega)
    refine ⟨?_, ?_⟩
    · refine J0b (ns.getD ((g : Int).toNat) 0) (k + ((ns.take g).sum : Int)) ?_ ?_
      · first | omega | rfl | (simp; done) | (simp <;> omega)
      · have := J2R ns (g + 1); rw [J1h ns g (by omega)] at this; simp only [Int.toNat_natCast]; omega
    refine ⟨?_, ?_⟩
    · first | omega | rfl | (simp; done) | (simp <;> omega)
    refine ⟨?_, ?_⟩
    · first | omega | rfl | (simp; done) | (simp <;> omega)
    refine ⟨?_, ?_⟩
    · exact rfl
    refine ⟨?_, ?_⟩
    · exact rfl
    refine ⟨?_, ?_⟩
    · rw [J1h ns g (by omega)]; simp; omega
    first | omega | rfl | (simp; done) | (simp <;> omega)
  intro b2
  simp only [nrmT] at b2
  refine ⟨?_, ?_⟩
  · rw [show g = ns.length by omega]; simp
  exact rfl
theorem J0F (ns : List Nat) (k : Int) (hk : 0 ≤ k) (hl : (ns.length : Int) ≤ 9223372036854775807) (hn : k + (ns.sum : Int) ≤ 9223372036854775807) : PG Try.prog 49 [.shp (.rows ns), .int k] (k + (ns.sum : Int)) :=
  pg_by Try.func49 @Try.call49 (by kernel_rfl) J0T (J0K ns k) (by kernel_rfl) (J0J ns k hk hl hn) (by kernel_rfl)
def J0S (f : FuncId) (ms : List MV) : Option Int := bif Nat.beq f 49 then (match ms with
  | [.shp (.rows ns), .int k] => some (k + (ns.sum : Int))
  | _ => none) else bif Nat.beq f 48 then (match ms with
  | [.shp (.ints n), .int k] => some (k + (n : Int))
  | _ => none) else none
def J0Q (n : Nat) (ns : List Nat) (k : Int) : MAnn := .none
def J0e (n : Nat) (ns : List Nat) (k : Int) : Prop :=
  (PG Try.prog 48 [.shp (.ints n), .int k] (k + (n : Int))) ∧ (PG Try.prog 49 [.shp (.rows ns), .int (k + (n : Int))] ((k + (n : Int)) + (ns.sum : Int))) ∧ ((((((k + (n : Int)) + (ns.sum : Int)) : Int) = k + (n : Int) + (ns.sum : Int))) ∧ ((([] : ZI) = [])))
theorem J0G (n : Nat) (ns : List Nat) (k : Int) (hk : 0 ≤ k) (hl : (ns.length : Int) ≤ 9223372036854775807) (hn : k + (n : Int) + (ns.sum : Int) ≤ 9223372036854775807) : J0e n ns k := by
  unfold J0e
  refine ⟨?_, ?_⟩
  · refine J0b n k ?_ ?_
    · first | omega | rfl | (simp; done) | (simp <;> omega)
    · first | omega | rfl | (simp; done) | (simp <;> omega)
  refine ⟨?_, ?_⟩
  · refine J0F ns (k + (n : Int)) ?_ ?_ ?_
    · first | omega | rfl | (simp; done) | (simp <;> omega)
    · first | omega | rfl | (simp; done) | (simp <;> omega)
    · first | omega | rfl | (simp; done) | (simp <;> omega)
  refine ⟨?_, ?_⟩
  · first | omega | rfl | (simp; done) | (simp <;> omega)
  exact rfl
theorem J0E (n : Nat) (ns : List Nat) (k : Int) (hk : 0 ≤ k) (hl : (ns.length : Int) ≤ 9223372036854775807) (hn : k + (n : Int) + (ns.sum : Int) ≤ 9223372036854775807) : PG Try.prog 27 [.agg [.ints n, .rows ns], .int k] (k + (n : Int) + (ns.sum : Int)) :=
  pg_by Try.func27 @Try.call27 (by kernel_rfl) J0S (J0Q n ns k) (by kernel_rfl) (J0G n ns k hk hl hn) (by kernel_rfl)
theorem J36 (k : Int) (n i : Nat) (h : i < n) : (J4 k n).getD i 0 = k + (i : Int) := by
  simp [J4, h]
abbrev Jy (xs : ZI) (k : Int) (k2 : Int) (i : Int) : Prop := (0 ≤ i) ∧ (i ≤ (xs.length : Int)) ∧ (k2 = k + i)
abbrev Jp (xs : ZI) (k : Int) (k2 : Int) (i : Int) : Nat := (xs.length - i).toNat
def J2j (f : FuncId) (ds : List D) : Orc := .no
def J2h (xs : ZI) (k : Int) : Ann := .two (.none) (.two (.two (.none) (.loop (cut2 (fun (k2 : Int) (i : Int) => Jy xs k k2 i) (fun (k2 : Int) (i : Int) => [(0, .d false (.sl (.ints xs))), (1, .d true (.int .i64 k2)), (5, .d true (.int .i64 i))]) (fun (k2 : Int) (i : Int) => [])) (fun g => Jp xs k g.1 g.2) (fun _ => .none))) (.none))
def J0U (xs : ZI) (k : Int) : Prop :=
  ((∃ k2' : Int, ∃ i' : Int, (Jy xs k k2' i') ∧ (xs = xs) ∧ (k = k2') ∧ ((0 : Int) = i')) ∧ (∀ k2 : Int, ∀ i : Int, (Jy xs k k2 i) → (((decide (i < (xs.length : Int))) = true → ((0 : Int) ≤ i) ∧ ((i : Int) < xs.length) ∧ (i.toNat < xs.length) ∧ ((((xs.getD i.toNat 0) != k2) = true → ((((-1) : Int) = (k + (xs.length : Int))))) ∧ (((xs.getD i.toNat 0) != k2) = false → (I6 (k2 + 1)) ∧ (I6 (i + 1)) ∧ (∃ k2' : Int, ∃ i' : Int, (Jy xs k k2' i') ∧ (Jp xs k k2' i' < Jp xs k k2 i) ∧ (xs = xs) ∧ ((k2 + 1) = k2') ∧ ((i + 1) = i'))))) ∧ ((decide (i < (xs.length : Int))) = false → ((k2 = (k + (xs.length : Int))))))))
theorem J1Y (xs : ZI) (k : Int) (hk : 0 ≤ k) (hx : xs = J4 k xs.length) (hn : k + (xs.length : Int) ≤ 9223372036854775807) (w_xs : (xs.length : Int) ≤ 9223372036854775807) : J0U xs k := by
  unfold J0U
  refine ⟨?_, ?_⟩
  ·refine ⟨k, 0, ?_⟩
   refine ⟨?_, rfl, rfl, rfl⟩
   ·refine ⟨?_, ?_, ?_⟩
    ·first | omega | rfl | (intro hg; simp only [nrmT] at hg; omega) | (intro g1 g2; simp [g1, g2]; done) | (intro g1; simp at g1 ⊢; simp [g1]; done) | (simp only [nrmT] at *; omega) | (simp at * <;> omega) | (simp_all <;> omega) | (simp_all; done)
    ·first | omega | rfl | (intro hg; simp only [nrmT] at hg; omega) | (intro g1 g2; simp [g1, g2]; done) | (intro g1; simp at g1 ⊢; simp [g1]; done) | (simp only [nrmT] at *; omega) | (simp at * <;> omega) | (simp_all <;> omega) | (simp_all; done)
    ·first | omega | rfl | (intro hg; simp only [nrmT] at hg; omega) | (intro g1 g2; simp [g1, g2]; done) | (intro g1; simp at g1 ⊢; simp [g1]; done) | (simp only [nrmT] at *; omega) | (simp at * <;> omega) | (simp_all <;> omega) | (simp_all; done)
  intro k2 i hJ
  obtain ⟨h1, h2, h3⟩ := hJ
  refine ⟨?_, ?_⟩
  ·intro b1
   try simp only [nrmT] at b1
   refine ⟨?_, ?_, ?_, ?_, ?_⟩
   ·first | omega | rfl | (intro hg; simp only [nrmT] at hg; omega) | (intro g1 g2; simp [g1, g2]; done) | (intro g1; simp at g1 ⊢; simp [g1]; done) | (simp only [nrmT] at *; omega) | (simp at * <;> omega) | (simp_all <;> omega) | (simp_all; done)
   ·first | omega | rfl | (intro hg; simp only [nrmT] at hg; omega) | (intro g1 g2; simp [g1, g2]; done) | (intro g1; simp at g1 ⊢; simp [g1]; done) | (simp only [nrmT] at *; omega) | (simp at * <;> omega) | (simp_all <;> omega) | (simp_all; done)
   ·first | omega | rfl | (intro hg; simp only [nrmT] at hg; omega) | (intro g1 g2; simp [g1, g2]; done) | (intro g1; simp at g1 ⊢; simp [g1]; done) | (simp only [nrmT] at *; omega) | (simp at * <;> omega) | (simp_all <;> omega) | (simp_all; done)
   ·intro b2
    try simp only [nrmT] at b2
    exfalso
    have h9 : xs.getD i.toNat 0 = k + (i.toNat : Int) := by
      rw [hx]; exact J36 k _ _ (by omega)
    omega
   intro b3
   try simp only [nrmT] at b3
   refine ⟨?_, ?_, ?_⟩
   ·first | omega | rfl | (intro hg; simp only [nrmT] at hg; omega) | (intro g1 g2; simp [g1, g2]; done) | (intro g1; simp at g1 ⊢; simp [g1]; done) | (simp only [nrmT] at *; omega) | (simp at * <;> omega) | (simp_all <;> omega) | (simp_all; done)
   ·first | omega | rfl | (intro hg; simp only [nrmT] at hg; omega) | (intro g1 g2; simp [g1, g2]; done) | (intro g1; simp at g1 ⊢; simp [g1]; done) | (simp only [nrmT] at *; omega) | (simp at * <;> omega) | (simp_all <;> omega) | (simp_all; done)
   refine ⟨(k2 + 1), (i + 1), ?_⟩
   refine ⟨?_, ?_, rfl, rfl, rfl⟩
   ·refine ⟨?_, ?_, ?_⟩
    ·first | omega | rfl | (intro hg; simp only [nrmT] at hg; omega) | (intro g1 g2; simp [g1, g2]; done) | (intro g1; simp at g1 ⊢; simp [g1]; done) | (simp only [nrmT] at *; omega) | (simp at * <;> omega) | (simp_all <;> omega) | (simp_all; done)
    ·first | omega | rfl | (intro hg; simp only [nrmT] at hg; omega) | (intro g1 g2; simp [g1, g2]; done) | (intro g1; simp at g1 ⊢; simp [g1]; done) | (simp only [nrmT] at *; omega) | (simp at * <;> omega) | (simp_all <;> omega) | (simp_all; done)
    ·first | omega | rfl | (intro hg; simp only [nrmT] at hg; omega) | (intro g1 g2; simp [g1, g2]; done) | (intro g1; simp at g1 ⊢; simp [g1]; done) | (simp only [nrmT] at *; omega) | (simp at * <;> omega) | (simp_all <;> omega) | (simp_all; done)
   first | (show _ < _; omega) | (simp only [Jp]; omega) | (simp only [Jp] at *; simp at *; omega)
  intro b4
  try simp only [nrmT] at b4
  first | omega | rfl | (intro hg; simp only [nrmT] at hg; omega) | (intro g1 g2; simp [g1, g2]; done) | (intro g1; simp at g1 ⊢; simp [g1]; done) | (simp only [nrmT] at *; omega) | (simp at * <;> omega) | (simp_all <;> omega) | (simp_all; done)
theorem J0A (xs : ZI) (k : Int) (hk : 0 ≤ k) (hx : xs = J4 k xs.length) (hn : k + (xs.length : Int) ≤ 9223372036854775807) : PC Try.prog 121 [.sl (.ints xs), .int .i64 k] (.one (.d (.int .i64 (k + (xs.length : Int))))) :=
  pc_wf @Try.call121 fun hw => pc_by (by kernel_rfl) Try.func121 @Try.call121 (by kernel_rfl) J2j (J2h xs k) (by kernel_rfl) (J1Y xs k hk hx hn hw.1) (by kernel_rfl)
def J0w : List D → Orc := orcN [some .ints, none] fun ds => match ds with
  | [.sl (.ints xs), .int .i64 k] => some (.one (.d (.int .i64 (k + (xs.length : Int)))))
  | _ => none
theorem J2r : ∀ (xss : ZR) (m : Nat), (∀ xs ∈ xss, xs.length ≤ m) → (xss.map List.length).sum ≤ xss.length * m
  | [], m, _ => by simp
  | xs :: r, m, h => by
    have h1 := J2r r m fun ys hy => h ys (by simp [hy])
    have h2 := h xs (by simp)
    simp only [List.map_cons, List.sum_cons, List.length_cons, Nat.add_mul]
    omega
theorem J3b {xss : ZR} (h1 : xss.length ≤ 1048576) (h2 : ∀ xs ∈ xss, xs.length ≤ 1048576) : (xss.map List.length).sum ≤ 1099511627776 := by
  have h3 := J2r xss 1048576 h2
  have h4 := Nat.mul_le_mul_right 1048576 h1
  omega
def mkS : Int → ZR → ZR
  | _, [] => []
  | k, xs :: r => J4 k xs.length :: mkS (k + (xs.length : Int)) r
def J1 (xss : ZR) : Nat := (xss.map List.length).sum
def J07 (k : Int) (xss : ZR) (g : Nat) : ZR := mkS k (xss.take g) ++ xss.drop g
theorem JP : ∀ (k : Int) (xss : ZR), (mkS k xss).length = xss.length
  | _, [] => rfl
  | k, xs :: r => by simp [mkS, JP _ r]
theorem J2Z : ∀ (k : Int) (a b : ZR), mkS k (a ++ b) = mkS k a ++ mkS (k + (J1 a : Int)) b
  | k, [], b => by simp [mkS, J1]
  | k, xs :: r, b => by
    rw [List.cons_append]
    show J4 k xs.length :: mkS _ (r ++ b) = _
    rw [J2Z _ r b]
    show _ = J4 k xs.length :: (_ ++ _)
    congr 3
    simp only [J1, List.map_cons, List.sum_cons]
    omega
theorem J3m (k : Int) (xss : ZR) : J07 k xss 0 = xss := by simp [J07, mkS]
theorem J3u (k : Int) (xss : ZR) : J07 k xss xss.length = mkS k xss := by simp [J07]
theorem J26 (k : Int) (xss : ZR) (g : Nat) (h : g ≤ xss.length) : (J07 k xss g).length = xss.length := by simp [J07, JP]; omega
theorem J3r (k : Int) (xss : ZR) (g : Nat) (h : g < xss.length) : (J07 k xss g).getD g [] = xss.getD g [] := by
  have : (mkS k (xss.take g)).length = g := by rw [JP]; simp; omega
  simp [J07, List.getElem?_append, this]
theorem J3i (k : Int) (xss : ZR) (g : Nat) (h : g < xss.length) : (J07 k xss g).set g (J4 (k + (J1 (xss.take g) : Int)) (xss.getD g []).length) = J07 k xss (g + 1) := by
  have e1 : (mkS k (xss.take g)).length = g := by rw [JP]; simp; omega
  have e2 : xss.drop g = xss.getD g [] :: xss.drop (g + 1) := by simp [h]
  have e3 : xss.take (g + 1) = xss.take g ++ [xss.getD g []] := by simp [h]
  unfold J07
  rw [e3, J2Z, e2, List.set_append_right _ _ (by omega), e1, Nat.sub_self, List.append_assoc]
  rfl
theorem J0c (xss : ZR) (g : Nat) (h : g < xss.length) : J1 (xss.take (g + 1)) = J1 (xss.take g) + (xss.getD g []).length := by
  have e3 : xss.take (g + 1) = xss.take g ++ [xss.getD g []] := by simp [h]
  rw [e3]; simp [J1]
theorem J0t (xss : ZR) (g : Nat) : J1 (xss.take g) ≤ J1 xss := by
  have : xss = xss.take g ++ xss.drop g := (List.take_append_drop g xss).symm
  have h2 : J1 xss = J1 (xss.take g) + J1 (xss.drop g) := by
    conv => lhs; rw [this]
    simp only [J1, List.map_append, List.sum_append]
  omega
theorem MatOk.mark {w w' : World} {p : Nm} {e eo : TypeId} {xss : ZR} (h : MatOk w p e eo xss none) {i : Nat} (hi : i < xss.length) {ys : ZI} (hl : ys.length = (xss.getD i []).length)
    (hb : ∀ b, b < w.heap.size → ¬ (b = (p.rows i).1 ∧ 0 < (p.rows i).2) → w'.heap[b]? = w.heap[b]?) {cur' : Array Value} (hc : 0 < (p.rows i).2 → w'.heap[(p.rows i).1]? = some (.cells cur' e (0, 0)))
    (hs : cur'.size = (p.rows i).2) (hv : ∀ j, j < ys.length → cur'[j]? = some (.int .i64 (ys.getD j 0))) : MatOk w' p e eo (xss.set i ys) none := by
  have g1 : ∀ j, ((xss.set i ys).getD j []).length = (xss.getD j []).length := fun j => by
    by_cases hj : j = i
    · subst hj; simp [hi] at hl ⊢; exact hl
    simp [List.getElem?_set_ne (Ne.symm hj)]
  refine ⟨h.cap, by rw [List.length_set]; exact h.len, ?_, fun j hj hh => ?_, fun a b ha hb => h.apart a b (by simpa using ha) (by simpa using hb), fun a ha => h.outer a (by simpa using ha)⟩
  · obtain ⟨cur, h1, h2, h3⟩ := h.out
    refine ⟨cur, fun hp => ?_, h2, fun j hj hh => ?_⟩
    · rw [hb _ (Array.getElem?_eq_some_iff.1 (h1 hp)).1 (fun hq => h.outer i hi (by simp) hq.2 hp hq.1.symm)]; exact h1 hp
    rw [g1]; exact h3 j (by simpa using hj) hh
  have hj' : j < xss.length := by simpa using hj
  obtain ⟨a1, a2, cur, a3, a4, a5⟩ := h.inn j hj' hh
  by_cases hji : j = i
  · subst hji
    refine ⟨a1, by rw [g1]; exact a2, cur', hc, hs, fun c hcl => ?_⟩
    have e : (xss.set j ys).getD j [] = ys := by simp [hi]
    rw [e] at hcl ⊢
    exact hv c hcl
  have e : (xss.set i ys).getD j [] = xss.getD j [] := by simp [List.getElem?_set_ne (Ne.symm hji)]
  rw [e]
  refine ⟨a1, a2, cur, fun hp => ?_, a4, a5⟩
  rw [hb _ (Array.getElem?_eq_some_iff.1 (a3 hp)).1 (fun hq => hji (h.apart j i hj' hi (by simp) (by simp) hp hq.2 hq.1))]; exact a3 hp
/-- Only blocks in B are written over. -/
structure KeptOut (B : Nat → Prop) (w w' : World) : Prop where
  os : w'.os = w.os
  tape : w'.tape = w.tape
  output : w'.output = w.output
  size : w.heap.size ≤ w'.heap.size
  drawn : w.drawn ≤ w'.drawn
  out : ∀ b, b < w.heap.size → ¬ B b → w'.heap[b]? = w.heap[b]?
theorem KeptOut.refl (B : Nat → Prop) (w : World) : KeptOut B w w := ⟨rfl, rfl, rfl, Nat.le_refl _, Nat.le_refl _, fun _ _ _ => rfl⟩
theorem KeptOut.trans {B : Nat → Prop} {w w' w'' : World} (h : KeptOut B w w') (k : KeptOut B w' w'') : KeptOut B w w'' :=
  ⟨k.os.trans h.os, k.tape.trans h.tape, k.output.trans h.output, Nat.le_trans h.size k.size, Nat.le_trans h.drawn k.drawn, fun b hb hn => (k.out b (Nat.lt_of_lt_of_le hb h.size) hn).trans (h.out b hb hn)⟩
theorem KeptOut.mono {B C : Nat → Prop} {w w' : World} (h : KeptOut B w w') (hc : ∀ b, B b → C b) : KeptOut C w w' := ⟨h.os, h.tape, h.output, h.size, h.drawn, fun b hb hn => h.out b hb fun hB => hn (hc b hB)⟩
/-- One round's call: the row's J4. -/
theorem J3t {w : World} {p : Nm} {e eo : TypeId} {xss : ZR} (h : MatOk w p e eo xss none) {i : Nat} (hi : i < xss.length) {P : Program} {f : FuncId} {ys : ZI} {k r : Int} (hl : ys.length = (xss.getD i []).length)
    (hpw : PW P f e (xss.getD i []) ys k r) : ∃ v, w.cell? ⟨p.1, i, none⟩ = some v ∧ Calls P f #[v, .int .i64 k] w fun en w' => en = .returned (.int .i64 r) ∧ KeptOut (blk (.mat e eo xss none) p) w w' ∧ MatOk w' p e eo (xss.set i ys) none := by
  obtain ⟨cur, h1, h2, h3⟩ := h.out
  obtain ⟨v, hv, hv2⟩ := h3 i hi (by simp)
  obtain ⟨a1, a2, c1, a3, a4, a5⟩ := h.inn i hi (by simp)
  have hpos : 0 < p.2 := Nat.lt_of_lt_of_le (Nat.lt_of_le_of_lt (Nat.zero_le _) hi) h.len
  refine ⟨v, by rw [cell_of_row w _ _ _ _ _ (h1 hpos)]; exact hv, ?_⟩
  refine (hpw.2 w v (p.rows i).1 (p.rows i).2 c1 hv2 a3 a1 a4 a2 (fun j hj => a5 j hj)).mono fun en w' he => ?_
  obtain ⟨rfl, b1, b2, b3, b4, b5, b6, cur', b7, b8, b9⟩ := he
  exact ⟨rfl, ⟨b1, b2, b3, b4, b5, fun b hb hn => b6 b hb fun hq => hn (.inr ⟨i, hi, by simp, hq.1, hq.2⟩)⟩, h.mark hi hl b6 b7 b8 b9⟩
theorem J1l {p : Nm} {n : Nat} {v : Value} (h : OwnV p n v) : ∃ ad cap, v = .slice ad n cap ∧ (0 < n → ad = some ⟨p.1, 0, none⟩) := by
  rcases h with rfl | ⟨rfl, h0, _⟩
  · exact ⟨_, _, rfl, fun _ => rfl⟩
  exact ⟨_, _, by rw [h0], fun h => by omega⟩
theorem J0x (xss : ZR) (k : Int) (hk : 0 ≤ k) (hn : k + (J1 xss : Int) ≤ 9223372036854775807) : PWM Try.prog 49 3 26 xss (mkS k xss) k (k + (J1 xss : Int)) := by
  refine ⟨Try.call49, fun w v p hv hm => ?_⟩
  obtain ⟨ad, cap, rfl, had⟩ := J1l hv
  have hlen : (xss.length : Int) ≤ 9223372036854775807 := by
    have h1 := hm.cap
    have h2 := hm.len
    unfold maxLen at h1
    omega
  go_enter Try.func49, Try.ntmps49
  go_wp2
  go_loopw [1, 5] (fun u i wr => ∃ g : Nat, g ≤ xss.length ∧ i = .int .i64 g ∧ u = .int .i64 (k + (J1 (xss.take g) : Int)) ∧ KeptOut (blk (.mat 3 26 xss none) p) w wr ∧ MatOk wr p 3 26 (J07 k xss g) none) (fun _ i _ => xss.length - (Go.RowKit.intOf i).toNat)
  case atStart => exact ⟨0, Nat.zero_le _, rfl, by simp [J1], KeptOut.refl _ _, by rw [J3m]; exact hm⟩
  case round =>
    obtain ⟨g, hg, rfl, rfl, hko, hmat⟩ := hrel
    by_cases hlt : g < xss.length
    · obtain rfl := had (by omega)
      have hmt := J3r k xss g hlt
      have hsl := J0t xss (g + 1)
      have hst := J0c xss g hlt
      have hgl : g < (J07 k xss g).length := by rw [J26 k xss g hg]; exact hlt
      obtain ⟨v, hcell, hcall⟩ := J3t hmat hgl (f := 48) (P := Try.prog) (ys := J4 (k + (J1 (xss.take g) : Int)) (xss.getD g []).length) (k := k + (J1 (xss.take g) : Int)) (r := k + (J1 (xss.take g) : Int) + ((xss.getD g []).length : Int)) (by rw [hmt, J2]) (by rw [hmt]; exact J0d _ _ (by omega) (by omega))
      rw [J3i k xss g hlt] at hcall
      clear hmt hgl hmat
      have A : Go.RowKit.Hid (J1 (xss.take (g + 1)) = J1 (xss.take g) + (xss.getD g []).length) := hst
      clear hst
      go_wp2_with (go_at_call 48; refine hcall.mono ?_; rintro e w' ⟨rfl, hko2, hmat2⟩)
      go_roundw
      case rel => exact ⟨g + 1, by omega, by go_num, by rw [A.out, show (xss.getD g []).length = xss[g].length by simp [hlt]]; go_num, hko.trans (hko2.mono fun b hb => by simp only [blk, J26 k xss g hg] at hb ⊢; exact hb), hmat2⟩
      case measure => simp [Go.RowKit.intOf]; omega
    have hge : g = xss.length := by omega
    subst hge
    go_wp2
    go_ret
    rw [J3u] at hmat
    exact ⟨by rw [List.take_length]; rfl, hko.os, hko.tape, hko.output, hko.size, hko.drawn, hko.out, hmat⟩
theorem J30 : ∀ (k : Int) (xss : ZR) (i : Nat), i < xss.length → (mkS k xss).getD i [] = J4 (k + (J1 (xss.take i) : Int)) (xss.getD i []).length
  | k, [], i, h => by simp at h
  | k, xs :: r, 0, _ => by simp [mkS, J1]
  | k, xs :: r, i + 1, h => by
    have := J30 (k + (xs.length : Int)) r i (by simpa using h)
    show (J4 k xs.length :: mkS _ r).getD (i + 1) [] = _
    rw [List.getD_cons_succ, this]
    simp only [List.take_succ_cons, J1, List.map_cons, List.sum_cons, List.getD_cons_succ]
    congr 1
    omega
theorem J1K : ∀ (k : Int) (xss : ZR), (mkS k xss).map List.length = xss.map List.length
  | _, [] => rfl
  | k, xs :: r => by simp [mkS, J1K _ r, J2]
theorem Jc (k : Int) (xss : ZR) : J1 (mkS k xss) = J1 xss := by unfold J1; rw [J1K]
theorem J2s : ∀ (k : Int) (xss yss : ZR), xss.map List.length = yss.map List.length → mkS k xss = mkS k yss
  | _, [], [], _ => rfl
  | k, x :: r, y :: s, h => by
    simp only [List.map_cons, List.cons.injEq] at h
    show J4 k x.length :: _ = J4 k y.length :: _
    rw [h.1, J2s _ r s h.2]
theorem J2t (k : Int) (xss : ZR) : mkS k (mkS k xss) = mkS k xss := J2s k _ _ (J1K k xss)
abbrev Jv (xss : ZR) (k : Int) (k2 : Int) (i : Int) : Prop := (0 ≤ i) ∧ (i ≤ (xss.length : Int)) ∧ (k2 = k + (J1 (xss.take i.toNat) : Int))
abbrev Jm (xss : ZR) (k : Int) (k2 : Int) (i : Int) : Nat := (xss.length - i).toNat
def J1R (f : FuncId) (ds : List D) : Orc := bif Nat.beq f 121 then J0w ds else .no
def J1X (xss : ZR) (k : Int) : Ann := .two (.none) (.two (.two (.none) (.loop (cut2 (fun (k2 : Int) (i : Int) => Jv xss k k2 i) (fun (k2 : Int) (i : Int) => [(0, .d false (.sl (.rows xss))), (1, .d true (.int .i64 k2)), (5, .d true (.int .i64 i))]) (fun (k2 : Int) (i : Int) => [])) (fun g => Jm xss k g.1 g.2) (fun _ => .none))) (.none))
def J0C (xss : ZR) (k : Int) : Prop :=
  ((∃ k2' : Int, ∃ i' : Int, (Jv xss k k2' i') ∧ (xss = xss) ∧ (k = k2') ∧ ((0 : Int) = i')) ∧ (∀ k2 : Int, ∀ i : Int, (Jv xss k k2 i) → (((decide (i < (xss.length : Int))) = true → ((0 : Int) ≤ i) ∧ ((i : Int) < xss.length) ∧ (i.toNat < xss.length) ∧ (PC Try.prog 121 [.sl (.ints (xss.getD i.toNat [])), .int .i64 k2] (.one (.d (.int .i64 (k2 + ((xss.getD i.toNat []).length : Int)))))) ∧ (((decide ((k2 + ((xss.getD i.toNat []).length : Int)) < 0)) = true → ((((-1) : Int) = (k + (J1 xss : Int))))) ∧ ((decide ((k2 + ((xss.getD i.toNat []).length : Int)) < 0)) = false → (I6 (i + 1)) ∧ (∃ k2' : Int, ∃ i' : Int, (Jv xss k k2' i') ∧ (Jm xss k k2' i' < Jm xss k k2 i) ∧ (xss = xss) ∧ ((k2 + ((xss.getD i.toNat []).length : Int)) = k2') ∧ ((i + 1) = i'))))) ∧ ((decide (i < (xss.length : Int))) = false → ((k2 = (k + (J1 xss : Int))))))))
theorem J1M (xss : ZR) (k : Int) (hk : 0 ≤ k) (hx : xss = mkS k xss) (hn : k + (J1 xss : Int) ≤ 9223372036854775807) (w_xss : (xss.length : Int) ≤ 9223372036854775807) (v_xss : ∀ x9 ∈ xss, (x9.length : Int) ≤ 9223372036854775807) : J0C xss k := by
  unfold J0C
  refine ⟨?_, ?_⟩
  ·refine ⟨k, 0, ?_⟩
   refine ⟨?_, rfl, rfl, rfl⟩
   ·refine ⟨?_, ?_, ?_⟩
    ·first | omega | rfl | (intro hg; simp only [nrmT] at hg; omega) | (intro g1 g2; simp [g1, g2]; done) | (intro g1; simp at g1 ⊢; simp [g1]; done) | (simp only [nrmT] at *; omega) | (simp at * <;> omega) | (simp_all <;> omega) | (simp_all; done)
    ·first | omega | rfl | (intro hg; simp only [nrmT] at hg; omega) | (intro g1 g2; simp [g1, g2]; done) | (intro g1; simp at g1 ⊢; simp [g1]; done) | (simp only [nrmT] at *; omega) | (simp at * <;> omega) | (simp_all <;> omega) | (simp_all; done)
    ·simp [J1]
  intro k2 i hJ
  obtain ⟨h1, h2, h3⟩ := hJ
  refine ⟨?_, ?_⟩
  ·intro b1
   try simp only [nrmT] at b1
   refine ⟨?_, ?_, ?_, ?_, ?_, ?_⟩
   ·first | omega | rfl | (intro hg; simp only [nrmT] at hg; omega) | (intro g1 g2; simp [g1, g2]; done) | (intro g1; simp at g1 ⊢; simp [g1]; done) | (simp only [nrmT] at *; omega) | (simp at * <;> omega) | (simp_all <;> omega) | (simp_all; done)
   ·first | omega | rfl | (intro hg; simp only [nrmT] at hg; omega) | (intro g1 g2; simp [g1, g2]; done) | (intro g1; simp at g1 ⊢; simp [g1]; done) | (simp only [nrmT] at *; omega) | (simp at * <;> omega) | (simp_all <;> omega) | (simp_all; done)
   ·first | omega | rfl | (intro hg; simp only [nrmT] at hg; omega) | (intro g1 g2; simp [g1, g2]; done) | (intro g1; simp at g1 ⊢; simp [g1]; done) | (simp only [nrmT] at *; omega) | (simp at * <;> omega) | (simp_all <;> omega) | (simp_all; done)
   ·refine J0A (xss.getD i.toNat []) k2 ?_ ?_ ?_
    ·first | omega | rfl | (intro hg; simp only [nrmT] at hg; omega) | (intro g1 g2; simp [g1, g2]; done) | (intro g1; simp at g1 ⊢; simp [g1]; done) | (simp only [nrmT] at *; omega) | (simp at * <;> omega) | (simp_all <;> omega) | (simp_all; done)
    ·have h9 := J0t xss (i.toNat + 1)
     have h8 := J0c xss i.toNat (by omega)
     have h7 := J30 k xss i.toNat (by omega)
     rw [← hx] at h7
     rw [h3]
     exact h7
    ·have h9 := J0t xss (i.toNat + 1)
     have h8 := J0c xss i.toNat (by omega)
     omega
   ·intro b2
    try simp only [nrmT] at b2
    have h9 := J0t xss (i.toNat + 1)
    have h8 := J0c xss i.toNat (by omega)
    exfalso
    omega
   intro b3
   try simp only [nrmT] at b3
   refine ⟨?_, ?_⟩
   ·first | omega | rfl | (intro hg; simp only [nrmT] at hg; omega) | (intro g1 g2; simp [g1, g2]; done) | (intro g1; simp at g1 ⊢; simp [g1]; done) | (simp only [nrmT] at *; omega) | (simp at * <;> omega) | (simp_all <;> omega) | (simp_all; done)
   refine ⟨(k2 + ((xss.getD i.toNat []).length : Int)), (i + 1), ?_⟩
   refine ⟨?_, ?_, rfl, rfl, rfl⟩
   ·refine ⟨?_, ?_, ?_⟩
    ·first | omega | rfl | (intro hg; simp only [nrmT] at hg; omega) | (intro g1 g2; simp [g1, g2]; done) | (intro g1; simp at g1 ⊢; simp [g1]; done) | (simp only [nrmT] at *; omega) | (simp at * <;> omega) | (simp_all <;> omega) | (simp_all; done)
    ·first | omega | rfl | (intro hg; simp only [nrmT] at hg; omega) | (intro g1 g2; simp [g1, g2]; done) | (intro g1; simp at g1 ⊢; simp [g1]; done) | (simp only [nrmT] at *; omega) | (simp at * <;> omega) | (simp_all <;> omega) | (simp_all; done)
    ·have h9 := J0t xss (i.toNat + 1)
     have h8 := J0c xss i.toNat (by omega)
     rw [show (i + 1).toNat = i.toNat + 1 by omega]
     omega
   first | (show _ < _; omega) | (simp only [Jm]; omega) | (simp only [Jm] at *; simp at *; omega)
  intro b4
  try simp only [nrmT] at b4
  rw [h3, show i.toNat = xss.length by omega, List.take_length]
theorem J1G (xss : ZR) (k : Int) (hk : 0 ≤ k) (hx : xss = mkS k xss) (hn : k + (J1 xss : Int) ≤ 9223372036854775807) : PC Try.prog 50 [.sl (.rows xss), .int .i64 k] (.one (.d (.int .i64 (k + (J1 xss : Int))))) :=
  pc_wf @Try.call50 fun hw => pc_by (by kernel_rfl) Try.func50 @Try.call50 (by kernel_rfl) J1R (J1X xss k) (by kernel_rfl) (J1M xss k hk hx hn hw.1.1 hw.1.2) (by kernel_rfl)
def J1t : List D → Orc := orcN [some .rows, none] fun ds => match ds with
  | [.sl (.rows xss), .int .i64 k] => some (.one (.d (.int .i64 (k + (J1 xss : Int)))))
  | _ => none
theorem J1B {m : Nat} : ∀ {xss : ZR}, (∀ r ∈ xss, r.length ≤ m) → J1 xss ≤ xss.length * m
  | [], _ => Nat.zero_le _
  | x :: r, h => by
    have h1 := J1B (xss := r) fun y hy => h y (List.mem_cons_of_mem _ hy)
    have h2 := h x List.mem_cons_self
    have e : J1 (x :: r) = x.length + J1 r := by simp [J1]
    rw [e, List.length_cons, Nat.add_mul, Nat.one_mul]
    omega
theorem J0Y (w : World) (ob : Obj) : (w.alloc ob).heap.size = w.heap.size + 1 := Array.size_push _
theorem J2c (w : World) (ob : Obj) {b : Nat} (hb : b < w.heap.size) : (w.alloc ob).heap[b]? = w.heap[b]? := by
  show (w.heap.push ob)[b]? = _
  rw [Array.getElem?_push, if_neg (Nat.ne_of_lt hb)]
theorem J3B (w : World) (ob : Obj) : (w.alloc ob).heap[w.heap.size]? = some ob := by
  show (w.heap.push ob)[w.heap.size]? = _
  rw [Array.getElem?_push, if_pos rfl]
theorem MatOk.alloc {w : World} {p : Nm} {e eo : TypeId} {xss : ZR} (h : MatOk w p e eo xss none) (ob : Obj) : MatOk (w.alloc ob) p e eo xss none :=
  h.step fun b _ hlt => J2c w ob hlt
theorem MatOk.lt {w : World} {p : Nm} {e eo : TypeId} {xss : ZR} (h : MatOk w p e eo xss none) (b : Nat) (hb : blk (.mat e eo xss none) p b) : b < w.heap.size := by
  rcases hb with ⟨rfl, hp⟩ | ⟨i, hi, hh, rfl, hp⟩
  · obtain ⟨cur, h1, _⟩ := h.out
    exact (Array.getElem?_eq_some_iff.1 (h1 hp)).1
  obtain ⟨_, _, cur, h1, _⟩ := h.inn i hi hh
  exact (Array.getElem?_eq_some_iff.1 (h1 hp)).1
theorem J3A {w w1 : World} {p1 p2 : Nm} {e eo ei : TypeId} {xss : ZR} {ob : Obj} {cur : Array Value} (hm : MatOk w p1 e eo xss none) (hdis : ∀ b, blk (.mat e eo xss none) p1 b → ¬ (b = p2.1 ∧ 0 < p2.2))
    (hc2 : 0 < p2.2 → w.heap[p2.1]? = some (.cells cur ei (0, 0))) (b6 : ∀ b, b < (w.alloc ob).heap.size → ¬ blk (.mat e eo xss none) p1 b → w1.heap[b]? = (w.alloc ob).heap[b]?) :
    w1.heap[w.heap.size]? = some ob ∧ (0 < p2.2 → w1.heap[p2.1]? = some (.cells cur ei (0, 0))) := by
  refine ⟨?_, fun hp => ?_⟩
  · rw [b6 _ (by rw [J0Y]; omega) fun hb => Nat.lt_irrefl _ (hm.lt _ hb)]
    exact J3B w ob
  have hlt := (Array.getElem?_eq_some_iff.1 (hc2 hp)).1
  rw [b6 _ (by rw [J0Y]; omega) fun hb => hdis _ hb ⟨rfl, hp⟩, J2c w ob hlt]
  exact hc2 hp
theorem J0v (n0 : Int) (xss : ZR) (xs : ZI) (k : Int) (hk : 0 ≤ k) (hn : k + (J1 xss : Int) + (xs.length : Int) ≤ 9223372036854775807) : PWS Try.prog 28 3 26 3 n0 xss (mkS k xss) xs (J4 (k + (J1 xss : Int)) xs.length) k (k + (J1 xss : Int) + (xs.length : Int)) := by
  refine ⟨Try.call28, fun w v1 v2 p1 p2 cur hv1 hm hv2 hc2 hcap hsz hle hcont hdis => ?_⟩
  have hpm := J0x xss k hk (by omega)
  have hpw := J0d xs (k + (J1 xss : Int)) (by omega) (by omega)
  obtain ⟨ad1, cap1, rfl, had1⟩ := J1l hv1
  obtain ⟨ad2, cap2, rfl, had2⟩ := J1l hv2
  have hc1 := hpm.2 (w.alloc (.cells #[.int .i64 n0, .slice ad1 xss.length cap1, .slice ad2 xs.length cap2] 36)) _ p1 hv1 (hm.alloc _)
  clear hpm
  go_enter Try.func28, Try.ntmps28
  go_wp2_with (first | (go_at_call 49; refine hc1.mono ?_; rintro e w1 ⟨rfl, b1, b2, b3, b4, b5, b6, b7⟩; obtain ⟨m1, m2⟩ := J3A hm hdis hc2 b6; have hcell : w1.cell? ⟨w.heap.size, 2, none⟩ = some (.slice ad2 xs.length cap2) := (by rw [cell_of_row w1 _ _ _ _ _ m1]; rfl); have hcc := hpw.2 w1 (.slice ad2 xs.length cap2) p2.1 p2.2 cur hv2 m2 hcap hsz hle hcont; have A : Go.RowKit.Hid (w1.os = w.os ∧ w1.tape = w.tape ∧ w1.output = w.output ∧ (w.alloc (.cells #[.int .i64 n0, .slice ad1 xss.length cap1, .slice ad2 xs.length cap2] 36)).heap.size ≤ w1.heap.size ∧ w.drawn ≤ w1.drawn) := ⟨b1, b2, b3, b4, b5⟩; clear b1 b2 b3 b4 b5 m1 m2 hpw) | (go_at_call 48; refine hcc.mono ?_; rintro e w2 ⟨rfl, c1, c2, c3, c4, c5, c6, cur', c7, c8, c9⟩))
  go_ret
  obtain ⟨a1, a2, a3, a4, a5⟩ := A.out
  have hs1 : w.heap.size < w1.heap.size := by rw [J0Y] at a4; omega
  refine ⟨rfl, c1.trans a1, c2.trans a2, c3.trans a3, by omega, Nat.le_trans a5 c5, fun b hb hn1 hn2 => ?_, b7.step fun b hb hlt => c6 b hlt fun h2 => hdis b (by simp only [blk, JP] at hb ⊢; exact hb) h2, cur', c7, c8, c9⟩
  rw [c6 b (by omega) hn2, b6 b (by rw [J0Y]; omega) hn1, J2c w _ hb]
def J1E (f : FuncId) (ds : List D) : Orc := bif Nat.beq f 50 then J1t ds else bif Nat.beq f 121 then J0w ds else .no
def J1L (Size : Int) (Sets : ZR) (Costs : ZI) (k : Int) : Ann := .none
def J0u (Size : Int) (Sets : ZR) (Costs : ZI) (k : Int) : Prop :=
  (PC Try.prog 50 [.sl (.rows Sets), .int .i64 k] (.one (.d (.int .i64 (k + (J1 Sets : Int)))))) ∧ (((decide ((k + (J1 Sets : Int)) < 0)) = true → ((((-1) : Int) = (k + (J1 Sets : Int) + (Costs.length : Int))))) ∧ ((decide ((k + (J1 Sets : Int)) < 0)) = false → (PC Try.prog 121 [.sl (.ints Costs), .int .i64 (k + (J1 Sets : Int))] (.one (.d (.int .i64 ((k + (J1 Sets : Int)) + (Costs.length : Int)))))) ∧ (((decide (((k + (J1 Sets : Int)) + (Costs.length : Int)) < 0)) = true → ((((-1) : Int) = (k + (J1 Sets : Int) + (Costs.length : Int))))) ∧ ((decide (((k + (J1 Sets : Int)) + (Costs.length : Int)) < 0)) = false → ((((k + (J1 Sets : Int)) + (Costs.length : Int)) = (k + (J1 Sets : Int) + (Costs.length : Int))))))))
theorem J1v (Size : Int) (Sets : ZR) (Costs : ZI) (k : Int) (hk : 0 ≤ k) (hx : Sets = mkS k Sets) (hy : Costs = J4 (k + (J1 Sets : Int)) Costs.length) (hn : k + (J1 Sets : Int) + (Costs.length : Int) ≤ 9223372036854775807) (w_Sets : (Sets.length : Int) ≤ 9223372036854775807) (v_Sets : ∀ x9 ∈ Sets, (x9.length : Int) ≤ 9223372036854775807) (w_Costs : (Costs.length : Int) ≤ 9223372036854775807) : J0u Size Sets Costs k := by
  unfold J0u
  refine ⟨?_, ?_, ?_⟩
  ·refine J1G Sets k ?_ ?_ ?_
   ·first | omega | rfl | (intro hg; simp only [nrmT] at hg; omega) | (intro g1 g2; simp [g1, g2]; done) | (intro g1; simp at g1 ⊢; simp [g1]; done) | (simp only [nrmT] at *; omega) | (simp at * <;> omega) | (simp_all <;> omega) | (simp_all; done)
   ·exact hx
   ·first | omega | rfl | (intro hg; simp only [nrmT] at hg; omega) | (intro g1 g2; simp [g1, g2]; done) | (intro g1; simp at g1 ⊢; simp [g1]; done) | (simp only [nrmT] at *; omega) | (simp at * <;> omega) | (simp_all <;> omega) | (simp_all; done)
  ·intro b1
   try simp only [nrmT] at b1
   exfalso
   omega
  intro b2
  try simp only [nrmT] at b2
  refine ⟨?_, ?_, ?_⟩
  ·refine J0A Costs (k + (J1 Sets : Int)) ?_ ?_ ?_
   ·first | omega | rfl | (intro hg; simp only [nrmT] at hg; omega) | (intro g1 g2; simp [g1, g2]; done) | (intro g1; simp at g1 ⊢; simp [g1]; done) | (simp only [nrmT] at *; omega) | (simp at * <;> omega) | (simp_all <;> omega) | (simp_all; done)
   ·exact hy
   ·first | omega | rfl | (intro hg; simp only [nrmT] at hg; omega) | (intro g1 g2; simp [g1, g2]; done) | (intro g1; simp at g1 ⊢; simp [g1]; done) | (simp only [nrmT] at *; omega) | (simp at * <;> omega) | (simp_all <;> omega) | (simp_all; done)
  ·intro b3
   try simp only [nrmT] at b3
   exfalso
   omega
  intro b4
  try simp only [nrmT] at b4
  first | omega | rfl | (intro hg; simp only [nrmT] at hg; omega) | (intro g1 g2; simp [g1, g2]; done) | (intro g1; simp at g1 ⊢; simp [g1]; done) | (simp only [nrmT] at *; omega) | (simp at * <;> omega) | (simp_all <;> omega) | (simp_all; done)
theorem J0q (Size : Int) (Sets : ZR) (Costs : ZI) (k : Int) (hk : 0 ≤ k) (hx : Sets = mkS k Sets) (hy : Costs = J4 (k + (J1 Sets : Int)) Costs.length) (hn : k + (J1 Sets : Int) + (Costs.length : Int) ≤ 9223372036854775807) : PC Try.prog 29 [.agg [.int .i64 Size, .sl (.rows Sets), .sl (.ints Costs)], .int .i64 k] (.one (.d (.int .i64 (k + (J1 Sets : Int) + (Costs.length : Int))))) :=
  pc_wf @Try.call29 fun hw => pc_by (by kernel_rfl) Try.func29 @Try.call29 (by kernel_rfl) J1E (J1L Size Sets Costs k) (by kernel_rfl) (J1v Size Sets Costs k hk hx hy hn hw.1.2.1.1 hw.1.2.1.2 hw.1.2.2.1) (by kernel_rfl)
def J1k : List D → Orc := orcN [none, none] fun ds => match ds with
  | [.agg [.int .i64 Size, .sl (.rows Sets), .sl (.ints Costs)], .int .i64 k] => some (.one (.d (.int .i64 (k + (J1 Sets : Int) + (Costs.length : Int)))))
  | _ => none
theorem J3q {l : ZI} {lo hi : Int} (ha : Asc l) (hb : ∀ x ∈ l, lo ≤ x ∧ x ≤ hi) : J28 l lo hi = true :=
  allTo_iff.2 fun k hk => by
    unfold J32
    rw [Bool.and_eq_true, Bool.or_eq_true]
    refine ⟨decide_eq_true (hb _ (getD_mem hk)), ?_⟩
    by_cases e : k = 0
    · exact .inl (decide_eq_true e)
    right
    have := List.pairwise_iff_getElem.1 ha (k - 1) k (by omega) hk (by omega)
    rw [J2a hk, J2a (by omega)]
    exact decide_eq_true this
/-- The clients that a site reaches. -/
def J3h (D : ZR) (r : Int) (a : Nat) : ZI := members (fun i => decide ((D.getD i []).getD a 0 ≤ r)) D.length
def rsL (n : Nat) (D : ZR) (r : Int) : ZR := tabTo (J3h D r) n
def rsB (O : ZI) (D : ZR) (r : Int) : Bool := J0 O D && inB r 0 99
def rsZ (O : ZI) (D : ZR) (r : Int) : Int := if rsB O D r = true then (D.length : Int) else 0
def rsS (O : ZI) (D : ZR) (r : Int) : ZR := if rsB O D r = true then rsL O.length D r else []
def rsK (O : ZI) (D : ZR) (r : Int) : ZI := if rsB O D r = true then List.replicate O.length 1 else []
theorem J3z (D : ZR) (r : Int) (a : Nat) : (J3h D r a).length ≤ D.length := members_len_le _ _
theorem J22 {α : Type} (n : Nat) (x : α) : List.replicate n x ++ [x] = List.replicate (n + 1) x := by
  rw [List.replicate_succ']
theorem J3y {O : ZI} {D : ZR} {r : Int} (hb : rsB O D r = true) : J31 (rsZ O D r) (rsS O D r) (rsK O D r) = true ∧ (rsS O D r).length = O.length ∧ J0 O D = true ∧ 0 ≤ r := by
  have eZ : rsZ O D r = (D.length : Int) := by unfold rsZ; rw [if_pos hb]
  have eS : rsS O D r = rsL O.length D r := by unfold rsS; rw [if_pos hb]
  have eK : rsK O D r = List.replicate O.length 1 := by unfold rsK; rw [if_pos hb]
  obtain ⟨hg, hr⟩ := (Bool.and_eq_true _ _ ▸ (show (J0 O D && inB r 0 99) = true from hb) : _ ∧ _)
  obtain ⟨g1, g2, g3⟩ := JO hg
  have hl : (rsL O.length D r).length = O.length := tabTo_len _ _
  refine ⟨?_, by rw [eS]; exact hl, hg, (J2m hr).1⟩
  rw [eZ, eS, eK]
  unfold J31
  have h1 : inB (D.length : Int) 0 8 = true := by unfold inB; simp; omega
  have h2 : (List.replicate O.length (1 : Int)).all (fun x => inB x 1 99) = true := by
    rw [List.all_eq_true]
    intro x hx
    rw [(List.mem_replicate.1 hx).2]; decide
  have h3 : (rsL O.length D r).all (fun xs => J28 xs 0 ((D.length : Int) - 1)) = true := by
    rw [List.all_eq_true]
    intro x hx
    obtain ⟨a, _, rfl⟩ := List.mem_map.1 hx
    refine J3q (asc_members _ _) fun y hy => ?_
    have := mem_members.1 hy
    omega
  rw [h1, h2, h3, hl]
  simp
  omega
abbrev JJ (U : ZI) (E : ZR) (r : Int) (a : Int) (sz : Int) (sets : ZR) (costs : ZI) : Prop := (sz = (E.length : Int)) ∧ (0 ≤ a) ∧ (a ≤ (U.length : Int)) ∧ (sets = tabTo (J3h E r) a.toNat) ∧ (costs = List.replicate a.toNat 1)
abbrev JG (U : ZI) (E : ZR) (r : Int) (a : Int) (sz : Int) (sets : ZR) (costs : ZI) : Nat := (U.length - a).toNat
abbrev Js (U : ZI) (E : ZR) (r : Int) (a : Int) (sz : Int) (sets : ZR) (costs : ZI) (own : ZI) (i : Int) : Prop := (0 ≤ i) ∧ (i ≤ (E.length : Int)) ∧ (own = members (fun k9 => decide ((E.getD k9 []).getD a.toNat 0 ≤ r)) i.toNat)
abbrev Jh (U : ZI) (E : ZR) (r : Int) (a : Int) (sz : Int) (sets : ZR) (costs : ZI) (own : ZI) (i : Int) : Nat := (E.length - i).toNat
def J2P (f : FuncId) (ds : List D) : Orc := .no
def J2T (U : ZI) (E : ZR) (r : Int) : Ann := .two (.none) (.two (.none) (.two (.two (.none) (.loop (cut4 (fun (a : Int) (sz : Int) (sets : ZR) (costs : ZI) => JJ U E r a sz sets costs) (fun (a : Int) (sz : Int) (sets : ZR) (costs : ZI) => [(1, .d false (.int .i64 r)), (2, .ptr 2 0), (4, .ptr 4 0), (5, .ptr 5 0), (6, .d true (.int .i64 a))]) (fun (a : Int) (sz : Int) (sets : ZR) (costs : ZI) => [(2, .box 39 [.d false (.sl (.ints U)), .d false (.sl (.rows E))]), (4, .box 36 [.d true (.int .i64 0), .d true (.nil), .d true (.nil)]), (1000002, .mat 3 26 sets none), (1000003, .arr true 3 (.ints costs)), (5, .box 36 [.d true (.int .i64 sz), .own 1000002 sets.length, .own 1000003 costs.length])])) (fun g => JG U E r g.1 g.2.1 g.2.2.1 g.2.2.2) (fun g => (fun (a : Int) (sz : Int) (sets : ZR) (costs : ZI) => .two (.none) (.two (.two (.none) (.two (.two (.none) (.loop (cut2 (fun (own : ZI) (i : Int) => Js U E r a sz sets costs own i) (fun (own : ZI) (i : Int) => [(1, .d false (.int .i64 r)), (2, .ptr 2 0), (4, .ptr 4 0), (5, .ptr 5 0), (6, .d true (.int .i64 a)), (7, .own 1000100 own.length), (8, .d true (.int .i64 i))]) (fun (own : ZI) (i : Int) => [(1000100, .arr true 3 (.ints own)), (2, .box 39 [.d false (.sl (.ints U)), .d false (.sl (.rows E))]), (4, .box 36 [.d true (.int .i64 0), .d true (.nil), .d true (.nil)]), (5, .box 36 [.d true (.int .i64 sz), .own 1000002 sets.length, .own 1000003 costs.length]), (1000002, .mat 3 26 sets none), (1000003, .arr true 3 (.ints costs))])) (fun g => Jh U E r a sz sets costs g.1 g.2) (fun _ => .none))) (.none))) (.none))) (g.1) (g.2.1) (g.2.2.1) (g.2.2.2)))) (.none)))
def J1d (U : ZI) (E : ZR) (r : Int) : Prop :=
  ((∃ a' : Int, ∃ sz' : Int, ∃ sets' : ZR, ∃ costs' : ZI, (JJ U E r a' sz' sets' costs') ∧ (r = r) ∧ ((0 : Int) = a') ∧ (U = U) ∧ (E = E) ∧ ((0 : Int) = 0) ∧ ((0 : Nat) = 0) ∧ ((sets').length = 0) ∧ ([] = costs') ∧ ((E.length : Int) = sz') ∧ ((0 : Nat) = sets'.length) ∧ ((0 : Nat) = costs'.length)) ∧ (∀ a : Int, ∀ sz : Int, ∀ sets : ZR, ∀ costs : ZI, (JJ U E r a sz sets costs) → (((decide (a < (U.length : Int))) = true → ((∃ own' : ZI, ∃ i' : Int, (Js U E r a sz sets costs own' i') ∧ (r = r) ∧ (a = a) ∧ ((0 : Nat) = own'.length) ∧ ((0 : Int) = i') ∧ ([] = own') ∧ (U = U) ∧ (E = E) ∧ ((0 : Int) = 0) ∧ (sz = sz) ∧ (sets.length = sets.length) ∧ (costs.length = costs.length) ∧ (sets = sets) ∧ (costs = costs)) ∧ (∀ own : ZI, ∀ i : Int, (Js U E r a sz sets costs own i) → (((decide (i < (E.length : Int))) = true → ((0 : Int) ≤ i) ∧ ((i : Int) < E.length) ∧ (i.toNat < E.length) ∧ ((0 : Int) ≤ a) ∧ ((a : Int) < (E.getD i.toNat []).length) ∧ (a.toNat < (E.getD i.toNat []).length) ∧ (((decide (((E.getD i.toNat []).getD a.toNat 0) ≤ r)) = true → (own.length = own.length) ∧ ((1 : Nat) = 1) ∧ ((own.length + 1) * 8 ≤ 140737488355328) ∧ (I6 (i + 1)) ∧ (∃ own' : ZI, ∃ i' : Int, (Js U E r a sz sets costs own' i') ∧ (Jh U E r a sz sets costs own' i' < Jh U E r a sz sets costs own i) ∧ (r = r) ∧ (a = a) ∧ ((own.length + 1) = own'.length) ∧ ((i + 1) = i') ∧ ((own ++ [i]) = own') ∧ (U = U) ∧ (E = E) ∧ ((0 : Int) = 0) ∧ (sz = sz) ∧ (sets.length = sets.length) ∧ (costs.length = costs.length) ∧ (sets = sets) ∧ (costs = costs))) ∧ ((decide (((E.getD i.toNat []).getD a.toNat 0) ≤ r)) = false → (I6 (i + 1)) ∧ (∃ own' : ZI, ∃ i' : Int, (Js U E r a sz sets costs own' i') ∧ (Jh U E r a sz sets costs own' i' < Jh U E r a sz sets costs own i) ∧ (r = r) ∧ (a = a) ∧ (own.length = own'.length) ∧ ((i + 1) = i') ∧ (own = own') ∧ (U = U) ∧ (E = E) ∧ ((0 : Int) = 0) ∧ (sz = sz) ∧ (sets.length = sets.length) ∧ (costs.length = costs.length) ∧ (sets = sets) ∧ (costs = costs))))) ∧ ((decide (i < (E.length : Int))) = false → (own.length = own.length) ∧ (sets.length = sets.length) ∧ ((1 : Nat) = 1) ∧ (0 < 1) ∧ ((sets.length + 1) * 24 ≤ 140737488355328) ∧ (costs.length = costs.length) ∧ ((1 : Nat) = 1) ∧ ((costs.length + 1) * 8 ≤ 140737488355328) ∧ (I6 (a + 1)) ∧ (∃ a' : Int, ∃ sz' : Int, ∃ sets' : ZR, ∃ costs' : ZI, (JJ U E r a' sz' sets' costs') ∧ (JG U E r a' sz' sets' costs' < JG U E r a sz sets costs) ∧ (r = r) ∧ ((a + 1) = a') ∧ (U = U) ∧ (E = E) ∧ ((0 : Int) = 0) ∧ ((sets ++ [own]) = sets') ∧ ((costs ++ [1]) = costs') ∧ (sz = sz') ∧ ((sets.length + 1) = sets'.length) ∧ ((costs.length + 1) = costs'.length))))))) ∧ ((decide (a < (U.length : Int))) = false → ((sets.length = sets.length) ∧ (costs.length = costs.length) ∧ ((.agg [.int .i64 sz, .sl (.rows sets), .sl (.ints costs)] : D) = .agg [.int .i64 (E.length : Int), .sl (.rows (rsL U.length E r)), .sl (.ints (List.replicate U.length 1))]))))))
theorem J2f (U : ZI) (E : ZR) (r : Int) (hg : J0 U E = true) (w_Open : (U.length : Int) ≤ 9223372036854775807) (w_Dist : (E.length : Int) ≤ 9223372036854775807) (v_Dist : ∀ x9 ∈ E, (x9.length : Int) ≤ 9223372036854775807) : J1d U E r := by
  unfold J1d
  refine ⟨?_, ?_⟩
  ·refine ⟨0, (E.length : Int), ([]), ([]), ?_⟩
   refine ⟨?_, rfl, rfl, rfl, rfl, rfl, rfl, ?_, ?_, rfl, rfl, rfl⟩
   ·refine ⟨?_, ?_, ?_, ?_, ?_⟩
    ·omega
    ·omega
    ·omega
    ·rfl
    ·rfl
   ·rfl
   rfl
  intro a sz sets costs hJ
  obtain ⟨h0, h1, h2, h3, h4⟩ := hJ
  refine ⟨?_, ?_⟩
  ·intro b1
   try simp only [nrmT] at b1
   refine ⟨?_, ?_⟩
   ·refine ⟨([]), 0, ?_⟩
    refine ⟨?_, rfl, rfl, rfl, rfl, ?_, rfl, rfl, rfl, rfl, rfl, rfl, rfl, rfl⟩
    ·refine ⟨?_, ?_, ?_⟩
     ·omega
     ·omega
     ·rfl
    rfl
   intro own i hJ
   obtain ⟨h5, h6, h7⟩ := hJ
   refine ⟨?_, ?_⟩
   ·intro b2
    try simp only [nrmT] at b2
    refine ⟨?_, ?_, ?_, ?_, ?_, ?_, ?_, ?_⟩
    ·omega
    ·omega
    ·omega
    ·omega
    ·have hr := J1q hg (i := i.toNat) (by omega)
     omega
    ·have hr := J1q hg (i := i.toNat) (by omega)
     omega
    ·intro b3
     try simp only [nrmT] at b3
     refine ⟨rfl, rfl, ?_, ?_, ?_⟩
     ·obtain ⟨g1, g2, g3⟩ := JO hg
      have := members_len_le (fun k9 => decide ((E.getD k9 []).getD a.toNat 0 ≤ r)) i.toNat
      rw [← h7] at this
      omega
     ·omega
     refine ⟨(own ++ [i]), (i + 1), ?_⟩
     refine ⟨?_, ?_, rfl, rfl, ?_, rfl, rfl, rfl, rfl, rfl, rfl, rfl, rfl, rfl, rfl⟩
     ·refine ⟨?_, ?_, ?_⟩
      ·omega
      ·omega
      ·rw [show (i + 1).toNat = i.toNat + 1 by omega, members_succ, if_pos (decide_eq_true b3), ← h7, show ((i.toNat : Nat) : Int) = i by omega]
     ·(simp only [Jh]; omega)
     simp
    intro b4
    try simp only [nrmT] at b4
    refine ⟨?_, ?_⟩
    ·omega
    refine ⟨own, (i + 1), ?_⟩
    refine ⟨?_, ?_, rfl, rfl, rfl, rfl, rfl, rfl, rfl, rfl, rfl, rfl, rfl, rfl, rfl⟩
    ·refine ⟨?_, ?_, ?_⟩
     ·omega
     ·omega
     ·rw [show (i + 1).toNat = i.toNat + 1 by omega, members_succ, if_neg (by rw [decide_eq_false (by omega)]; decide), List.append_nil, ← h7]
    (simp only [Jh]; omega)
   intro b5
   try simp only [nrmT] at b5
   refine ⟨rfl, rfl, rfl, by decide, ?_, rfl, rfl, ?_, ?_, ?_⟩
   ·obtain ⟨g1, g2, g3⟩ := JO hg
    rw [h3, tabTo_len]; omega
   ·obtain ⟨g1, g2, g3⟩ := JO hg
    rw [h4, List.length_replicate]; omega
   ·omega
   refine ⟨(a + 1), sz, (sets ++ [own]), (costs ++ [1]), ?_⟩
   refine ⟨?_, ?_, rfl, rfl, rfl, rfl, rfl, rfl, rfl, rfl, ?_, ?_⟩
   ·refine ⟨?_, ?_, ?_, ?_, ?_⟩
    ·omega
    ·omega
    ·omega
    ·rw [show (a + 1).toNat = a.toNat + 1 by omega, tabTo_succ, ← h3, h7, show i.toNat = E.length by omega]; rfl
    ·rw [show (a + 1).toNat = a.toNat + 1 by omega, h4, J22]
   ·(simp only [JG]; omega)
   ·simp
   simp
  intro b6
  try simp only [nrmT] at b6
  refine ⟨rfl, rfl, ?_⟩
  ·rw [h0, h3, h4, show a.toNat = U.length by omega]; rfl
theorem J27 (U : ZI) (E : ZR) (r : Int) (hg : J0 U E = true) : PC Try.prog 117 [.agg [.sl (.ints U), .sl (.rows E)], .int .i64 r] (.one (.d (.agg [.int .i64 (E.length : Int), .sl (.rows (rsL U.length E r)), .sl (.ints (List.replicate U.length 1))]))) :=
  pc_wf @Try.call117 fun hw => pc_by (by kernel_rfl) Try.func117 @Try.call117 (by kernel_rfl) J2P (J2T U E r) (by kernel_rfl) (J2f U E r hg hw.1.1 hw.1.2.1.1 hw.1.2.1.2) (by kernel_rfl)
def J1V : List D → Orc := orcN [none, none] fun ds => match ds with
  | [.agg [.sl (.ints U), .sl (.rows E)], .int .i64 r] => some (.one (.d (.agg [.int .i64 (E.length : Int), .sl (.rows (rsL U.length E r)), .sl (.ints (List.replicate U.length 1))])))
  | _ => none
def J1u (f : FuncId) (ds : List D) : Orc := bif Nat.beq f 115 then J2o ds else bif Nat.beq f 116 then J0y ds else bif Nat.beq f 117 then J1V ds else .no
def J1z (U : ZI) (E : ZR) (r : Int) : Ann := .none
def J0p (U : ZI) (E : ZR) (r : Int) : Prop :=
  (PC Try.prog 115 [.agg [.sl (.ints U), .sl (.rows E)]] (.one (.d (.bool (J0 U E))))) ∧ ((!(!(J0 U E))) = true → (!(!(J0 U E))) = true) ∧ ((!(!(J0 U E))) = true → PC Try.prog 116 [.int .i64 r, .int .i64 0, .int .i64 99] (.one (.d (.bool (inB r 0 99))))) ∧ ((!(!(J0 U E))) = true → (!(!(J0 U E))) = true) ∧ (true = true) ∧ (((!(J0 U E)) = true → true = true)) ∧ (((!(J0 U E)) = false → (!(!(J0 U E))) = true)) ∧ (((cond (!(J0 U E)) true (!(inB r 0 99))) = true → (((0 : Int) = rsZ U E r) ∧ ((rsS U E r).length = 0) ∧ ((rsK U E r).length = 0) ∧ (false = (rsB U E r)))) ∧ ((cond (!(J0 U E)) true (!(inB r 0 99))) = false → (PC Try.prog 117 [.agg [.sl (.ints U), .sl (.rows E)], .int .i64 r] (.one (.d (.agg [.int .i64 (E.length : Int), .sl (.rows (rsL U.length E r)), .sl (.ints (List.replicate U.length 1))])))) ∧ (((.agg [.int .i64 (E.length : Int), .sl (.rows (rsL U.length E r)), .sl (.ints (List.replicate U.length 1))] : D) = .agg [.int .i64 (rsZ U E r), .sl (.rows (rsS U E r)), .sl (.ints (rsK U E r))]) ∧ (true = (rsB U E r)))))
theorem J1j (U : ZI) (E : ZR) (r : Int)  (w_Open : (U.length : Int) ≤ 9223372036854775807) (w_Dist : (E.length : Int) ≤ 9223372036854775807) (v_Dist : ∀ x9 ∈ E, (x9.length : Int) ≤ 9223372036854775807) : J0p U E r := by
  unfold J0p
  refine ⟨J2U U E, id, fun _ => J0M r 0 99, id, rfl, fun _ => rfl, ?_, ?_, ?_⟩
  ·intro h; rw [h]; rfl
  ·intro b1
   refine ⟨?_, ?_, ?_, ?_⟩
   ·have hq : (J0 U E && inB r 0 99) = false := by
      revert b1; cases J0 U E <;> cases inB r 0 99 <;> simp
    (unfold rsZ rsB; rw [hq]; rfl)
   ·have hq : (J0 U E && inB r 0 99) = false := by
      revert b1; cases J0 U E <;> cases inB r 0 99 <;> simp
    (unfold rsS rsB; rw [hq]; rfl)
   ·have hq : (J0 U E && inB r 0 99) = false := by
      revert b1; cases J0 U E <;> cases inB r 0 99 <;> simp
    (unfold rsK rsB; rw [hq]; rfl)
   have hq : (J0 U E && inB r 0 99) = false := by
     revert b1; cases J0 U E <;> cases inB r 0 99 <;> simp
   exact hq.symm
  intro b2
  refine ⟨?_, ?_, ?_⟩
  ·refine J27 U E r ?_
   ·have hq : J0 U E = true ∧ inB r 0 99 = true := by
      revert b2; cases J0 U E <;> cases inB r 0 99 <;> simp
    have hg := hq.1
    exact hg
  ·have hq : J0 U E = true ∧ inB r 0 99 = true := by
     revert b2; cases J0 U E <;> cases inB r 0 99 <;> simp
   have hg := hq.1
   have hb : rsB U E r = true := by unfold rsB; rw [hq.1, hq.2]; rfl
   unfold rsZ rsS rsK
   rw [if_pos hb, if_pos hb, if_pos hb]
   try rw [h0, h3, h4, show a.toNat = U.length by omega]
   try rfl
  have hq : J0 U E = true ∧ inB r 0 99 = true := by
    revert b2; cases J0 U E <;> cases inB r 0 99 <;> simp
  have hg := hq.1
  unfold rsB; rw [hq.1, hq.2]; rfl
theorem J1m (U : ZI) (E : ZR) (r : Int)  : PC Try.prog 22 [.agg [.sl (.ints U), .sl (.rows E)], .int .i64 r] (.tup [.d (.agg [.int .i64 (rsZ U E r), .sl (.rows (rsS U E r)), .sl (.ints (rsK U E r))]), .d (.bool (rsB U E r))]) :=
  pc_wf @Try.call22 fun hw => pc_by (by kernel_rfl) Try.func22 @Try.call22 (by kernel_rfl) J1u (J1z U E r) (by kernel_rfl) (J1j U E r hw.1.1 hw.1.2.1.1 hw.1.2.1.2) (by kernel_rfl)
def J11 : List D → Orc := orcN [none, none] fun ds => match ds with
  | [.agg [.sl (.ints U), .sl (.rows E)], .int .i64 r] => some (.tup [.d (.agg [.int .i64 (rsZ U E r), .sl (.rows (rsS U E r)), .sl (.ints (rsK U E r))]), .d (.bool (rsB U E r))])
  | _ => none
abbrev Jg (U : ZI) (E : ZR) (r : Int) (a : Int) (sz : Int) (sets : ZR) (costs : ZI) : Prop := (sz = (E.length : Int)) ∧ (0 ≤ a) ∧ (a ≤ (U.length : Int)) ∧ (sets = tabTo (J3h E r) a.toNat) ∧ (costs = List.replicate a.toNat 1)
abbrev Je (U : ZI) (E : ZR) (r : Int) (a : Int) (sz : Int) (sets : ZR) (costs : ZI) : Nat := (U.length - a).toNat
abbrev Jd (U : ZI) (E : ZR) (r : Int) (a : Int) (sz : Int) (sets : ZR) (costs : ZI) (own : ZI) (i : Int) : Prop := (0 ≤ i) ∧ (i ≤ (E.length : Int)) ∧ (own = members (fun k9 => decide ((E.getD k9 []).getD a.toNat 0 ≤ r)) i.toNat)
abbrev J5 (U : ZI) (E : ZR) (r : Int) (a : Int) (sz : Int) (sets : ZR) (costs : ZI) (own : ZI) (i : Int) : Nat := (E.length - i).toNat
def J0H (f : FuncId) (ds : List D) : Orc := bif Nat.beq f 119 then J1Q ds else bif Nat.beq f 120 then J0g ds else .no
def J0I (U : ZI) (E : ZR) (r : Int) : Ann := .two (.none) (.two (.none) (.two (.none) (.two (.two (.none) (.loop (cut4 (fun (a : Int) (sz : Int) (sets : ZR) (costs : ZI) => Jg U E r a sz sets costs) (fun (a : Int) (sz : Int) (sets : ZR) (costs : ZI) => [(1, .d false (.int .i64 r)), (2, .ptr 2 0), (4, .ptr 4 0), (6, .ptr 6 0), (26, .d true (.int .i64 (U.length : Int))), (27, .d true (.int .i64 a))]) (fun (a : Int) (sz : Int) (sets : ZR) (costs : ZI) => [(2, .box 39 [.d false (.sl (.ints U)), .d false (.sl (.rows E))]), (4, .box 36 [.d true (.int .i64 0), .d true (.nil), .d true (.nil)]), (1000002, .mat 3 26 sets none), (1000003, .arr true 3 (.ints costs)), (6, .box 36 [.d true (.int .i64 sz), .own 1000002 sets.length, .own 1000003 costs.length])])) (fun g => Je U E r g.1 g.2.1 g.2.2.1 g.2.2.2) (fun g => (fun (a : Int) (sz : Int) (sets : ZR) (costs : ZI) => .two (.none) (.two (.none) (.two (.two (.none) (.two (.none) (.two (.two (.none) (.loop (cut2 (fun (own : ZI) (i : Int) => Jd U E r a sz sets costs own i) (fun (own : ZI) (i : Int) => [(1, .d false (.int .i64 r)), (2, .ptr 2 0), (4, .ptr 4 0), (6, .ptr 6 0), (7, .d true (.int .i64 a)), (8, .own 1000100 own.length), (26, .d true (.int .i64 (U.length : Int))), (27, .d true (.int .i64 a)), (32, .d false (.sl (.rows E))), (33, .d true (.int .i64 (E.length : Int))), (34, .d true (.int .i64 i))]) (fun (own : ZI) (i : Int) => [(1000100, .arr true 3 (.ints own)), (2, .box 39 [.d false (.sl (.ints U)), .d false (.sl (.rows E))]), (4, .box 36 [.d true (.int .i64 0), .d true (.nil), .d true (.nil)]), (6, .box 36 [.d true (.int .i64 sz), .own 1000002 sets.length, .own 1000003 costs.length]), (1000002, .mat 3 26 sets none), (1000003, .arr true 3 (.ints costs))])) (fun g => J5 U E r a sz sets costs g.1 g.2) (fun _ => .none))) (.none)))) (.none)))) (g.1) (g.2.1) (g.2.2.1) (g.2.2.2)))) (.none))))
def J06 (U : ZI) (E : ZR) (r : Int) : Prop :=
  (PC Try.prog 119 [.agg [.sl (.ints U), .sl (.rows E)]] (.one (.d (.bool (J0 U E))))) ∧ ((!(!(J0 U E))) = true → (!(!(J0 U E))) = true) ∧ ((!(!(J0 U E))) = true → PC Try.prog 120 [.int .i64 r, .int .i64 0, .int .i64 99] (.one (.d (.bool (inB r 0 99))))) ∧ ((!(!(J0 U E))) = true → (!(!(J0 U E))) = true) ∧ (true = true) ∧ (((!(J0 U E)) = true → true = true)) ∧ (((!(J0 U E)) = false → (!(!(J0 U E))) = true)) ∧ (((cond (!(J0 U E)) true (!(inB r 0 99))) = true → (((0 : Int) = (rsZ U E r)) ∧ ((rsS U E r).length = 0) ∧ ((rsK U E r).length = 0) ∧ (false = (rsB U E r)))) ∧ ((cond (!(J0 U E)) true (!(inB r 0 99))) = false → ((∃ a' : Int, ∃ sz' : Int, ∃ sets' : ZR, ∃ costs' : ZI, (Jg U E r a' sz' sets' costs') ∧ (r = r) ∧ ((U.length : Int) = (U.length : Int)) ∧ ((0 : Int) = a') ∧ (U = U) ∧ (E = E) ∧ ((0 : Int) = 0) ∧ ((sets').length = 0) ∧ ((costs').length = 0) ∧ ((E.length : Int) = sz') ∧ ((0 : Nat) = sets'.length) ∧ ((0 : Nat) = costs'.length)) ∧ (∀ a : Int, ∀ sz : Int, ∀ sets : ZR, ∀ costs : ZI, (Jg U E r a sz sets costs) → (((decide (a < (U.length : Int))) = true → ((∃ own' : ZI, ∃ i' : Int, (Jd U E r a sz sets costs own' i') ∧ (r = r) ∧ (a = a) ∧ ((0 : Nat) = own'.length) ∧ ((U.length : Int) = (U.length : Int)) ∧ (a = a) ∧ (E = E) ∧ ((E.length : Int) = (E.length : Int)) ∧ ((0 : Int) = i') ∧ ([] = own') ∧ (U = U) ∧ (E = E) ∧ ((0 : Int) = 0) ∧ (sz = sz) ∧ (sets.length = sets.length) ∧ (costs.length = costs.length) ∧ (sets = sets) ∧ (costs = costs)) ∧ (∀ own : ZI, ∀ i : Int, (Jd U E r a sz sets costs own i) → (((decide (i < (E.length : Int))) = true → ((0 : Int) ≤ i) ∧ ((i : Int) < E.length) ∧ (i.toNat < E.length) ∧ ((0 : Int) ≤ a) ∧ ((a : Int) < (E.getD i.toNat []).length) ∧ (a.toNat < (E.getD i.toNat []).length) ∧ (((decide (((E.getD i.toNat []).getD a.toNat 0) ≤ r)) = true → (own.length = own.length) ∧ ((1 : Nat) = 1) ∧ ((own.length + 1) * 8 ≤ 140737488355328) ∧ (I6 (i + 1)) ∧ (∃ own' : ZI, ∃ i' : Int, (Jd U E r a sz sets costs own' i') ∧ (J5 U E r a sz sets costs own' i' < J5 U E r a sz sets costs own i) ∧ (r = r) ∧ (a = a) ∧ ((own.length + 1) = own'.length) ∧ ((U.length : Int) = (U.length : Int)) ∧ (a = a) ∧ (E = E) ∧ ((E.length : Int) = (E.length : Int)) ∧ ((i + 1) = i') ∧ ((own ++ [i]) = own') ∧ (U = U) ∧ (E = E) ∧ ((0 : Int) = 0) ∧ (sz = sz) ∧ (sets.length = sets.length) ∧ (costs.length = costs.length) ∧ (sets = sets) ∧ (costs = costs))) ∧ ((decide (((E.getD i.toNat []).getD a.toNat 0) ≤ r)) = false → (I6 (i + 1)) ∧ (∃ own' : ZI, ∃ i' : Int, (Jd U E r a sz sets costs own' i') ∧ (J5 U E r a sz sets costs own' i' < J5 U E r a sz sets costs own i) ∧ (r = r) ∧ (a = a) ∧ (own.length = own'.length) ∧ ((U.length : Int) = (U.length : Int)) ∧ (a = a) ∧ (E = E) ∧ ((E.length : Int) = (E.length : Int)) ∧ ((i + 1) = i') ∧ (own = own') ∧ (U = U) ∧ (E = E) ∧ ((0 : Int) = 0) ∧ (sz = sz) ∧ (sets.length = sets.length) ∧ (costs.length = costs.length) ∧ (sets = sets) ∧ (costs = costs))))) ∧ ((decide (i < (E.length : Int))) = false → (true = true) ∧ (own.length = own.length) ∧ (sets.length = sets.length) ∧ ((1 : Nat) = 1) ∧ (0 < 1) ∧ ((sets.length + 1) * 24 ≤ 140737488355328) ∧ (costs.length = costs.length) ∧ ((1 : Nat) = 1) ∧ ((costs.length + 1) * 8 ≤ 140737488355328) ∧ (I6 (a + 1)) ∧ (∃ a' : Int, ∃ sz' : Int, ∃ sets' : ZR, ∃ costs' : ZI, (Jg U E r a' sz' sets' costs') ∧ (Je U E r a' sz' sets' costs' < Je U E r a sz sets costs) ∧ (r = r) ∧ ((U.length : Int) = (U.length : Int)) ∧ ((a + 1) = a') ∧ (U = U) ∧ (E = E) ∧ ((0 : Int) = 0) ∧ ((sets ++ [own]) = sets') ∧ ((costs ++ [1]) = costs') ∧ (sz = sz') ∧ ((sets.length + 1) = sets'.length) ∧ ((costs.length + 1) = costs'.length))))))) ∧ ((decide (a < (U.length : Int))) = false → ((sz = (rsZ U E r)) ∧ (sets.length = sets.length) ∧ ((sets : ZR) = (rsS U E r)) ∧ (costs.length = costs.length) ∧ ((costs : ZI) = (rsK U E r)) ∧ (true = (rsB U E r)))))))))
theorem J0z (U : ZI) (E : ZR) (r : Int)  (w_Open : (U.length : Int) ≤ 9223372036854775807) (w_Dist : (E.length : Int) ≤ 9223372036854775807) (v_Dist : ∀ x9 ∈ E, (x9.length : Int) ≤ 9223372036854775807) : J06 U E r := by
  unfold J06
  refine ⟨J2b U E, id, fun _ => J0m r 0 99, id, rfl, fun _ => rfl, ?_, ?_, ?_⟩
  ·intro h; rw [h]; rfl
  ·intro b1
   refine ⟨?_, ?_, ?_, ?_⟩
   ·have hq : (J0 U E && inB r 0 99) = false := by
      revert b1; cases J0 U E <;> cases inB r 0 99 <;> simp
    first | (unfold rsS rsB; rw [hq]; rfl) | (unfold rsK rsB; rw [hq]; rfl) | (unfold rsZ rsB; rw [hq]; rfl)
   ·have hq : (J0 U E && inB r 0 99) = false := by
      revert b1; cases J0 U E <;> cases inB r 0 99 <;> simp
    first | (unfold rsS rsB; rw [hq]; rfl) | (unfold rsK rsB; rw [hq]; rfl) | (unfold rsZ rsB; rw [hq]; rfl)
   ·have hq : (J0 U E && inB r 0 99) = false := by
      revert b1; cases J0 U E <;> cases inB r 0 99 <;> simp
    first | (unfold rsS rsB; rw [hq]; rfl) | (unfold rsK rsB; rw [hq]; rfl) | (unfold rsZ rsB; rw [hq]; rfl)
   have hq : (J0 U E && inB r 0 99) = false := by
     revert b1; cases J0 U E <;> cases inB r 0 99 <;> simp
   exact hq.symm
  intro b2
  refine ⟨?_, ?_⟩
  ·refine ⟨0, (E.length : Int), ([]), ([]), ?_⟩
   refine ⟨?_, rfl, rfl, rfl, rfl, rfl, rfl, ?_, ?_, rfl, rfl, rfl⟩
   ·refine ⟨?_, ?_, ?_, ?_, ?_⟩
    ·first | omega | rfl | (intro hg; simp only [nrmT] at hg; omega) | (intro g1 g2; simp [g1, g2]; done) | (intro g1; simp at g1 ⊢; simp [g1]; done) | (simp only [nrmT] at *; omega) | (simp at * <;> omega) | (simp_all <;> omega) | (simp_all; done)
    ·first | omega | rfl | (intro hg; simp only [nrmT] at hg; omega) | (intro g1 g2; simp [g1, g2]; done) | (intro g1; simp at g1 ⊢; simp [g1]; done) | (simp only [nrmT] at *; omega) | (simp at * <;> omega) | (simp_all <;> omega) | (simp_all; done)
    ·first | omega | rfl | (intro hg; simp only [nrmT] at hg; omega) | (intro g1 g2; simp [g1, g2]; done) | (intro g1; simp at g1 ⊢; simp [g1]; done) | (simp only [nrmT] at *; omega) | (simp at * <;> omega) | (simp_all <;> omega) | (simp_all; done)
    ·rfl
    ·rfl
   ·first | omega | rfl | (intro hg; simp only [nrmT] at hg; omega) | (intro g1 g2; simp [g1, g2]; done) | (intro g1; simp at g1 ⊢; simp [g1]; done) | (simp only [nrmT] at *; omega) | (simp at * <;> omega) | (simp_all <;> omega) | (simp_all; done)
   first | omega | rfl | (intro hg; simp only [nrmT] at hg; omega) | (intro g1 g2; simp [g1, g2]; done) | (intro g1; simp at g1 ⊢; simp [g1]; done) | (simp only [nrmT] at *; omega) | (simp at * <;> omega) | (simp_all <;> omega) | (simp_all; done)
  intro a sz sets costs hJ
  obtain ⟨h0, h1, h2, h3, h4⟩ := hJ
  refine ⟨?_, ?_⟩
  ·intro b3
   try simp only [nrmT] at b3
   refine ⟨?_, ?_⟩
   ·refine ⟨([]), 0, ?_⟩
    refine ⟨?_, rfl, rfl, rfl, rfl, rfl, rfl, rfl, rfl, ?_, rfl, rfl, rfl, rfl, rfl, rfl, rfl, rfl⟩
    ·refine ⟨?_, ?_, ?_⟩
     ·first | omega | rfl | (intro hg; simp only [nrmT] at hg; omega) | (intro g1 g2; simp [g1, g2]; done) | (intro g1; simp at g1 ⊢; simp [g1]; done) | (simp only [nrmT] at *; omega) | (simp at * <;> omega) | (simp_all <;> omega) | (simp_all; done)
     ·first | omega | rfl | (intro hg; simp only [nrmT] at hg; omega) | (intro g1 g2; simp [g1, g2]; done) | (intro g1; simp at g1 ⊢; simp [g1]; done) | (simp only [nrmT] at *; omega) | (simp at * <;> omega) | (simp_all <;> omega) | (simp_all; done)
     ·rfl
    first | omega | rfl | (intro hg; simp only [nrmT] at hg; omega) | (intro g1 g2; simp [g1, g2]; done) | (intro g1; simp at g1 ⊢; simp [g1]; done) | (simp only [nrmT] at *; omega) | (simp at * <;> omega) | (simp_all <;> omega) | (simp_all; done)
   intro own i hJ
   obtain ⟨h5, h6, h7⟩ := hJ
   refine ⟨?_, ?_⟩
   ·intro b4
    try simp only [nrmT] at b4
    refine ⟨?_, ?_, ?_, ?_, ?_, ?_, ?_, ?_⟩
    ·first | omega | rfl | (intro hg; simp only [nrmT] at hg; omega) | (intro g1 g2; simp [g1, g2]; done) | (intro g1; simp at g1 ⊢; simp [g1]; done) | (simp only [nrmT] at *; omega) | (simp at * <;> omega) | (simp_all <;> omega) | (simp_all; done)
    ·first | omega | rfl | (intro hg; simp only [nrmT] at hg; omega) | (intro g1 g2; simp [g1, g2]; done) | (intro g1; simp at g1 ⊢; simp [g1]; done) | (simp only [nrmT] at *; omega) | (simp at * <;> omega) | (simp_all <;> omega) | (simp_all; done)
    ·first | omega | rfl | (intro hg; simp only [nrmT] at hg; omega) | (intro g1 g2; simp [g1, g2]; done) | (intro g1; simp at g1 ⊢; simp [g1]; done) | (simp only [nrmT] at *; omega) | (simp at * <;> omega) | (simp_all <;> omega) | (simp_all; done)
    ·first | omega | rfl | (intro hg; simp only [nrmT] at hg; omega) | (intro g1 g2; simp [g1, g2]; done) | (intro g1; simp at g1 ⊢; simp [g1]; done) | (simp only [nrmT] at *; omega) | (simp at * <;> omega) | (simp_all <;> omega) | (simp_all; done)
    ·have hq : J0 U E = true ∧ inB r 0 99 = true := by
       revert b2; cases J0 U E <;> cases inB r 0 99 <;> simp
     have hg := hq.1
     have hr := J1q hg (i := i.toNat) (by omega)
     omega
    ·have hq : J0 U E = true ∧ inB r 0 99 = true := by
       revert b2; cases J0 U E <;> cases inB r 0 99 <;> simp
     have hg := hq.1
     have hr := J1q hg (i := i.toNat) (by omega)
     omega
    ·intro b5
     try simp only [nrmT] at b5
     refine ⟨rfl, rfl, ?_, ?_, ?_⟩
     ·have hq : J0 U E = true ∧ inB r 0 99 = true := by
        revert b2; cases J0 U E <;> cases inB r 0 99 <;> simp
      have hg := hq.1
      obtain ⟨g1, g2, g3⟩ := JO hg
      have := members_len_le (fun k9 => decide ((E.getD k9 []).getD a.toNat 0 ≤ r)) i.toNat
      rw [← h7] at this
      omega
     ·first | omega | rfl | (intro hg; simp only [nrmT] at hg; omega) | (intro g1 g2; simp [g1, g2]; done) | (intro g1; simp at g1 ⊢; simp [g1]; done) | (simp only [nrmT] at *; omega) | (simp at * <;> omega) | (simp_all <;> omega) | (simp_all; done)
     refine ⟨(own ++ [i]), (i + 1), ?_⟩
     refine ⟨?_, ?_, rfl, rfl, ?_, rfl, rfl, rfl, rfl, rfl, rfl, rfl, rfl, rfl, rfl, rfl, rfl, rfl, rfl⟩
     ·refine ⟨?_, ?_, ?_⟩
      ·first | omega | rfl | (intro hg; simp only [nrmT] at hg; omega) | (intro g1 g2; simp [g1, g2]; done) | (intro g1; simp at g1 ⊢; simp [g1]; done) | (simp only [nrmT] at *; omega) | (simp at * <;> omega) | (simp_all <;> omega) | (simp_all; done)
      ·first | omega | rfl | (intro hg; simp only [nrmT] at hg; omega) | (intro g1 g2; simp [g1, g2]; done) | (intro g1; simp at g1 ⊢; simp [g1]; done) | (simp only [nrmT] at *; omega) | (simp at * <;> omega) | (simp_all <;> omega) | (simp_all; done)
      ·rw [show (i + 1).toNat = i.toNat + 1 by omega, members_succ, if_pos (decide_eq_true b5), ← h7, show ((i.toNat : Nat) : Int) = i by omega]
     ·first | (show _ < _; omega) | (simp only [J5]; omega) | (simp only [J5] at *; simp at *; omega)
     simp
    intro b6
    try simp only [nrmT] at b6
    refine ⟨?_, ?_⟩
    ·first | omega | rfl | (intro hg; simp only [nrmT] at hg; omega) | (intro g1 g2; simp [g1, g2]; done) | (intro g1; simp at g1 ⊢; simp [g1]; done) | (simp only [nrmT] at *; omega) | (simp at * <;> omega) | (simp_all <;> omega) | (simp_all; done)
    refine ⟨own, (i + 1), ?_⟩
    refine ⟨?_, ?_, rfl, rfl, rfl, rfl, rfl, rfl, rfl, rfl, rfl, rfl, rfl, rfl, rfl, rfl, rfl, rfl, rfl⟩
    ·refine ⟨?_, ?_, ?_⟩
     ·first | omega | rfl | (intro hg; simp only [nrmT] at hg; omega) | (intro g1 g2; simp [g1, g2]; done) | (intro g1; simp at g1 ⊢; simp [g1]; done) | (simp only [nrmT] at *; omega) | (simp at * <;> omega) | (simp_all <;> omega) | (simp_all; done)
     ·first | omega | rfl | (intro hg; simp only [nrmT] at hg; omega) | (intro g1 g2; simp [g1, g2]; done) | (intro g1; simp at g1 ⊢; simp [g1]; done) | (simp only [nrmT] at *; omega) | (simp at * <;> omega) | (simp_all <;> omega) | (simp_all; done)
     ·rw [show (i + 1).toNat = i.toNat + 1 by omega, members_succ, if_neg (by rw [decide_eq_false (by omega)]; decide), List.append_nil, ← h7]
    first | (show _ < _; omega) | (simp only [J5]; omega) | (simp only [J5] at *; simp at *; omega)
   intro b7
   try simp only [nrmT] at b7
   refine ⟨rfl, rfl, rfl, rfl, by decide, ?_, rfl, rfl, ?_, ?_, ?_⟩
   ·have hq : J0 U E = true ∧ inB r 0 99 = true := by
      revert b2; cases J0 U E <;> cases inB r 0 99 <;> simp
    have hg := hq.1
    obtain ⟨g1, g2, g3⟩ := JO hg
    rw [h3, tabTo_len]; omega
   ·have hq : J0 U E = true ∧ inB r 0 99 = true := by
      revert b2; cases J0 U E <;> cases inB r 0 99 <;> simp
    have hg := hq.1
    obtain ⟨g1, g2, g3⟩ := JO hg
    rw [h4, List.length_replicate]; omega
   ·first | omega | rfl | (intro hg; simp only [nrmT] at hg; omega) | (intro g1 g2; simp [g1, g2]; done) | (intro g1; simp at g1 ⊢; simp [g1]; done) | (simp only [nrmT] at *; omega) | (simp at * <;> omega) | (simp_all <;> omega) | (simp_all; done)
   refine ⟨(a + 1), sz, (sets ++ [own]), (costs ++ [1]), ?_⟩
   refine ⟨?_, ?_, rfl, rfl, rfl, rfl, rfl, rfl, rfl, rfl, rfl, ?_, ?_⟩
   ·refine ⟨?_, ?_, ?_, ?_, ?_⟩
    ·first | omega | rfl | (intro hg; simp only [nrmT] at hg; omega) | (intro g1 g2; simp [g1, g2]; done) | (intro g1; simp at g1 ⊢; simp [g1]; done) | (simp only [nrmT] at *; omega) | (simp at * <;> omega) | (simp_all <;> omega) | (simp_all; done)
    ·first | omega | rfl | (intro hg; simp only [nrmT] at hg; omega) | (intro g1 g2; simp [g1, g2]; done) | (intro g1; simp at g1 ⊢; simp [g1]; done) | (simp only [nrmT] at *; omega) | (simp at * <;> omega) | (simp_all <;> omega) | (simp_all; done)
    ·first | omega | rfl | (intro hg; simp only [nrmT] at hg; omega) | (intro g1 g2; simp [g1, g2]; done) | (intro g1; simp at g1 ⊢; simp [g1]; done) | (simp only [nrmT] at *; omega) | (simp at * <;> omega) | (simp_all <;> omega) | (simp_all; done)
    ·rw [show (a + 1).toNat = a.toNat + 1 by omega, tabTo_succ, ← h3, h7, show i.toNat = E.length by omega]; rfl
    ·rw [show (a + 1).toNat = a.toNat + 1 by omega, h4, J22]
   ·first | (show _ < _; omega) | (simp only [Je]; omega) | (simp only [Je] at *; simp at *; omega)
   ·simp
   simp
  intro b8
  try simp only [nrmT] at b8
  refine ⟨?_, rfl, ?_, rfl, ?_, ?_⟩
  ·have hq : J0 U E = true ∧ inB r 0 99 = true := by
     revert b2; cases J0 U E <;> cases inB r 0 99 <;> simp
   have hg := hq.1
   have hb : rsB U E r = true := by unfold rsB; rw [hq.1, hq.2]; rfl
   unfold rsZ; rw [if_pos hb]; exact h0
  ·have hq : J0 U E = true ∧ inB r 0 99 = true := by
     revert b2; cases J0 U E <;> cases inB r 0 99 <;> simp
   have hg := hq.1
   have hb : rsB U E r = true := by unfold rsB; rw [hq.1, hq.2]; rfl
   unfold rsS; rw [if_pos hb, h3, show a.toNat = U.length by omega]; rfl
  ·have hq : J0 U E = true ∧ inB r 0 99 = true := by
     revert b2; cases J0 U E <;> cases inB r 0 99 <;> simp
   have hg := hq.1
   have hb : rsB U E r = true := by unfold rsB; rw [hq.1, hq.2]; rfl
   unfold rsK; rw [if_pos hb, h4, show a.toNat = U.length by omega]
  have hq : J0 U E = true ∧ inB r 0 99 = true := by
    revert b2; cases J0 U E <;> cases inB r 0 99 <;> simp
  have hg := hq.1
  unfold rsB; rw [hq.1, hq.2]; rfl
theorem JT (U : ZI) (E : ZR) (r : Int)  : PC Try.prog 24 [.agg [.sl (.ints U), .sl (.rows E)], .int .i64 r] (.agt 3 [.d (.int .i64 (rsZ U E r)), .mat 3 26 (rsS U E r), .own 3 (.ints (rsK U E r)), .d (.bool (rsB U E r))]) :=
  pc_wf @Try.call24 fun hw => pc_by (by kernel_rfl) Try.func24 @Try.call24 (by kernel_rfl) J0H (J0I U E r) (by kernel_rfl) (J0z U E r hw.1.1 hw.1.2.1.1 hw.1.2.1.2) (by kernel_rfl)
theorem J2i (O : ZI) (D : ZR) (r : Int) : J1 (rsS O D r) ≤ 1000 ∧ (rsK O D r).length ≤ 1000 := by
  by_cases hb : rsB O D r = true
  · have e1 : rsS O D r = rsL O.length D r := by unfold rsS; rw [if_pos hb]
    have e2 : rsK O D r = List.replicate O.length 1 := by unfold rsK; rw [if_pos hb]
    obtain ⟨_, _, hg, _⟩ := J3y hb
    obtain ⟨g1, g2, g3⟩ := JO hg
    have hs := J1B (m := D.length) (xss := rsL O.length D r) fun x hx => by
      obtain ⟨j, _, rfl⟩ := List.mem_map.1 hx
      exact J3z D r j
    have hl : (rsL O.length D r).length = O.length := tabTo_len _ _
    rw [hl] at hs
    have h8 : O.length * D.length ≤ 20 * 20 := Nat.mul_le_mul (by omega) (by omega)
    rw [e1, e2, List.length_replicate]
    omega
  have e1 : rsS O D r = [] := by unfold rsS; rw [if_neg hb]
  have e2 : rsK O D r = [] := by unfold rsK; rw [if_neg hb]
  rw [e1, e2]; decide
def l_FnExactReachSystem_C (f : FuncId) (ds : List D) : Orc := bif Nat.beq f 21 then J1P ds else bif Nat.beq f 23 then J21 ds else bif Nat.beq f 22 then J11 ds else bif Nat.beq f 25 then J1D ds else bif Nat.beq f 26 then J20 ds else bif Nat.beq f 29 then J1k ds else .no
def l_FnExactReachSystem_A (U : ZI) (E : ZR) (r : Int) : Ann := .two (.none) (.two (.none) (.two (.none) (.two (.none) (.two (.reg [(1, .g)]) (.two (.reg [(1, .g)]) (.two (.reg [(2, .call none (.agt 3 [.d (.int .i64 (rsZ U E r)), .mat 3 26 (rsS U E r), .own 3 (.ints (rsK U E r)), .d (.bool (rsB U E r))]))]) (.two (.none) (.two (.two (.reg [(2, .g)]) (.none)) (.two (.none) (.two (.mark [] [(2, .kill (1 + (U.length : Int) + ((E.map List.length).sum : Int)))]) (.two (.none) (.two (.none) (.two (.mark [] [(2, .wrs (mkS 1 (rsS U E r)) (J4 (1 + (J1 (rsS U E r) : Int)) (rsK U E r).length) (1 + (J1 (rsS U E r) : Int) + ((rsK U E r).length : Int)))]) (.two (.none) (.two (.none) (.two (.none) (.two (.none) (.two (.reg [(3, .call none (.agt 3 [.d (.int .i64 (rsZ U E r)), .mat 3 26 (rsS U E r), .own 3 (.ints (rsK U E r)), .d (.bool (rsB U E r))])), (1, .g)]) (.none)))))))))))))))))))
def l_FnExactReachSystem_e1 (U : ZI) (E : ZR) (r : Int) : Bool := (cond (decide ((1 + (U.length : Int) + ((E.map List.length).sum : Int)) < 0)) true (!(((rsZ U E r) == (rsZ U E r)) && ((rsS U E r) == (rsS U E r)) && ((rsK U E r) == (rsK U E r)))))
def l_FnExactReachSystem_e2 (U : ZI) (E : ZR) (r : Int) : Bool := (cond (!(((rsZ U E r) == (rsZ U E r)) && ((rsS U E r) == (rsS U E r)) && ((rsK U E r) == (rsK U E r)))) true ((rsB U E r) != (rsB U E r)))
def l_FnExactReachSystem_P (U : ZI) (E : ZR) (r : Int) : Prop :=
  (PC Try.prog 21 [.agg [.sl (.ints U), .sl (.rows E)], .int .i64 1048576] (.one (.d (.int .i64 (Ji U E 1048576))))) ∧ (((decide ((Ji U E 1048576) < 0)) = true → ((true = true))) ∧ ((decide ((Ji U E 1048576) < 0)) = false → (PC Try.prog 23 [.agg [.sl (.ints U), .sl (.rows E)]] (.one (.d (.agg [.sl (.ints U), .sl (.rows E)])))) ∧ (PC Try.prog 22 [.agg [.sl (.ints U), .sl (.rows E)], .int .i64 r] (.tup [.d (.agg [.int .i64 (rsZ U E r), .sl (.rows (rsS U E r)), .sl (.ints (rsK U E r))]), .d (.bool (rsB U E r))])) ∧ (PC Try.prog 23 [.agg [.sl (.ints U), .sl (.rows E)]] (.one (.d (.agg [.sl (.ints U), .sl (.rows E)])))) ∧ (PC Try.prog 24 [.agg [.sl (.ints U), .sl (.rows E)], .int .i64 r] (.agt 3 [.d (.int .i64 (rsZ U E r)), .mat 3 26 (rsS U E r), .own 3 (.ints (rsK U E r)), .d (.bool (rsB U E r))])) ∧ ((rsS U E r).length = (rsS U E r).length) ∧ ((rsK U E r).length = (rsK U E r).length) ∧ (PC Try.prog 25 [.agg [.int .i64 (rsZ U E r), .sl (.rows (rsS U E r)), .sl (.ints (rsK U E r))], .agg [.int .i64 (rsZ U E r), .sl (.rows (rsS U E r)), .sl (.ints (rsK U E r))]] (.one (.d (.bool (((rsZ U E r) == (rsZ U E r)) && ((rsS U E r) == (rsS U E r)) && ((rsK U E r) == (rsK U E r))))))) ∧ ((!(!(((rsZ U E r) == (rsZ U E r)) && ((rsS U E r) == (rsS U E r)) && ((rsK U E r) == (rsK U E r))))) = true → (!(!(((rsZ U E r) == (rsZ U E r)) && ((rsS U E r) == (rsS U E r)) && ((rsK U E r) == (rsK U E r))))) = true) ∧ ((!(!(((rsZ U E r) == (rsZ U E r)) && ((rsS U E r) == (rsS U E r)) && ((rsK U E r) == (rsK U E r))))) = true → (!(!(((rsZ U E r) == (rsZ U E r)) && ((rsS U E r) == (rsS U E r)) && ((rsK U E r) == (rsK U E r))))) = true) ∧ (true = true) ∧ (((!(((rsZ U E r) == (rsZ U E r)) && ((rsS U E r) == (rsS U E r)) && ((rsK U E r) == (rsK U E r)))) = true → true = true)) ∧ (((!(((rsZ U E r) == (rsZ U E r)) && ((rsS U E r) == (rsS U E r)) && ((rsK U E r) == (rsK U E r)))) = false → (!(!(((rsZ U E r) == (rsZ U E r)) && ((rsS U E r) == (rsS U E r)) && ((rsK U E r) == (rsK U E r))))) = true)) ∧ (((l_FnExactReachSystem_e2 U E r) = true → ((false = true))) ∧ ((l_FnExactReachSystem_e2 U E r) = false → (true = true) ∧ (PC Try.prog 23 [.agg [.sl (.ints U), .sl (.rows E)]] (.one (.d (.agg [.sl (.ints U), .sl (.rows E)])))) ∧ (PC Try.prog 26 [.agg [.sl (.ints U), .sl (.rows E)], .agg [.sl (.ints U), .sl (.rows E)]] (.one (.d (.bool ((U == U) && (E == E)))))) ∧ (((!((U == U) && (E == E))) = true → ((false = true))) ∧ ((!((U == U) && (E == E))) = false → (PG Try.prog 27 [.agg [.ints U.length, .rows (E.map List.length)], .int 1] (1 + (U.length : Int) + ((E.map List.length).sum : Int))) ∧ ((!(decide ((1 + (U.length : Int) + ((E.map List.length).sum : Int)) < 0))) = true → (!(decide ((1 + (U.length : Int) + ((E.map List.length).sum : Int)) < 0))) = true) ∧ ((!(decide ((1 + (U.length : Int) + ((E.map List.length).sum : Int)) < 0))) = true → (!(decide ((1 + (U.length : Int) + ((E.map List.length).sum : Int)) < 0))) = true) ∧ (((!(decide ((1 + (U.length : Int) + ((E.map List.length).sum : Int)) < 0))) = true → (rsS U E r).length = (rsS U E r).length)) ∧ (((!(decide ((1 + (U.length : Int) + ((E.map List.length).sum : Int)) < 0))) = true → (rsK U E r).length = (rsK U E r).length)) ∧ ((!(decide ((1 + (U.length : Int) + ((E.map List.length).sum : Int)) < 0))) = true → PC Try.prog 25 [.agg [.int .i64 (rsZ U E r), .sl (.rows (rsS U E r)), .sl (.ints (rsK U E r))], .agg [.int .i64 (rsZ U E r), .sl (.rows (rsS U E r)), .sl (.ints (rsK U E r))]] (.one (.d (.bool (((rsZ U E r) == (rsZ U E r)) && ((rsS U E r) == (rsS U E r)) && ((rsK U E r) == (rsK U E r))))))) ∧ ((!(decide ((1 + (U.length : Int) + ((E.map List.length).sum : Int)) < 0))) = true → (!(decide ((1 + (U.length : Int) + ((E.map List.length).sum : Int)) < 0))) = true) ∧ (true = true) ∧ (((decide ((1 + (U.length : Int) + ((E.map List.length).sum : Int)) < 0)) = true → true = true)) ∧ (((decide ((1 + (U.length : Int) + ((E.map List.length).sum : Int)) < 0)) = false → (!(decide ((1 + (U.length : Int) + ((E.map List.length).sum : Int)) < 0))) = true)) ∧ ((!(l_FnExactReachSystem_e1 U E r)) = true → (!(l_FnExactReachSystem_e1 U E r)) = true) ∧ ((!(l_FnExactReachSystem_e1 U E r)) = true → (!(l_FnExactReachSystem_e1 U E r)) = true) ∧ (true = true) ∧ (((l_FnExactReachSystem_e1 U E r) = true → true = true)) ∧ (((l_FnExactReachSystem_e1 U E r) = false → (!(l_FnExactReachSystem_e1 U E r)) = true)) ∧ (((cond (l_FnExactReachSystem_e1 U E r) true ((rsB U E r) != (rsB U E r))) = true → ((false = true))) ∧ ((cond (l_FnExactReachSystem_e1 U E r) true ((rsB U E r) != (rsB U E r))) = false → ((rsS U E r).length = (rsS U E r).length) ∧ ((rsK U E r).length = (rsK U E r).length) ∧ ((mkS 1 (rsS U E r)).length = (rsS U E r).length) ∧ ((J4 (1 + (J1 (rsS U E r) : Int)) (rsK U E r).length).length = (rsK U E r).length) ∧ (PWS Try.prog 28 3 26 3 (rsZ U E r) (rsS U E r) (mkS 1 (rsS U E r)) (rsK U E r) (J4 (1 + (J1 (rsS U E r) : Int)) (rsK U E r).length) 1 (1 + (J1 (rsS U E r) : Int) + ((rsK U E r).length : Int))) ∧ ((rsS U E r).length = (mkS 1 (rsS U E r)).length) ∧ ((rsK U E r).length = (J4 (1 + (J1 (rsS U E r) : Int)) (rsK U E r).length).length) ∧ (PC Try.prog 29 [.agg [.int .i64 (rsZ U E r), .sl (.rows (mkS 1 (rsS U E r))), .sl (.ints (J4 (1 + (J1 (rsS U E r) : Int)) (rsK U E r).length))], .int .i64 1] (.one (.d (.int .i64 (1 + (J1 (mkS 1 (rsS U E r)) : Int) + ((J4 (1 + (J1 (rsS U E r) : Int)) (rsK U E r).length).length : Int)))))) ∧ (((decide ((1 + (J1 (mkS 1 (rsS U E r)) : Int) + ((J4 (1 + (J1 (rsS U E r) : Int)) (rsK U E r).length).length : Int)) < 0)) = true → ((false = true))) ∧ ((decide ((1 + (J1 (mkS 1 (rsS U E r)) : Int) + ((J4 (1 + (J1 (rsS U E r) : Int)) (rsK U E r).length).length : Int)) < 0)) = false → ((((1 + (J1 (mkS 1 (rsS U E r)) : Int) + ((J4 (1 + (J1 (rsS U E r) : Int)) (rsK U E r).length).length : Int)) != (1 + (J1 (rsS U E r) : Int) + ((rsK U E r).length : Int))) = true → ((false = true))) ∧ (((1 + (J1 (mkS 1 (rsS U E r)) : Int) + ((J4 (1 + (J1 (rsS U E r) : Int)) (rsK U E r).length).length : Int)) != (1 + (J1 (rsS U E r) : Int) + ((rsK U E r).length : Int))) = false → (PC Try.prog 23 [.agg [.sl (.ints U), .sl (.rows E)]] (.one (.d (.agg [.sl (.ints U), .sl (.rows E)])))) ∧ (PC Try.prog 24 [.agg [.sl (.ints U), .sl (.rows E)], .int .i64 r] (.agt 3 [.d (.int .i64 (rsZ U E r)), .mat 3 26 (rsS U E r), .own 3 (.ints (rsK U E r)), .d (.bool (rsB U E r))])) ∧ ((rsS U E r).length = (rsS U E r).length) ∧ ((rsK U E r).length = (rsK U E r).length) ∧ (PC Try.prog 25 [.agg [.int .i64 (rsZ U E r), .sl (.rows (rsS U E r)), .sl (.ints (rsK U E r))], .agg [.int .i64 (rsZ U E r), .sl (.rows (rsS U E r)), .sl (.ints (rsK U E r))]] (.one (.d (.bool (((rsZ U E r) == (rsZ U E r)) && ((rsS U E r) == (rsS U E r)) && ((rsK U E r) == (rsK U E r))))))) ∧ ((!(!(((rsZ U E r) == (rsZ U E r)) && ((rsS U E r) == (rsS U E r)) && ((rsK U E r) == (rsK U E r))))) = true → (!(!(((rsZ U E r) == (rsZ U E r)) && ((rsS U E r) == (rsS U E r)) && ((rsK U E r) == (rsK U E r))))) = true) ∧ ((!(!(((rsZ U E r) == (rsZ U E r)) && ((rsS U E r) == (rsS U E r)) && ((rsK U E r) == (rsK U E r))))) = true → (!(!(((rsZ U E r) == (rsZ U E r)) && ((rsS U E r) == (rsS U E r)) && ((rsK U E r) == (rsK U E r))))) = true) ∧ (true = true) ∧ (((!(((rsZ U E r) == (rsZ U E r)) && ((rsS U E r) == (rsS U E r)) && ((rsK U E r) == (rsK U E r)))) = true → true = true)) ∧ (((!(((rsZ U E r) == (rsZ U E r)) && ((rsS U E r) == (rsS U E r)) && ((rsK U E r) == (rsK U E r)))) = false → (!(!(((rsZ U E r) == (rsZ U E r)) && ((rsS U E r) == (rsS U E r)) && ((rsK U E r) == (rsK U E r))))) = true)) ∧ (((l_FnExactReachSystem_e2 U E r) = true → ((false = true))) ∧ ((l_FnExactReachSystem_e2 U E r) = false → ((rsS U E r).length = (mkS 1 (rsS U E r)).length) ∧ ((rsK U E r).length = (J4 (1 + (J1 (rsS U E r) : Int)) (rsK U E r).length).length) ∧ (PC Try.prog 29 [.agg [.int .i64 (rsZ U E r), .sl (.rows (mkS 1 (rsS U E r))), .sl (.ints (J4 (1 + (J1 (rsS U E r) : Int)) (rsK U E r).length))], .int .i64 1] (.one (.d (.int .i64 (1 + (J1 (mkS 1 (rsS U E r)) : Int) + ((J4 (1 + (J1 (rsS U E r) : Int)) (rsK U E r).length).length : Int)))))) ∧ (((decide ((1 + (J1 (mkS 1 (rsS U E r)) : Int) + ((J4 (1 + (J1 (rsS U E r) : Int)) (rsK U E r).length).length : Int)) < 0)) = true → ((false = true))) ∧ ((decide ((1 + (J1 (mkS 1 (rsS U E r)) : Int) + ((J4 (1 + (J1 (rsS U E r) : Int)) (rsK U E r).length).length : Int)) < 0)) = false → ((((1 + (J1 (mkS 1 (rsS U E r)) : Int) + ((J4 (1 + (J1 (rsS U E r) : Int)) (rsK U E r).length).length : Int)) != (1 + (J1 (rsS U E r) : Int) + ((rsK U E r).length : Int))) = true → ((false = true))) ∧ (((1 + (J1 (mkS 1 (rsS U E r)) : Int) + ((J4 (1 + (J1 (rsS U E r) : Int)) (rsK U E r).length).length : Int)) != (1 + (J1 (rsS U E r) : Int) + ((rsK U E r).length : Int))) = false → ((true = true))))))))))))))))))))
theorem l_FnExactReachSystem_vc (U : ZI) (E : ZR) (r : Int)  (w_Open : (U.length : Int) ≤ 9223372036854775807) (w_Dist : (E.length : Int) ≤ 9223372036854775807) (v_Dist : ∀ x9 ∈ E, (x9.length : Int) ≤ 9223372036854775807) : l_FnExactReachSystem_P U E r := by
  unfold l_FnExactReachSystem_P l_FnExactReachSystem_e2 l_FnExactReachSystem_e1
  refine ⟨?_, ?_, ?_⟩
  ·refine J2v U E 1048576 ?_
   ·first | omega | rfl | (intro hg; simp only [nrmT] at hg; omega) | (intro g1 g2; simp [g1, g2]; done) | (intro g1; simp at g1 ⊢; simp [g1]; done) | (simp only [nrmT] at *; omega) | (simp at * <;> omega) | (simp_all <;> omega) | (simp_all; done)
  ·intro b1
   try simp only [nrmT] at b1
   exact rfl
  intro b2
  try simp only [nrmT] at b2
  refine ⟨?_, J1m U E r, ?_, JT U E r, rfl, rfl, J0f (rsZ U E r) (rsS U E r) (rsK U E r) (rsZ U E r) (rsS U E r) (rsK U E r), id, id, rfl, fun _ => rfl, ?_, ?_, ?_⟩
  ·refine JX U E ?_ ?_ ?_
   ·have := J6 b2; omega
   ·have := J6 b2; omega
   ·have h := (J6 b2).2.2
    intro xs hx
    have h := h xs hx
    omega
  ·refine JX U E ?_ ?_ ?_
   ·have := J6 b2; omega
   ·have := J6 b2; omega
   ·have h := (J6 b2).2.2
    intro xs hx
    have h := h xs hx
    omega
  ·intro h; rw [h]; rfl
  ·intro b3
   first | (exfalso; simp only [Jc, J2] at b3; omega) | (exfalso; simp [Jc, J2] at b3; done) | (simp at b3; done) | (simp at b3; omega) | omega | rfl | (intro hg; simp only [nrmT] at hg; omega) | (intro g1 g2; simp [g1, g2]; done) | (intro g1; simp at g1 ⊢; simp [g1]; done) | (simp only [nrmT] at *; omega) | (simp at * <;> omega) | (simp_all <;> omega) | (simp_all; done)
  intro b4
  refine ⟨rfl, ?_, J2w U E U E, ?_, ?_⟩
  ·refine JX U E ?_ ?_ ?_
   ·have := J6 b2; omega
   ·have := J6 b2; omega
   ·have h := (J6 b2).2.2
    intro xs hx
    have h := h xs hx
    omega
  ·intro b5
   try simp only [Bool.not_eq_true', Bool.not_eq_false', Bool.not_not] at b5
   first | (exfalso; simp only [Jc, J2] at b5; omega) | (exfalso; simp [Jc, J2] at b5; done) | (simp at b5; done) | (simp at b5; omega) | omega | rfl | (intro hg; simp only [nrmT] at hg; omega) | (intro g1 g2; simp [g1, g2]; done) | (intro g1; simp at g1 ⊢; simp [g1]; done) | (simp only [nrmT] at *; omega) | (simp at * <;> omega) | (simp_all <;> omega) | (simp_all; done)
  intro b6
  try simp only [Bool.not_eq_true', Bool.not_eq_false', Bool.not_not] at b6
  refine ⟨?_, id, id, fun _ => rfl, fun _ => rfl, fun _ => J0f (rsZ U E r) (rsS U E r) (rsK U E r) (rsZ U E r) (rsS U E r) (rsK U E r), id, rfl, fun _ => rfl, ?_, id, id, rfl, fun _ => rfl, ?_, ?_, ?_⟩
  ·refine J0E U.length (E.map List.length) 1 ?_ ?_ ?_
   ·first | omega | rfl | (intro hg; simp only [nrmT] at hg; omega) | (intro g1 g2; simp [g1, g2]; done) | (intro g1; simp at g1 ⊢; simp [g1]; done) | (simp only [nrmT] at *; omega) | (simp at * <;> omega) | (simp_all <;> omega) | (simp_all; done)
   ·rw [List.length_map]; have hz := J6 b2; omega
   ·have hz := J6 b2
    have hs := J3b (xss := E) (by omega) (fun xs hx => by have := hz.2.2 xs hx; omega)
    omega
  ·first | omega | rfl | (intro hg; simp only [nrmT] at hg; omega) | (intro g1 g2; simp [g1, g2]; done) | (intro g1; simp at g1 ⊢; simp [g1]; done) | (simp only [nrmT] at *; omega) | (simp at * <;> omega) | (simp_all <;> omega) | (simp_all; done)
  ·intro h; rw [h]; rfl
  ·intro b7
   first | (exfalso; simp only [Jc, J2] at b7; omega) | (exfalso; simp [Jc, J2] at b7; done) | (simp at b7; done) | (simp at b7; omega) | omega | rfl | (intro hg; simp only [nrmT] at hg; omega) | (intro g1 g2; simp [g1, g2]; done) | (intro g1; simp at g1 ⊢; simp [g1]; done) | (simp only [nrmT] at *; omega) | (simp at * <;> omega) | (simp_all <;> omega) | (simp_all; done)
  intro b8
  refine ⟨rfl, rfl, JP _ _, J2 _ _, ?_, ?_, ?_, ?_, ?_, ?_⟩
  ·refine J0v (rsZ U E r) (rsS U E r) (rsK U E r) 1 ?_ ?_
   ·first | omega | rfl | (intro hg; simp only [nrmT] at hg; omega) | (intro g1 g2; simp [g1, g2]; done) | (intro g1; simp at g1 ⊢; simp [g1]; done) | (simp only [nrmT] at *; omega) | (simp at * <;> omega) | (simp_all <;> omega) | (simp_all; done)
   ·try simp only [Jc, J2]
    have hts := J2i U E r
    omega
  ·exact (JP _ _).symm
  ·exact (J2 _ _).symm
  ·refine J0q (rsZ U E r) (mkS 1 (rsS U E r)) (J4 (1 + (J1 (rsS U E r) : Int)) (rsK U E r).length) 1 ?_ ?_ ?_ ?_
   ·first | omega | rfl | (intro hg; simp only [nrmT] at hg; omega) | (intro g1 g2; simp [g1, g2]; done) | (intro g1; simp at g1 ⊢; simp [g1]; done) | (simp only [nrmT] at *; omega) | (simp at * <;> omega) | (simp_all <;> omega) | (simp_all; done)
   ·exact (J2t _ _).symm
   ·simp only [Jc, J2]
   ·try simp only [Jc, J2]
    have hts := J2i U E r
    omega
  ·intro b9
   try simp only [nrmT] at b9
   first | (exfalso; simp only [Jc, J2] at b9; omega) | (exfalso; simp [Jc, J2] at b9; done) | (simp at b9; done) | (simp at b9; omega) | omega | rfl | (intro hg; simp only [nrmT] at hg; omega) | (intro g1 g2; simp [g1, g2]; done) | (intro g1; simp at g1 ⊢; simp [g1]; done) | (simp only [nrmT] at *; omega) | (simp at * <;> omega) | (simp_all <;> omega) | (simp_all; done)
  intro b10
  try simp only [nrmT] at b10
  refine ⟨?_, ?_⟩
  ·intro b11
   try simp only [nrmT] at b11
   first | (exfalso; simp only [Jc, J2] at b11; omega) | (exfalso; simp [Jc, J2] at b11; done) | (simp at b11; done) | (simp at b11; omega) | omega | rfl | (intro hg; simp only [nrmT] at hg; omega) | (intro g1 g2; simp [g1, g2]; done) | (intro g1; simp at g1 ⊢; simp [g1]; done) | (simp only [nrmT] at *; omega) | (simp at * <;> omega) | (simp_all <;> omega) | (simp_all; done)
  intro b12
  try simp only [nrmT] at b12
  refine ⟨?_, JT U E r, rfl, rfl, J0f (rsZ U E r) (rsS U E r) (rsK U E r) (rsZ U E r) (rsS U E r) (rsK U E r), id, id, rfl, fun _ => rfl, ?_, ?_, ?_⟩
  ·refine JX U E ?_ ?_ ?_
   ·have := J6 b2; omega
   ·have := J6 b2; omega
   ·have h := (J6 b2).2.2
    intro xs hx
    have h := h xs hx
    omega
  ·intro h; rw [h]; rfl
  ·intro b13
   first | (exfalso; simp only [Jc, J2] at b13; omega) | (exfalso; simp [Jc, J2] at b13; done) | (simp at b13; done) | (simp at b13; omega) | omega | rfl | (intro hg; simp only [nrmT] at hg; omega) | (intro g1 g2; simp [g1, g2]; done) | (intro g1; simp at g1 ⊢; simp [g1]; done) | (simp only [nrmT] at *; omega) | (simp at * <;> omega) | (simp_all <;> omega) | (simp_all; done)
  intro b14
  refine ⟨?_, ?_, ?_, ?_, ?_⟩
  ·exact (JP _ _).symm
  ·exact (J2 _ _).symm
  ·refine J0q (rsZ U E r) (mkS 1 (rsS U E r)) (J4 (1 + (J1 (rsS U E r) : Int)) (rsK U E r).length) 1 ?_ ?_ ?_ ?_
   ·first | omega | rfl | (intro hg; simp only [nrmT] at hg; omega) | (intro g1 g2; simp [g1, g2]; done) | (intro g1; simp at g1 ⊢; simp [g1]; done) | (simp only [nrmT] at *; omega) | (simp at * <;> omega) | (simp_all <;> omega) | (simp_all; done)
   ·exact (J2t _ _).symm
   ·simp only [Jc, J2]
   ·try simp only [Jc, J2]
    have hts := J2i U E r
    omega
  ·intro b15
   try simp only [nrmT] at b15
   first | (exfalso; simp only [Jc, J2] at b15; omega) | (exfalso; simp [Jc, J2] at b15; done) | (simp at b15; done) | (simp at b15; omega) | omega | rfl | (intro hg; simp only [nrmT] at hg; omega) | (intro g1 g2; simp [g1, g2]; done) | (intro g1; simp at g1 ⊢; simp [g1]; done) | (simp only [nrmT] at *; omega) | (simp at * <;> omega) | (simp_all <;> omega) | (simp_all; done)
  intro b16
  try simp only [nrmT] at b16
  refine ⟨?_, ?_⟩
  ·intro b17
   try simp only [nrmT] at b17
   first | (exfalso; simp only [Jc, J2] at b17; omega) | (exfalso; simp [Jc, J2] at b17; done) | (simp at b17; done) | (simp at b17; omega) | omega | rfl | (intro hg; simp only [nrmT] at hg; omega) | (intro g1 g2; simp [g1, g2]; done) | (intro g1; simp at g1 ⊢; simp [g1]; done) | (simp only [nrmT] at *; omega) | (simp at * <;> omega) | (simp_all <;> omega) | (simp_all; done)
  intro b18
  try simp only [nrmT] at b18
  exact rfl
theorem l_FnExactReachSystem_pc (U : ZI) (E : ZR) (r : Int)  : PC Try.prog 4 [.agg [.sl (.ints U), .sl (.rows E)], .int .i64 r] (.one (.d (.bool true))) :=
  pc_wf @Try.call4 fun hw => pc_by (by kernel_rfl) Try.func4 @Try.call4 (by kernel_rfl) l_FnExactReachSystem_C (l_FnExactReachSystem_A U E r) (by kernel_rfl) (l_FnExactReachSystem_vc U E r hw.1.1 hw.1.2.1.1 hw.1.2.1.2) (by kernel_rfl)
end Go.Proofs.Ytomnmacmlhkceaa
