/- Contracts of the functions that the law reaches. -/
import Derived.Test.YtomnmacmlhkceaaQw
import Derived.Test.YtomnmacmlhkceaaQma
import Derived.Test.YtomnmacmlhkceaaProg
import Derived.KernelRfl
set_option linter.unusedVariables false
set_option linter.unusedSimpArgs false
namespace Go.Proofs.Ytomnmacmlhkceaa
open Go

abbrev ZI := List Int
abbrev ZR := List (List Int)
abbrev I6 (x : Int) : Prop := -9223372036854775808 ≤ x ∧ x ≤ 9223372036854775807
def J45 (f : FuncId) (ds : List D) : Orc := .no
def J48 (x : Int) (a : Int) (b : Int) : Ann := .none
def J34 (x : Int) (a : Int) (b : Int) : Prop :=
  ((decide (x ≥ a)) = true → (decide (x ≥ a)) = true) ∧ ((decide (x ≥ a)) = true → (decide (x ≥ a)) = true) ∧ (true = true) ∧ (((decide (x ≥ a)) = true → (decide (x ≥ a)) = true)) ∧ (((decide (x ≥ a)) = false → true = true)) ∧ (((cond (decide (x ≥ a)) (decide (x ≤ b)) false) = (inB x a b)))
theorem J3U (x : Int) (a : Int) (b : Int)   : J34 x a b := by
  unfold J34
  refine ⟨id, id, rfl, id, fun _ => rfl, ?_⟩
  ·(simp only [inB]; by_cases h : a ≤ x <;> simp_all)
theorem J1s (x : Int) (a : Int) (b : Int)  : PC Try.prog 116 [.int .i64 x, .int .i64 a, .int .i64 b] (.one (.d (.bool (inB x a b)))) :=
  pc_wf @Try.call116 fun _ => pc_by (by kernel_rfl) Try.func116 @Try.call116 (by kernel_rfl) J45 (J48 x a b) (by kernel_rfl) (J3U x a b) (by kernel_rfl)
def J1R : List D → Orc := orcN [none, none, none] fun ds => match ds with
  | [.int .i64 x, .int .i64 a, .int .i64 b] => some (.one (.d (.bool (inB x a b))))
  | _ => none
def J3y (f : FuncId) (ds : List D) : Orc := .no
def J3q (x : Int) (a : Int) (b : Int) : Ann := .none
def J1C (x : Int) (a : Int) (b : Int) : Prop :=
  ((decide (x ≥ a)) = true → (decide (x ≥ a)) = true) ∧ ((decide (x ≥ a)) = true → (decide (x ≥ a)) = true) ∧ (true = true) ∧ (((decide (x ≥ a)) = true → (decide (x ≥ a)) = true)) ∧ (((decide (x ≥ a)) = false → true = true)) ∧ (((cond (decide (x ≥ a)) (decide (x ≤ b)) false) = (inB x a b)))
theorem J2Z (x : Int) (a : Int) (b : Int)   : J1C x a b := by
  unfold J1C
  refine ⟨id, id, rfl, id, fun _ => rfl, ?_⟩
  ·(simp only [inB]; by_cases h : a ≤ x <;> simp_all)
theorem J0I (x : Int) (a : Int) (b : Int)  : PC Try.prog 120 [.int .i64 x, .int .i64 a, .int .i64 b] (.one (.d (.bool (inB x a b)))) :=
  pc_wf @Try.call120 fun _ => pc_by (by kernel_rfl) Try.func120 @Try.call120 (by kernel_rfl) J3y (J3q x a b) (by kernel_rfl) (J2Z x a b) (by kernel_rfl)
def J0z : List D → Orc := orcN [none, none, none] fun ds => match ds with
  | [.int .i64 x, .int .i64 a, .int .i64 b] => some (.one (.d (.bool (inB x a b))))
  | _ => none
def sz1 (n : Nat) (left : Int) : Int := if left - n < 0 then -1 else left - n
def Jw (xss : ZR) (left : Int) (k : Nat) : Int := foldTo (fun l k => if l < 0 then l else sz1 (xss.getD k []).length l) left k
def J8 (xss : ZR) (left : Int) : Int := if left - xss.length < 0 then -1 else Jw xss (left - xss.length) xss.length
theorem J1V {xss : ZR} {left : Int} {k : Nat} (h : Jw xss left k < 0) : ∀ n, k ≤ n → Jw xss left n = Jw xss left k
  | 0, hk => by have : k = 0 := by omega
                rw [this]
  | n + 1, hk => by
    by_cases e : k = n + 1
    · rw [e]
    have h2 := J1V h n (by omega)
    show (if Jw xss left n < 0 then Jw xss left n else _) = _
    rw [h2, if_pos h]
theorem J2r {xss : ZR} {left : Int} {i : Int} (h0 : 0 ≤ i) (h : 0 ≤ Jw xss left i.toNat) : Jw xss left (i + 1).toNat = sz1 (xss.getD i.toNat []).length (Jw xss left i.toNat) := by
  have e : (i + 1).toNat = i.toNat + 1 := by omega
  rw [e]
  show (if Jw xss left i.toNat < 0 then _ else _) = _
  rw [if_neg (by omega)]
  rfl
theorem J26 {xss : ZR} {left : Int} : ∀ k, k ≤ xss.length → 0 ≤ Jw xss left k → Jw xss left k ≤ left ∧ ∀ j, j < k → ((xss.getD j []).length : Int) ≤ left
  | 0, _, _ => ⟨Int.le_refl _, fun j hj => by omega⟩
  | k + 1, hk, h => by
    have e : Jw xss left (k + 1) = if Jw xss left k < 0 then Jw xss left k else sz1 (xss.getD k []).length (Jw xss left k) := rfl
    rw [e] at h ⊢
    by_cases h2 : Jw xss left k < 0
    · rw [if_pos h2] at h; omega
    rw [if_neg h2] at h ⊢
    obtain ⟨h3, h4⟩ := J26 (xss := xss) (left := left) k (by omega) (by omega)
    unfold sz1 at h ⊢
    by_cases h5 : Jw xss left k - ((xss.getD k []).length : Int) < 0
    · rw [if_pos h5] at h; omega
    rw [if_neg h5] at h ⊢
    refine ⟨by omega, fun j hj => ?_⟩
    by_cases ej : j = k
    · rw [ej]; omega
    exact h4 j (by omega)
theorem J1f {xss : ZR} {left : Int} (h : 0 ≤ J8 xss left) : J8 xss left ≤ left ∧ (xss.length : Int) ≤ left ∧ ∀ xs ∈ xss, (xs.length : Int) ≤ left := by
  unfold J8 at h ⊢
  by_cases h2 : left - (xss.length : Int) < 0
  · rw [if_pos h2] at h; omega
  rw [if_neg h2] at h ⊢
  obtain ⟨h3, h4⟩ := J26 _ (Nat.le_refl _) h
  refine ⟨by omega, by omega, fun xs hx => ?_⟩
  obtain ⟨k, hk, rfl⟩ := List.mem_iff_getElem.1 hx
  have := h4 k hk
  simp [hk] at this
  omega
theorem J4b {n : Nat} {left : Int} (h : sz1 n left < 0) : sz1 n left = -1 := by
  unfold sz1 at *
  by_cases c : left - (n : Int) < 0
  · rw [if_pos c]
  rw [if_neg c] at h; omega
theorem J2q {n : Nat} {left : Int} (h : 0 ≤ sz1 n left) : sz1 n left ≤ left ∧ (n : Int) ≤ left := by
  unfold sz1 at *
  split at h <;> simp_all <;> omega
def J3P (f : FuncId) (ds : List D) : Orc := .no
def J3D (xs : ZI) (left : Int) : Ann := .none
def J1Y (xs : ZI) (left : Int) : Prop :=
  (I6 (left - (xs.length : Int))) ∧ (((decide ((left - (xs.length : Int)) < 0)) = true → ((((-1) : Int) = (sz1 xs.length left)))) ∧ ((decide ((left - (xs.length : Int)) < 0)) = false → (((left - (xs.length : Int)) = (sz1 xs.length left)))))
theorem J3u (xs : ZI) (left : Int) (hl : 0 ≤ left ∧ left ≤ 1048576) (w_xs : (xs.length : Int) ≤ 9223372036854775807) : J1Y xs left := by
  unfold J1Y
  refine ⟨?_, ?_, ?_⟩
  ·first | omega | rfl | (intro hg; simp only [nrmT] at hg; omega) | (intro g1 g2; simp [g1, g2]; done) | (intro g1; simp at g1 ⊢; simp [g1]; done) | (simp only [nrmT] at *; omega) | (simp at * <;> omega) | (simp_all <;> omega) | (simp_all; done)
  ·intro b1
   try simp only [nrmT] at b1
   unfold sz1; split <;> omega
  intro b2
  try simp only [nrmT] at b2
  unfold sz1; split <;> omega
theorem J1F (xs : ZI) (left : Int) (hl : 0 ≤ left ∧ left ≤ 1048576) : PC Try.prog 113 [.sl (.ints xs), .int .i64 left] (.one (.d (.int .i64 (sz1 xs.length left)))) :=
  pc_wf @Try.call113 fun hw => pc_by (by kernel_rfl) Try.func113 @Try.call113 (by kernel_rfl) J3P (J3D xs left) (by kernel_rfl) (J3u xs left hl hw.1) (by kernel_rfl)
def J1l : List D → Orc := orcN [some .ints, none] fun ds => match ds with
  | [.sl (.ints xs), .int .i64 left] => some (.one (.d (.int .i64 (sz1 xs.length left))))
  | _ => none
abbrev JT (xss : ZR) (left : Int) (left1 : Int) (i : Int) : Prop := (0 ≤ i) ∧ (i ≤ (xss.length : Int)) ∧ (left1 = Jw xss (left - xss.length) i.toNat) ∧ (0 ≤ left1 ∧ left1 ≤ 1048576) ∧ (0 ≤ left - (xss.length : Int))
abbrev JA (xss : ZR) (left : Int) (left1 : Int) (i : Int) : Nat := (xss.length - i).toNat
def J3h (f : FuncId) (ds : List D) : Orc := bif Nat.beq f 113 then J1l ds else .no
def J3g (xss : ZR) (left : Int) : Ann := .two (.none) (.two (.none) (.two (.none) (.two (.two (.none) (.loop (cut2 (fun (left1 : Int) (i : Int) => JT xss left left1 i) (fun (left1 : Int) (i : Int) => [(0, .d false (.sl (.rows xss))), (1, .d true (.int .i64 left1)), (5, .d true (.int .i64 i))]) (fun (left1 : Int) (i : Int) => [])) (fun g => JA xss left g.1 g.2) (fun _ => .none))) (.none))))
def J1B (xss : ZR) (left : Int) : Prop :=
  (I6 (left - (xss.length : Int))) ∧ (((decide ((left - (xss.length : Int)) < 0)) = true → ((((-1) : Int) = (J8 xss left)))) ∧ ((decide ((left - (xss.length : Int)) < 0)) = false → ((∃ left1' : Int, ∃ i' : Int, (JT xss left left1' i') ∧ (xss = xss) ∧ ((left - (xss.length : Int)) = left1') ∧ ((0 : Int) = i')) ∧ (∀ left1 : Int, ∀ i : Int, (JT xss left left1 i) → (((decide (i < (xss.length : Int))) = true → ((0 : Int) ≤ i) ∧ ((i : Int) < xss.length) ∧ (i.toNat < xss.length) ∧ (PC Try.prog 113 [.sl (.ints (xss.getD i.toNat [])), .int .i64 left1] (.one (.d (.int .i64 (sz1 (xss.getD i.toNat []).length left1))))) ∧ (((decide ((sz1 (xss.getD i.toNat []).length left1) < 0)) = true → ((((-1) : Int) = (J8 xss left)))) ∧ ((decide ((sz1 (xss.getD i.toNat []).length left1) < 0)) = false → (I6 (i + 1)) ∧ (∃ left1' : Int, ∃ i' : Int, (JT xss left left1' i') ∧ (JA xss left left1' i' < JA xss left left1 i) ∧ (xss = xss) ∧ ((sz1 (xss.getD i.toNat []).length left1) = left1') ∧ ((i + 1) = i'))))) ∧ ((decide (i < (xss.length : Int))) = false → ((left1 = (J8 xss left)))))))))
theorem J2N (xss : ZR) (left : Int) (hl : 0 ≤ left ∧ left ≤ 1048576) (w_xss : (xss.length : Int) ≤ 9223372036854775807) (v_xss : ∀ x9 ∈ xss, (x9.length : Int) ≤ 9223372036854775807) : J1B xss left := by
  unfold J1B
  refine ⟨?_, ?_, ?_⟩
  ·first | omega | rfl | (intro hg; simp only [nrmT] at hg; omega) | (intro g1 g2; simp [g1, g2]; done) | (intro g1; simp at g1 ⊢; simp [g1]; done) | (simp only [nrmT] at *; omega) | (simp at * <;> omega) | (simp_all <;> omega) | (simp_all; done)
  ·intro b1
   try simp only [nrmT] at b1
   unfold J8; rw [if_pos (by omega)]
  intro b2
  try simp only [nrmT] at b2
  refine ⟨?_, ?_⟩
  ·refine ⟨(left - (xss.length : Int)), 0, ?_⟩
   refine ⟨?_, rfl, rfl, rfl⟩
   ·refine ⟨?_, ?_, ?_, ?_, ?_⟩
    ·first | omega | rfl | (intro hg; simp only [nrmT] at hg; omega) | (intro g1 g2; simp [g1, g2]; done) | (intro g1; simp at g1 ⊢; simp [g1]; done) | (simp only [nrmT] at *; omega) | (simp at * <;> omega) | (simp_all <;> omega) | (simp_all; done)
    ·first | omega | rfl | (intro hg; simp only [nrmT] at hg; omega) | (intro g1 g2; simp [g1, g2]; done) | (intro g1; simp at g1 ⊢; simp [g1]; done) | (simp only [nrmT] at *; omega) | (simp at * <;> omega) | (simp_all <;> omega) | (simp_all; done)
    ·first | omega | rfl | (intro hg; simp only [nrmT] at hg; omega) | (intro g1 g2; simp [g1, g2]; done) | (intro g1; simp at g1 ⊢; simp [g1]; done) | (simp only [nrmT] at *; omega) | (simp at * <;> omega) | (simp_all <;> omega) | (simp_all; done)
    ·first | omega | rfl | (intro hg; simp only [nrmT] at hg; omega) | (intro g1 g2; simp [g1, g2]; done) | (intro g1; simp at g1 ⊢; simp [g1]; done) | (simp only [nrmT] at *; omega) | (simp at * <;> omega) | (simp_all <;> omega) | (simp_all; done)
    ·first | omega | rfl | (intro hg; simp only [nrmT] at hg; omega) | (intro g1 g2; simp [g1, g2]; done) | (intro g1; simp at g1 ⊢; simp [g1]; done) | (simp only [nrmT] at *; omega) | (simp at * <;> omega) | (simp_all <;> omega) | (simp_all; done)
  intro left1 i hJ
  obtain ⟨h1, h2, h3, h4, h5⟩ := hJ
  refine ⟨?_, ?_⟩
  ·intro b3
   try simp only [nrmT] at b3
   refine ⟨?_, ?_, ?_, ?_, ?_, ?_⟩
   ·first | omega | rfl | (intro hg; simp only [nrmT] at hg; omega) | (intro g1 g2; simp [g1, g2]; done) | (intro g1; simp at g1 ⊢; simp [g1]; done) | (simp only [nrmT] at *; omega) | (simp at * <;> omega) | (simp_all <;> omega) | (simp_all; done)
   ·first | omega | rfl | (intro hg; simp only [nrmT] at hg; omega) | (intro g1 g2; simp [g1, g2]; done) | (intro g1; simp at g1 ⊢; simp [g1]; done) | (simp only [nrmT] at *; omega) | (simp at * <;> omega) | (simp_all <;> omega) | (simp_all; done)
   ·first | omega | rfl | (intro hg; simp only [nrmT] at hg; omega) | (intro g1 g2; simp [g1, g2]; done) | (intro g1; simp at g1 ⊢; simp [g1]; done) | (simp only [nrmT] at *; omega) | (simp at * <;> omega) | (simp_all <;> omega) | (simp_all; done)
   ·refine J1F (xss.getD i.toNat []) left1 ?_
    ·first | omega | rfl | (intro hg; simp only [nrmT] at hg; omega) | (intro g1 g2; simp [g1, g2]; done) | (intro g1; simp at g1 ⊢; simp [g1]; done) | (simp only [nrmT] at *; omega) | (simp at * <;> omega) | (simp_all <;> omega) | (simp_all; done)
   ·intro b4
    try simp only [nrmT] at b4
    have e := J2r (xss := xss) (left := left - xss.length) h1 (by omega)
    rw [← h3] at e
    have e2 := J1V (k := (i + 1).toNat) (by rw [e]; exact b4) xss.length (by omega)
    unfold J8
    rw [if_neg (by omega), e2, e]
    exact (J4b b4).symm
   intro b5
   try simp only [nrmT] at b5
   refine ⟨?_, ?_⟩
   ·first | omega | rfl | (intro hg; simp only [nrmT] at hg; omega) | (intro g1 g2; simp [g1, g2]; done) | (intro g1; simp at g1 ⊢; simp [g1]; done) | (simp only [nrmT] at *; omega) | (simp at * <;> omega) | (simp_all <;> omega) | (simp_all; done)
   refine ⟨(sz1 (xss.getD i.toNat []).length left1), (i + 1), ?_⟩
   refine ⟨?_, ?_, rfl, rfl, rfl⟩
   ·refine ⟨?_, ?_, ?_, ?_, ?_⟩
    ·first | omega | rfl | (intro hg; simp only [nrmT] at hg; omega) | (intro g1 g2; simp [g1, g2]; done) | (intro g1; simp at g1 ⊢; simp [g1]; done) | (simp only [nrmT] at *; omega) | (simp at * <;> omega) | (simp_all <;> omega) | (simp_all; done)
    ·first | omega | rfl | (intro hg; simp only [nrmT] at hg; omega) | (intro g1 g2; simp [g1, g2]; done) | (intro g1; simp at g1 ⊢; simp [g1]; done) | (simp only [nrmT] at *; omega) | (simp at * <;> omega) | (simp_all <;> omega) | (simp_all; done)
    ·rw [h3, J2r h1 (by omega)]
    ·have := J2q (n := (xss.getD i.toNat []).length) (left := left1) (by omega)
     omega
    ·first | omega | rfl | (intro hg; simp only [nrmT] at hg; omega) | (intro g1 g2; simp [g1, g2]; done) | (intro g1; simp at g1 ⊢; simp [g1]; done) | (simp only [nrmT] at *; omega) | (simp at * <;> omega) | (simp_all <;> omega) | (simp_all; done)
   first | (show _ < _; omega) | (simp only [JA]; omega) | (simp only [JA] at *; simp at *; omega)
  intro b6
  try simp only [nrmT] at b6
  unfold J8
  rw [if_neg (by omega), h3]
  have : i.toNat = xss.length := by omega
  rw [this]
theorem J2U (xss : ZR) (left : Int) (hl : 0 ≤ left ∧ left ≤ 1048576) : PC Try.prog 114 [.sl (.rows xss), .int .i64 left] (.one (.d (.int .i64 (J8 xss left)))) :=
  pc_wf @Try.call114 fun hw => pc_by (by kernel_rfl) Try.func114 @Try.call114 (by kernel_rfl) J3h (J3g xss left) (by kernel_rfl) (J2N xss left hl hw.1.1 hw.1.2) (by kernel_rfl)
def J2E : List D → Orc := orcN [some .rows, none] fun ds => match ds with
  | [.sl (.rows xss), .int .i64 left] => some (.one (.d (.int .i64 (J8 xss left))))
  | _ => none
def J0P (xs : ZI) (lo hi : Int) (k : Nat) : Bool := inB (xs.getD k 0) lo hi && (decide (k = 0) || decide (xs.getD (k - 1) 0 < xs.getD k 0))
def J3 (xs : ZI) (lo hi : Int) : Bool := allTo (J0P xs lo hi) xs.length
theorem J0q {xs : ZI} {lo hi i : Int} (h0 : 0 ≤ i) {c : Bool} (hc : (cond (!(inB (xs.getD i.toNat 0) lo hi)) true (cond (decide (i > 0)) (decide (xs.getD (i - 1).toNat 0 ≥ xs.getD i.toNat 0)) false)) = c) :
    J0P xs lo hi i.toNat = !c := by
  subst hc
  have e : (i - 1).toNat = i.toNat - 1 := by omega
  unfold J0P
  rw [e]
  cases inB (xs.getD i.toNat 0) lo hi
  · rfl
  by_cases h : i > 0
  · have h2 : ¬ i.toNat = 0 := by omega
    simp [h, h2]
    by_cases h3 : xs[i.toNat - 1]?.getD 0 < xs[i.toNat]?.getD 0
    · simp [h3]
    simp [h3]; omega
  · have h2 : i.toNat = 0 := by omega
    simp [h, h2]
abbrev JI (xs : ZI) (lo : Int) (hi : Int) (i : Int) : Prop := (0 ≤ i) ∧ (i ≤ (xs.length : Int)) ∧ (allTo (J0P xs lo hi) i.toNat = true)
abbrev JL (xs : ZI) (lo : Int) (hi : Int) (i : Int) : Nat := (xs.length - i).toNat
def J3a (f : FuncId) (ds : List D) : Orc := bif Nat.beq f 116 then J1R ds else .no
def J32 (xs : ZI) (lo : Int) (hi : Int) : Ann := .two (.none) (.two (.two (.none) (.loop (cut1 (fun (i : Int) => JI xs lo hi i) (fun (i : Int) => [(0, .d false (.sl (.ints xs))), (1, .d false (.int .i64 lo)), (2, .d false (.int .i64 hi)), (7, .d true (.int .i64 i))]) (fun (i : Int) => [])) (fun g => JL xs lo hi g) (fun _ => .none))) (.none))
def J1g (xs : ZI) (lo : Int) (hi : Int) : Prop :=
  ((∃ i' : Int, (JI xs lo hi i') ∧ (xs = xs) ∧ (lo = lo) ∧ (hi = hi) ∧ ((0 : Int) = i')) ∧ (∀ i : Int, (JI xs lo hi i) → (((decide (i < (xs.length : Int))) = true → (true = true) ∧ ((0 : Int) ≤ i) ∧ ((i : Int) < xs.length) ∧ (i.toNat < xs.length) ∧ (PC Try.prog 116 [.int .i64 (xs.getD i.toNat 0), .int .i64 lo, .int .i64 hi] (.one (.d (.bool (inB (xs.getD i.toNat 0) lo hi))))) ∧ ((!(!(inB (xs.getD i.toNat 0) lo hi))) = true → (!(!(inB (xs.getD i.toNat 0) lo hi))) = true) ∧ ((!(!(inB (xs.getD i.toNat 0) lo hi))) = true → (!(!(inB (xs.getD i.toNat 0) lo hi))) = true) ∧ (((!(!(inB (xs.getD i.toNat 0) lo hi))) && (decide (i > 0))) = true → ((!(!(inB (xs.getD i.toNat 0) lo hi))) && (decide (i > 0))) = true) ∧ ((((!(!(inB (xs.getD i.toNat 0) lo hi))) && (decide (i > 0))) = true → I6 (i - 1))) ∧ (((!(!(inB (xs.getD i.toNat 0) lo hi))) && (decide (i > 0))) = true → ((!(!(inB (xs.getD i.toNat 0) lo hi))) && (decide (i > 0))) = true) ∧ (((!(!(inB (xs.getD i.toNat 0) lo hi))) && (decide (i > 0))) = true → ((!(!(inB (xs.getD i.toNat 0) lo hi))) && (decide (i > 0))) = true) ∧ ((((!(!(inB (xs.getD i.toNat 0) lo hi))) && (decide (i > 0))) = true → (0 : Int) ≤ (i - 1))) ∧ ((((!(!(inB (xs.getD i.toNat 0) lo hi))) && (decide (i > 0))) = true → ((i - 1) : Int) < xs.length)) ∧ (((!(!(inB (xs.getD i.toNat 0) lo hi))) && (decide (i > 0))) = true → ((!(!(inB (xs.getD i.toNat 0) lo hi))) && (decide (i > 0))) = true) ∧ ((((!(!(inB (xs.getD i.toNat 0) lo hi))) && (decide (i > 0))) = true → (i - 1).toNat < xs.length)) ∧ (((!(!(inB (xs.getD i.toNat 0) lo hi))) && (decide (i > 0))) = true → ((!(!(inB (xs.getD i.toNat 0) lo hi))) && (decide (i > 0))) = true) ∧ (((!(!(inB (xs.getD i.toNat 0) lo hi))) && (decide (i > 0))) = true → ((!(!(inB (xs.getD i.toNat 0) lo hi))) && (decide (i > 0))) = true) ∧ ((((!(!(inB (xs.getD i.toNat 0) lo hi))) && (decide (i > 0))) = true → (0 : Int) ≤ i)) ∧ ((((!(!(inB (xs.getD i.toNat 0) lo hi))) && (decide (i > 0))) = true → (i : Int) < xs.length)) ∧ (((!(!(inB (xs.getD i.toNat 0) lo hi))) && (decide (i > 0))) = true → ((!(!(inB (xs.getD i.toNat 0) lo hi))) && (decide (i > 0))) = true) ∧ ((((!(!(inB (xs.getD i.toNat 0) lo hi))) && (decide (i > 0))) = true → i.toNat < xs.length)) ∧ (((!(!(inB (xs.getD i.toNat 0) lo hi))) && (decide (i > 0))) = true → ((!(!(inB (xs.getD i.toNat 0) lo hi))) && (decide (i > 0))) = true) ∧ (((!(!(inB (xs.getD i.toNat 0) lo hi))) && (decide (i > 0))) = true → ((!(!(inB (xs.getD i.toNat 0) lo hi))) && (decide (i > 0))) = true) ∧ (((!(!(inB (xs.getD i.toNat 0) lo hi))) = true → (!(!(inB (xs.getD i.toNat 0) lo hi))) = true)) ∧ (((!(!(inB (xs.getD i.toNat 0) lo hi))) = true → (decide (i > 0)) = true → ((!(!(inB (xs.getD i.toNat 0) lo hi))) && (decide (i > 0))) = true)) ∧ (((!(!(inB (xs.getD i.toNat 0) lo hi))) = true → (decide (i > 0)) = false → true = true)) ∧ (true = true) ∧ (((!(inB (xs.getD i.toNat 0) lo hi)) = true → true = true)) ∧ (((!(inB (xs.getD i.toNat 0) lo hi)) = false → (!(!(inB (xs.getD i.toNat 0) lo hi))) = true)) ∧ (((cond (!(inB (xs.getD i.toNat 0) lo hi)) true (cond (decide (i > 0)) (decide ((xs.getD ((i - 1).toNat) 0) ≥ (xs.getD i.toNat 0))) false)) = true → ((false = (J3 xs lo hi)))) ∧ ((cond (!(inB (xs.getD i.toNat 0) lo hi)) true (cond (decide (i > 0)) (decide ((xs.getD ((i - 1).toNat) 0) ≥ (xs.getD i.toNat 0))) false)) = false → (I6 (i + 1)) ∧ (∃ i' : Int, (JI xs lo hi i') ∧ (JL xs lo hi i' < JL xs lo hi i) ∧ (xs = xs) ∧ (lo = lo) ∧ (hi = hi) ∧ ((i + 1) = i'))))) ∧ ((decide (i < (xs.length : Int))) = false → ((true = (J3 xs lo hi)))))))
theorem J2G (xs : ZI) (lo : Int) (hi : Int)  (w_xs : (xs.length : Int) ≤ 9223372036854775807) : J1g xs lo hi := by
  unfold J1g
  refine ⟨?_, ?_⟩
  ·refine ⟨0, ?_⟩
   refine ⟨?_, rfl, rfl, rfl, rfl⟩
   ·refine ⟨?_, ?_, ?_⟩
    ·omega
    ·omega
    ·rfl
  intro i hJ
  obtain ⟨h1, h2, h3⟩ := hJ
  refine ⟨?_, ?_⟩
  ·intro b1
   try simp only [nrmT] at b1
   refine ⟨rfl, ?_, ?_, ?_, J1s (xs.getD i.toNat 0) lo hi, id, id, id, ?_, id, id, ?_, ?_, id, ?_, id, id, ?_, ?_, id, ?_, id, id, id, ?_, fun _ _ => rfl, rfl, fun _ => rfl, ?_, ?_, ?_⟩
   ·omega
   ·omega
   ·omega
   ·omega
   ·(intro hg; simp only [nrmT] at hg; omega)
   ·omega
   ·omega
   ·omega
   ·omega
   ·omega
   ·(simp_all; done)
   ·(simp_all; done)
   ·intro b2
    have e := J0q h1 b2
    exact (allTo_falseI h1 (by omega) e).symm
   intro b3
   refine ⟨?_, ?_⟩
   ·omega
   refine ⟨(i + 1), ?_⟩
   refine ⟨?_, ?_, rfl, rfl, rfl, rfl⟩
   ·refine ⟨?_, ?_, ?_⟩
    ·omega
    ·omega
    ·have e := J0q h1 b3
     exact allTo_step h1 h3 e
   (simp only [JL]; omega)
  intro b4
  try simp only [nrmT] at b4
  have e : i.toNat = xs.length := by omega
  rw [e] at h3
  exact h3.symm
theorem J2F (xs : ZI) (lo : Int) (hi : Int)  : PC Try.prog 167 [.sl (.ints xs), .int .i64 lo, .int .i64 hi] (.one (.d (.bool (J3 xs lo hi)))) :=
  pc_wf @Try.call167 fun hw => pc_by (by kernel_rfl) Try.func167 @Try.call167 (by kernel_rfl) J3a (J32 xs lo hi) (by kernel_rfl) (J2G xs lo hi hw.1) (by kernel_rfl)
def J2d : List D → Orc := orcN [some .ints, none, none] fun ds => match ds with
  | [.sl (.ints xs), .int .i64 lo, .int .i64 hi] => some (.one (.d (.bool (J3 xs lo hi))))
  | _ => none
abbrev JF (xs : ZI) (below : Int) (i : Int) : Prop := (0 ≤ i) ∧ (i ≤ (xs.length : Int)) ∧ (allTo (J0P xs 0 (below - 1)) i.toNat = true)
abbrev JJ (xs : ZI) (below : Int) (i : Int) : Nat := (xs.length - i).toNat
def J37 (f : FuncId) (ds : List D) : Orc := bif Nat.beq f 120 then J0z ds else .no
def J39 (xs : ZI) (below : Int) : Ann := .two (.none) (.two (.two (.none) (.loop (cut1 (fun (i : Int) => JF xs below i) (fun (i : Int) => [(0, .d false (.sl (.ints xs))), (1, .d false (.int .i64 below)), (7, .d false (.sl (.ints xs))), (8, .d true (.int .i64 (xs.length : Int))), (9, .d true (.int .i64 i))]) (fun (i : Int) => [])) (fun g => JJ xs below g) (fun _ => .none))) (.none))
def J1e (xs : ZI) (below : Int) : Prop :=
  ((∃ i' : Int, (JF xs below i') ∧ (xs = xs) ∧ (below = below) ∧ (xs = xs) ∧ ((xs.length : Int) = (xs.length : Int)) ∧ ((0 : Int) = i')) ∧ (∀ i : Int, (JF xs below i) → (((decide (i < (xs.length : Int))) = true → ((0 : Int) ≤ i) ∧ ((i : Int) < xs.length) ∧ (i.toNat < xs.length) ∧ (I6 (below - 1)) ∧ (PC Try.prog 120 [.int .i64 (xs.getD i.toNat 0), .int .i64 0, .int .i64 (below - 1)] (.one (.d (.bool (inB (xs.getD i.toNat 0) 0 (below - 1)))))) ∧ ((!(!(inB (xs.getD i.toNat 0) 0 (below - 1)))) = true → (!(!(inB (xs.getD i.toNat 0) 0 (below - 1)))) = true) ∧ ((!(!(inB (xs.getD i.toNat 0) 0 (below - 1)))) = true → (!(!(inB (xs.getD i.toNat 0) 0 (below - 1)))) = true) ∧ (((!(!(inB (xs.getD i.toNat 0) 0 (below - 1)))) && (decide (i > 0))) = true → ((!(!(inB (xs.getD i.toNat 0) 0 (below - 1)))) && (decide (i > 0))) = true) ∧ ((((!(!(inB (xs.getD i.toNat 0) 0 (below - 1)))) && (decide (i > 0))) = true → I6 (i - 1))) ∧ (((!(!(inB (xs.getD i.toNat 0) 0 (below - 1)))) && (decide (i > 0))) = true → ((!(!(inB (xs.getD i.toNat 0) 0 (below - 1)))) && (decide (i > 0))) = true) ∧ (((!(!(inB (xs.getD i.toNat 0) 0 (below - 1)))) && (decide (i > 0))) = true → ((!(!(inB (xs.getD i.toNat 0) 0 (below - 1)))) && (decide (i > 0))) = true) ∧ ((((!(!(inB (xs.getD i.toNat 0) 0 (below - 1)))) && (decide (i > 0))) = true → (0 : Int) ≤ (i - 1))) ∧ ((((!(!(inB (xs.getD i.toNat 0) 0 (below - 1)))) && (decide (i > 0))) = true → ((i - 1) : Int) < xs.length)) ∧ (((!(!(inB (xs.getD i.toNat 0) 0 (below - 1)))) && (decide (i > 0))) = true → ((!(!(inB (xs.getD i.toNat 0) 0 (below - 1)))) && (decide (i > 0))) = true) ∧ ((((!(!(inB (xs.getD i.toNat 0) 0 (below - 1)))) && (decide (i > 0))) = true → (i - 1).toNat < xs.length)) ∧ (((!(!(inB (xs.getD i.toNat 0) 0 (below - 1)))) && (decide (i > 0))) = true → ((!(!(inB (xs.getD i.toNat 0) 0 (below - 1)))) && (decide (i > 0))) = true) ∧ (((!(!(inB (xs.getD i.toNat 0) 0 (below - 1)))) && (decide (i > 0))) = true → ((!(!(inB (xs.getD i.toNat 0) 0 (below - 1)))) && (decide (i > 0))) = true) ∧ (((!(!(inB (xs.getD i.toNat 0) 0 (below - 1)))) = true → (!(!(inB (xs.getD i.toNat 0) 0 (below - 1)))) = true)) ∧ (((!(!(inB (xs.getD i.toNat 0) 0 (below - 1)))) = true → (decide (i > 0)) = true → ((!(!(inB (xs.getD i.toNat 0) 0 (below - 1)))) && (decide (i > 0))) = true)) ∧ (((!(!(inB (xs.getD i.toNat 0) 0 (below - 1)))) = true → (decide (i > 0)) = false → true = true)) ∧ (true = true) ∧ (((!(inB (xs.getD i.toNat 0) 0 (below - 1))) = true → true = true)) ∧ (((!(inB (xs.getD i.toNat 0) 0 (below - 1))) = false → (!(!(inB (xs.getD i.toNat 0) 0 (below - 1)))) = true)) ∧ (((cond (!(inB (xs.getD i.toNat 0) 0 (below - 1))) true (cond (decide (i > 0)) (decide ((xs.getD i.toNat 0) ≤ (xs.getD ((i - 1).toNat) 0))) false)) = true → ((false = (J3 xs 0 (below - 1))))) ∧ ((cond (!(inB (xs.getD i.toNat 0) 0 (below - 1))) true (cond (decide (i > 0)) (decide ((xs.getD i.toNat 0) ≤ (xs.getD ((i - 1).toNat) 0))) false)) = false → (I6 (i + 1)) ∧ (∃ i' : Int, (JF xs below i') ∧ (JJ xs below i' < JJ xs below i) ∧ (xs = xs) ∧ (below = below) ∧ (xs = xs) ∧ ((xs.length : Int) = (xs.length : Int)) ∧ ((i + 1) = i'))))) ∧ ((decide (i < (xs.length : Int))) = false → ((true = (J3 xs 0 (below - 1))))))))
theorem J2H (xs : ZI) (below : Int) (hb : -9223372036854775808 < below ∧ below ≤ 9223372036854775807) (w_xs : (xs.length : Int) ≤ 9223372036854775807) : J1e xs below := by
  unfold J1e
  refine ⟨?_, ?_⟩
  ·refine ⟨0, ?_⟩
   refine ⟨?_, rfl, rfl, rfl, rfl, rfl⟩
   ·refine ⟨?_, ?_, ?_⟩
    ·omega
    ·omega
    ·rfl
  intro i hJ
  obtain ⟨h1, h2, h3⟩ := hJ
  refine ⟨?_, ?_⟩
  ·intro b1
   try simp only [nrmT] at b1
   refine ⟨?_, ?_, ?_, ?_, J0I (xs.getD i.toNat 0) 0 (below - 1), id, id, id, ?_, id, id, ?_, ?_, id, ?_, id, id, id, ?_, fun _ _ => rfl, rfl, fun _ => rfl, ?_, ?_, ?_⟩
   ·omega
   ·omega
   ·omega
   ·omega
   ·omega
   ·(intro hg; simp only [nrmT] at hg; omega)
   ·omega
   ·omega
   ·(simp_all; done)
   ·(simp_all; done)
   ·intro b2
    have e := J0q h1 b2
    exact (allTo_falseI h1 (by omega) e).symm
   intro b3
   refine ⟨?_, ?_⟩
   ·omega
   refine ⟨(i + 1), ?_⟩
   refine ⟨?_, ?_, rfl, rfl, rfl, rfl, rfl⟩
   ·refine ⟨?_, ?_, ?_⟩
    ·omega
    ·omega
    ·have e := J0q h1 b3
     exact allTo_step h1 h3 e
   (simp only [JJ]; omega)
  intro b4
  try simp only [nrmT] at b4
  have e : i.toNat = xs.length := by omega
  rw [e] at h3
  exact h3.symm
theorem J2v (xs : ZI) (below : Int) (hb : -9223372036854775808 < below ∧ below ≤ 9223372036854775807) : PC Try.prog 130 [.sl (.ints xs), .int .i64 below] (.one (.d (.bool (J3 xs 0 (below - 1))))) :=
  pc_wf @Try.call130 fun hw => pc_by (by kernel_rfl) Try.func130 @Try.call130 (by kernel_rfl) J37 (J39 xs below) (by kernel_rfl) (J2H xs below hb hw.1) (by kernel_rfl)
def J2o : List D → Orc := orcN [some .ints, none] fun ds => match ds with
  | [.sl (.ints xs), .int .i64 below] => some (.one (.d (.bool (J3 xs 0 (below - 1)))))
  | _ => none
theorem J3A (m n : Nat) : ((m : Int) == (n : Int)) = decide (m = n) := by
  rw [Bool.eq_iff_iff]; simp only [beq_iff_eq, decide_eq_true_eq]; omega
theorem J41 (m n : Nat) : decide ((m : Int) ≤ (n : Int)) = decide (m ≤ n) := by
  rw [Bool.eq_iff_iff]; simp only [decide_eq_true_eq]; omega
theorem J3B {α : Type} {p : α → Bool} {d : α} {xs : List α} {i : Int} (h2 : (xs.length : Int) ≤ i) (h2' : i ≤ (xs.length : Int)) (h3 : allTo (fun k => p (xs.getD k d)) i.toNat = true) : xs.all p = true := by
  have e : i.toNat = xs.length := by omega
  rw [e, allTo_list] at h3; exact h3
theorem J3V {α : Type} {p : α → Bool} {d : α} {xs : List α} {i : Int} (h0 : 0 ≤ i) (h : i < (xs.length : Int)) (h3 : p (xs.getD i.toNat d) = false) : xs.all p = false := by
  rw [← allTo_list (d := d)]; exact allTo_falseI h0 h h3
abbrev J09 (size : Int) (xss : ZR) (i : Int) : Prop := (0 ≤ i) ∧ (i ≤ (xss.length : Int)) ∧ (allTo (fun k => J3 (xss.getD k []) 0 (size - 1)) i.toNat = true)
abbrev J06 (size : Int) (xss : ZR) (i : Int) : Nat := (xss.length - i).toNat
def J3G (f : FuncId) (ds : List D) : Orc := bif Nat.beq f 167 then J2d ds else .no
def J3N (size : Int) (xss : ZR) : Ann := .two (.none) (.two (.two (.none) (.loop (cut1 (fun (i : Int) => J09 size xss i) (fun (i : Int) => [(0, .d false (.int .i64 size)), (1, .d false (.sl (.rows xss))), (5, .d true (.int .i64 i))]) (fun (i : Int) => [])) (fun g => J06 size xss g) (fun _ => .none))) (.none))
def J22 (size : Int) (xss : ZR) : Prop :=
  ((∃ i' : Int, (J09 size xss i') ∧ (size = size) ∧ (xss = xss) ∧ ((0 : Int) = i')) ∧ (∀ i : Int, (J09 size xss i) → (((decide (i < (xss.length : Int))) = true → ((0 : Int) ≤ i) ∧ ((i : Int) < xss.length) ∧ (i.toNat < xss.length) ∧ (I6 (size - 1)) ∧ (PC Try.prog 167 [.sl (.ints (xss.getD i.toNat [])), .int .i64 0, .int .i64 (size - 1)] (.one (.d (.bool (J3 (xss.getD i.toNat []) 0 (size - 1)))))) ∧ (((!(J3 (xss.getD i.toNat []) 0 (size - 1))) = true → ((false = (xss.all (fun xs => J3 xs 0 (size - 1)) && decide (xss.length ≤ 8))))) ∧ ((!(J3 (xss.getD i.toNat []) 0 (size - 1))) = false → (I6 (i + 1)) ∧ (∃ i' : Int, (J09 size xss i') ∧ (J06 size xss i' < J06 size xss i) ∧ (size = size) ∧ (xss = xss) ∧ ((i + 1) = i'))))) ∧ ((decide (i < (xss.length : Int))) = false → (((decide ((xss.length : Int) ≤ 8)) = (xss.all (fun xs => J3 xs 0 (size - 1)) && decide (xss.length ≤ 8))))))))
theorem J3x (size : Int) (xss : ZR) (hb : 0 ≤ size ∧ size ≤ 8) (w_xss : (xss.length : Int) ≤ 9223372036854775807) (v_xss : ∀ x9 ∈ xss, (x9.length : Int) ≤ 9223372036854775807) : J22 size xss := by
  unfold J22
  refine ⟨?_, ?_⟩
  ·refine ⟨0, ?_⟩
   refine ⟨?_, rfl, rfl, rfl⟩
   ·refine ⟨?_, ?_, ?_⟩
    ·omega
    ·omega
    ·rfl
  intro i hJ
  obtain ⟨h1, h2, h3⟩ := hJ
  refine ⟨?_, ?_⟩
  ·intro b1
   try simp only [nrmT] at b1
   refine ⟨?_, ?_, ?_, ?_, J2F (xss.getD i.toNat []) 0 (size - 1), ?_, ?_⟩
   ·omega
   ·omega
   ·omega
   ·omega
   ·intro b2
    try simp only [nrmT] at b2
    rw [J3V (d := []) h1 (by omega) b2]; rfl
   intro b3
   try simp only [nrmT] at b3
   refine ⟨?_, ?_⟩
   ·omega
   refine ⟨(i + 1), ?_⟩
   refine ⟨?_, ?_, rfl, rfl, rfl⟩
   ·refine ⟨?_, ?_, ?_⟩
    ·omega
    ·omega
    ·exact allTo_step h1 h3 b3
   (simp only [J06]; omega)
  intro b4
  try simp only [nrmT] at b4
  rw [J3B (p := fun xs => J3 xs 0 (size - 1)) (d := []) (by omega) h2 h3, Bool.true_and]; exact J41 _ 8
theorem J3r (size : Int) (xss : ZR) (hb : 0 ≤ size ∧ size ≤ 8) : PC Try.prog 201 [.int .i64 size, .sl (.rows xss)] (.one (.d (.bool (xss.all (fun xs => J3 xs 0 (size - 1)) && decide (xss.length ≤ 8))))) :=
  pc_wf @Try.call201 fun hw => pc_by (by kernel_rfl) Try.func201 @Try.call201 (by kernel_rfl) J3G (J3N size xss) (by kernel_rfl) (J3x size xss hb hw.2.1.1 hw.2.1.2) (by kernel_rfl)
def J2X : List D → Orc := orcN [none, some .rows] fun ds => match ds with
  | [.int .i64 size, .sl (.rows xss)] => some (.one (.d (.bool (xss.all (fun xs => J3 xs 0 (size - 1)) && decide (xss.length ≤ 8)))))
  | _ => none
def J0 (size : Int) (sets : ZR) (costs : ZI) : Bool :=
  inB size 0 8 && decide (sets.length ≤ 8) && decide (costs.length = sets.length) && costs.all (fun x => inB x 1 99) && sets.all (fun xs => J3 xs 0 (size - 1))
theorem J43 {x lo hi : Int} (h : inB x lo hi = true) : lo ≤ x ∧ x ≤ hi := of_decide_eq_true h
abbrev J0a (Size : Int) (Sets : ZR) (Costs : ZI) (i : Int) : Prop := (0 ≤ i) ∧ (i ≤ (Costs.length : Int)) ∧ (allTo (fun k => inB (Costs.getD k 0) 1 99) i.toNat = true)
abbrev J0b (Size : Int) (Sets : ZR) (Costs : ZI) (i : Int) : Nat := (Costs.length - i).toNat
def J3H (f : FuncId) (ds : List D) : Orc := bif Nat.beq f 116 then J1R ds else bif Nat.beq f 201 then J2X ds else .no
def J3M (Size : Int) (Sets : ZR) (Costs : ZI) : Ann := .two (.none) (.two (.two (.none) (.loop (cut1 (fun (i : Int) => J0a Size Sets Costs i) (fun (i : Int) => [(1, .ptr 1 0), (3, .d true (.int .i64 i))]) (fun (i : Int) => [(1, .box 36 [.d false (.int .i64 Size), .d false (.sl (.rows Sets)), .d false (.sl (.ints Costs))])])) (fun g => J0b Size Sets Costs g) (fun _ => .none))) (.none))
def J7 (Size : Int) (Sets : ZR) : Bool := (cond (inB Size 0 8) (Sets.all (fun xs => J3 xs 0 (Size - 1)) && decide (Sets.length ≤ 8)) false)
def J1Q (Size : Int) (Sets : ZR) (Costs : ZI) : Prop :=
  ((∃ i' : Int, (J0a Size Sets Costs i') ∧ ((0 : Int) = i') ∧ (Size = Size) ∧ (Sets = Sets) ∧ (Costs = Costs)) ∧ (∀ i : Int, (J0a Size Sets Costs i) → (((decide (i < (Costs.length : Int))) = true → ((0 : Int) ≤ i) ∧ ((i : Int) < Costs.length) ∧ (i.toNat < Costs.length) ∧ (PC Try.prog 116 [.int .i64 (Costs.getD i.toNat 0), .int .i64 1, .int .i64 99] (.one (.d (.bool (inB (Costs.getD i.toNat 0) 1 99))))) ∧ (((!(inB (Costs.getD i.toNat 0) 1 99)) = true → ((false = (J0 Size Sets Costs)))) ∧ ((!(inB (Costs.getD i.toNat 0) 1 99)) = false → (I6 (i + 1)) ∧ (∃ i' : Int, (J0a Size Sets Costs i') ∧ (J0b Size Sets Costs i' < J0b Size Sets Costs i) ∧ ((i + 1) = i') ∧ (Size = Size) ∧ (Sets = Sets) ∧ (Costs = Costs))))) ∧ ((decide (i < (Costs.length : Int))) = false → (PC Try.prog 116 [.int .i64 Size, .int .i64 0, .int .i64 8] (.one (.d (.bool (inB Size 0 8))))) ∧ ((inB Size 0 8) = true → (inB Size 0 8) = true) ∧ ((inB Size 0 8) = true → (inB Size 0 8) = true) ∧ ((inB Size 0 8) = true → (inB Size 0 8) = true) ∧ ((inB Size 0 8) = true → (inB Size 0 8) = true) ∧ ((inB Size 0 8) = true → PC Try.prog 201 [.int .i64 Size, .sl (.rows Sets)] (.one (.d (.bool (Sets.all (fun xs => J3 xs 0 (Size - 1)) && decide (Sets.length ≤ 8)))))) ∧ (true = true) ∧ (((inB Size 0 8) = true → (inB Size 0 8) = true)) ∧ (((inB Size 0 8) = false → true = true)) ∧ ((J7 Size Sets) = true → (J7 Size Sets) = true) ∧ ((J7 Size Sets) = true → (J7 Size Sets) = true) ∧ ((J7 Size Sets) = true → (J7 Size Sets) = true) ∧ ((J7 Size Sets) = true → (J7 Size Sets) = true) ∧ ((J7 Size Sets) = true → (J7 Size Sets) = true) ∧ ((J7 Size Sets) = true → (J7 Size Sets) = true) ∧ (true = true) ∧ (((J7 Size Sets) = true → (J7 Size Sets) = true)) ∧ (((J7 Size Sets) = false → true = true)) ∧ (((cond (J7 Size Sets) ((Costs.length : Int) == (Sets.length : Int)) false) = (J0 Size Sets Costs)))))))
theorem J3v (Size : Int) (Sets : ZR) (Costs : ZI)  (w_Sets : (Sets.length : Int) ≤ 9223372036854775807) (v_Sets : ∀ x9 ∈ Sets, (x9.length : Int) ≤ 9223372036854775807) (w_Costs : (Costs.length : Int) ≤ 9223372036854775807) : J1Q Size Sets Costs := by
  unfold J1Q J7
  refine ⟨?_, ?_⟩
  ·refine ⟨0, ?_⟩
   refine ⟨?_, rfl, rfl, rfl, rfl⟩
   ·refine ⟨?_, ?_, ?_⟩
    ·omega
    ·omega
    ·rfl
  intro i hJ
  obtain ⟨h1, h2, h3⟩ := hJ
  refine ⟨?_, ?_⟩
  ·intro b1
   try simp only [nrmT] at b1
   refine ⟨?_, ?_, ?_, J1s (Costs.getD i.toNat 0) 1 99, ?_, ?_⟩
   ·omega
   ·omega
   ·omega
   ·intro b2
    try simp only [nrmT] at b2
    unfold J0
    rw [J3V (p := fun x => inB x 1 99) (d := 0) h1 (by omega) b2]
    simp
   intro b3
   try simp only [nrmT] at b3
   refine ⟨?_, ?_⟩
   ·omega
   refine ⟨(i + 1), ?_⟩
   refine ⟨?_, ?_, rfl, rfl, rfl, rfl⟩
   ·refine ⟨?_, ?_, ?_⟩
    ·omega
    ·omega
    ·exact allTo_step h1 h3 b3
   (simp only [J0b]; omega)
  intro b4
  try simp only [nrmT] at b4
  refine ⟨J1s Size 0 8, id, id, id, id, ?_, rfl, id, fun _ => rfl, id, id, id, id, id, id, rfl, id, fun _ => rfl, ?_⟩
  ·intro hg
   refine J3r Size Sets ?_
   ·exact J43 hg
  unfold J0
  rw [J3B (p := fun x => inB x 1 99) (d := 0) (by omega) h2 h3, J3A]
  cases inB Size 0 8 <;> cases decide (Sets.length ≤ 8) <;> cases Sets.all (fun xs => J3 xs 0 (Size - 1)) <;> cases decide (Costs.length = Sets.length) <;> rfl
theorem J3p (Size : Int) (Sets : ZR) (Costs : ZI)  : PC Try.prog 122 [.agg [.int .i64 Size, .sl (.rows Sets), .sl (.ints Costs)]] (.one (.d (.bool (J0 Size Sets Costs)))) :=
  pc_wf @Try.call122 fun hw => pc_by (by kernel_rfl) Try.func122 @Try.call122 (by kernel_rfl) J3H (J3M Size Sets Costs) (by kernel_rfl) (J3v Size Sets Costs hw.1.2.1.1 hw.1.2.1.2 hw.1.2.2.1) (by kernel_rfl)
def J2Q : List D → Orc := orcN [none] fun ds => match ds with
  | [.agg [.int .i64 Size, .sl (.rows Sets), .sl (.ints Costs)]] => some (.one (.d (.bool (J0 Size Sets Costs))))
  | _ => none
def J1H (f : FuncId) (ds : List D) : Orc := bif Nat.beq f 120 then J0z ds else .no
def J1J (x : Int) (lo : Int) (hi : Int) : Ann := .none
def J0F (x : Int) (lo : Int) (hi : Int) : Prop :=
  (PC Try.prog 120 [.int .i64 x, .int .i64 lo, .int .i64 hi] (.one (.d (.bool (inB x lo hi))))) ∧ (((!(inB x lo hi)) = (!(inB x lo hi))))
theorem J1v (x : Int) (lo : Int) (hi : Int)   : J0F x lo hi := by
  unfold J0F
  refine ⟨J0I x lo hi, rfl⟩
theorem J1x (x : Int) (lo : Int) (hi : Int)  : PC Try.prog 205 [.int .i64 x, .bx [.int .i64 lo] 0, .bx [.int .i64 hi] 0] (.one (.d (.bool (!(inB x lo hi))))) :=
  pc_wf @Try.call205 fun _ => pc_by (by kernel_rfl) Try.func205 @Try.call205 (by kernel_rfl) J1H (J1J x lo hi) (by kernel_rfl) (J1v x lo hi) (by kernel_rfl)
def J1o : List D → Orc := orcN [none, none, none] fun ds => match ds with
  | [.int .i64 x, .bx [.int .i64 lo] 0, .bx [.int .i64 hi] 0] => some (.one (.d (.bool (!(inB x lo hi)))))
  | _ => none
abbrev Jb (xs : ZI) (lo : Int) (hi : Int) (i : Int) : Prop := (0 ≤ i) ∧ (i ≤ (xs.length : Int)) ∧ (∀ k, k < i.toNat → (fun x => !(inB x lo hi)) (xs.getD k 0) = false)
abbrev Ja (xs : ZI) (lo : Int) (hi : Int) (i : Int) : Nat := (xs.length - i).toNat
def J0i (f : FuncId) (ds : List D) : Orc := bif Nat.beq f 205 then J1o ds else .no
def J0g (xs : ZI) (lo : Int) (hi : Int) : Ann := .two (.none) (.two (.two (.none) (.loop (cut1 (fun (i : Int) => Jb xs lo hi i) (fun (i : Int) => [(0, .d false (.sl (.ints xs))), (1, .d false (.fn 205 0 [.bx [.int .i64 lo] 0, .bx [.int .i64 hi] 0])), (7, .d true (.int .i64 (xs.length : Int))), (8, .d true (.int .i64 i))]) (fun (i : Int) => [])) (fun g => Ja xs lo hi g) (fun _ => .none))) (.none))
def Js (xs : ZI) (lo : Int) (hi : Int) : Prop :=
  ((∃ i' : Int, (Jb xs lo hi i') ∧ (xs = xs) ∧ ((.fn 205 0 [.bx [.int .i64 lo] 0, .bx [.int .i64 hi] 0] : D) = (.fn 205 0 [.bx [.int .i64 lo] 0, .bx [.int .i64 hi] 0] : D)) ∧ ((xs.length : Int) = (xs.length : Int)) ∧ ((0 : Int) = i')) ∧ (∀ i : Int, (Jb xs lo hi i) → (((decide (i < (xs.length : Int))) = true → ((0 : Int) ≤ i) ∧ ((i : Int) < xs.length) ∧ (i.toNat < xs.length) ∧ (PC Try.prog 205 [.int .i64 (xs.getD i.toNat 0), .bx [.int .i64 lo] 0, .bx [.int .i64 hi] 0] (.one (.d (.bool (!(inB (xs.getD i.toNat 0) lo hi)))))) ∧ (((!(inB (xs.getD i.toNat 0) lo hi)) = true → ((i = (idxI (fun x => !(inB x lo hi)) xs)))) ∧ ((!(inB (xs.getD i.toNat 0) lo hi)) = false → (I6 (i + 1)) ∧ (∃ i' : Int, (Jb xs lo hi i') ∧ (Ja xs lo hi i' < Ja xs lo hi i) ∧ (xs = xs) ∧ ((.fn 205 0 [.bx [.int .i64 lo] 0, .bx [.int .i64 hi] 0] : D) = (.fn 205 0 [.bx [.int .i64 lo] 0, .bx [.int .i64 hi] 0] : D)) ∧ ((xs.length : Int) = (xs.length : Int)) ∧ ((i + 1) = i'))))) ∧ ((decide (i < (xs.length : Int))) = false → ((((-1) : Int) = (idxI (fun x => !(inB x lo hi)) xs)))))))
theorem J0f (xs : ZI) (lo : Int) (hi : Int)  (w_xs : (xs.length : Int) ≤ 9223372036854775807) : Js xs lo hi := by
  unfold Js
  refine ⟨?_, ?_⟩
  ·refine ⟨0, ?_⟩
   refine ⟨?_, rfl, rfl, rfl, rfl⟩
   ·refine ⟨?_, ?_, ?_⟩
    ·omega
    ·omega
    ·omega
  intro i hJ
  obtain ⟨h1, h2, h3⟩ := hJ
  refine ⟨?_, ?_⟩
  ·intro b1
   try simp only [nrmT] at b1
   refine ⟨?_, ?_, ?_, J1x (xs.getD i.toNat 0) lo hi, ?_, ?_⟩
   ·omega
   ·omega
   ·omega
   ·intro b2
    try simp only [nrmT] at b2
    exact idx_found (p := fun x => !(inB x lo hi)) h1 b1 h3 (by simpa using b2)
   intro b3
   try simp only [nrmT] at b3
   refine ⟨?_, ?_⟩
   ·omega
   refine ⟨(i + 1), ?_⟩
   refine ⟨?_, ?_, rfl, rfl, rfl, rfl⟩
   ·refine ⟨?_, ?_, ?_⟩
    ·omega
    ·omega
    ·exact idx_step (p := fun x => !(inB x lo hi)) h1 h3 (by simpa using b3)
   (simp only [Ja]; omega)
  intro b4
  try simp only [nrmT] at b4
  exact (idx_none (by omega) h3).symm
theorem J0d (xs : ZI) (lo : Int) (hi : Int)  : PC Try.prog 204 [.sl (.ints xs), .fn 205 0 [.bx [.int .i64 lo] 0, .bx [.int .i64 hi] 0]] (.one (.d (.int .i64 (idxI (fun x => !(inB x lo hi)) xs)))) :=
  pc_wf @Try.call204 fun hw => pc_by (by kernel_rfl) Try.func204 @Try.call204 (by kernel_rfl) J0i (J0g xs lo hi) (by kernel_rfl) (J0f xs lo hi hw.1) (by kernel_rfl)
def J04 : List D → Orc := orcN [some .ints, none] fun ds => match ds with
  | [.sl (.ints xs), .fn f0 0 [.bx [.int .i64 lo] 0, .bx [.int .i64 hi] 0]] => bif Nat.beq f0 205 then some (.one (.d (.int .i64 (idxI (fun x => !(inB x lo hi)) xs)))) else none
  | _ => none
def J01 (f : FuncId) (ds : List D) : Orc := bif Nat.beq f 204 then J04 ds else .no
def JZ (xs : ZI) (lo : Int) (hi : Int) : Ann := .none
def Jo (xs : ZI) (lo : Int) (hi : Int) : Prop :=
  (PC Try.prog 204 [.sl (.ints xs), .fn 205 0 [.bx [.int .i64 lo] 0, .bx [.int .i64 hi] 0]] (.one (.d (.int .i64 (idxI (fun x => !(inB x lo hi)) xs))))) ∧ (((decide ((idxI (fun x => !(inB x lo hi)) xs) ≥ 0)) = (xs.any (fun x => !(inB x lo hi)))))
theorem JR (xs : ZI) (lo : Int) (hi : Int)  (w_xs : (xs.length : Int) ≤ 9223372036854775807) : Jo xs lo hi := by
  unfold Jo
  refine ⟨J0d xs lo hi, ?_⟩
  ·exact idx_any _ _
theorem JQ (xs : ZI) (lo : Int) (hi : Int)  : PC Try.prog 127 [.sl (.ints xs), .fn 205 0 [.bx [.int .i64 lo] 0, .bx [.int .i64 hi] 0]] (.one (.d (.bool (xs.any (fun x => !(inB x lo hi)))))) :=
  pc_wf @Try.call127 fun hw => pc_by (by kernel_rfl) Try.func127 @Try.call127 (by kernel_rfl) J01 (JZ xs lo hi) (by kernel_rfl) (JR xs lo hi hw.1) (by kernel_rfl)
def JN : List D → Orc := orcN [some .ints, none] fun ds => match ds with
  | [.sl (.ints xs), .fn f0 0 [.bx [.int .i64 lo] 0, .bx [.int .i64 hi] 0]] => bif Nat.beq f0 205 then some (.one (.d (.bool (xs.any (fun x => !(inB x lo hi)))))) else none
  | _ => none
def J2n (f : FuncId) (ds : List D) : Orc := bif Nat.beq f 127 then JN ds else .no
def J2g (xs : ZI) (lo : Int) (hi : Int) : Ann := .none
def J0Y (xs : ZI) (lo : Int) (hi : Int) : Prop :=
  (PC Try.prog 127 [.sl (.ints xs), .fn 205 0 [.bx [.int .i64 lo] 0, .bx [.int .i64 hi] 0]] (.one (.d (.bool (xs.any (fun x => !(inB x lo hi))))))) ∧ (((!(xs.any (fun x => !(inB x lo hi)))) = (xs.all (fun x => inB x lo hi))))
theorem J25 (xs : ZI) (lo : Int) (hi : Int)  (w_xs : (xs.length : Int) ≤ 9223372036854775807) : J0Y xs lo hi := by
  unfold J0Y
  refine ⟨JQ xs lo hi, ?_⟩
  ·exact any_not _ _
theorem J1W (xs : ZI) (lo : Int) (hi : Int)  : PC Try.prog 131 [.sl (.ints xs), .int .i64 lo, .int .i64 hi] (.one (.d (.bool (xs.all (fun x => inB x lo hi))))) :=
  pc_wf @Try.call131 fun hw => pc_by (by kernel_rfl) Try.func131 @Try.call131 (by kernel_rfl) J2n (J2g xs lo hi) (by kernel_rfl) (J25 xs lo hi hw.1) (by kernel_rfl)
def J1N : List D → Orc := orcN [some .ints, none, none] fun ds => match ds with
  | [.sl (.ints xs), .int .i64 lo, .int .i64 hi] => some (.one (.d (.bool (xs.all (fun x => inB x lo hi)))))
  | _ => none
def J2j (f : FuncId) (ds : List D) : Orc := bif Nat.beq f 130 then J2o ds else .no
def J2m (xs : ZI) (Size : Int) (Sets : ZR) (Costs : ZI) : Ann := .none
def J0U (xs : ZI) (Size : Int) (Sets : ZR) (Costs : ZI) : Prop :=
  (PC Try.prog 130 [.sl (.ints xs), .int .i64 Size] (.one (.d (.bool (J3 xs 0 (Size - 1)))))) ∧ (((!(J3 xs 0 (Size - 1))) = (!(J3 xs 0 (Size - 1)))))
theorem J1S (xs : ZI) (Size : Int) (Sets : ZR) (Costs : ZI) (hb : -9223372036854775808 < Size ∧ Size ≤ 9223372036854775807) (w_xs : (xs.length : Int) ≤ 9223372036854775807) (w_Sets : (Sets.length : Int) ≤ 9223372036854775807) (v_Sets : ∀ x9 ∈ Sets, (x9.length : Int) ≤ 9223372036854775807) (w_Costs : (Costs.length : Int) ≤ 9223372036854775807) : J0U xs Size Sets Costs := by
  unfold J0U
  refine ⟨?_, rfl⟩
  ·refine J2v xs Size ?_
   ·omega
theorem J1X (xs : ZI) (Size : Int) (Sets : ZR) (Costs : ZI) (hb : -9223372036854775808 < Size ∧ Size ≤ 9223372036854775807) : PC Try.prog 170 [.sl (.ints xs), .bx [.int .i64 Size, .sl (.rows Sets), .sl (.ints Costs)] 0] (.one (.d (.bool (!(J3 xs 0 (Size - 1)))))) :=
  pc_wf @Try.call170 fun hw => pc_by (by kernel_rfl) Try.func170 @Try.call170 (by kernel_rfl) J2j (J2m xs Size Sets Costs) (by kernel_rfl) (J1S xs Size Sets Costs hb hw.1 hw.2.1.2.1.1 hw.2.1.2.1.2 hw.2.1.2.2.1) (by kernel_rfl)
def J1O : List D → Orc := orcN [some .ints, none] fun ds => match ds with
  | [.sl (.ints xs), .bx [.int .i64 Size, .sl (.rows Sets), .sl (.ints Costs)] 0] => some (.one (.d (.bool (!(J3 xs 0 (Size - 1))))))
  | _ => none
abbrev Jd (xs : ZR) (Size : Int) (Sets : ZR) (Costs : ZI) (i : Int) : Prop := (0 ≤ i) ∧ (i ≤ (xs.length : Int)) ∧ (∀ k, k < i.toNat → (fun x => !(J3 x 0 (Size - 1))) (xs.getD k []) = false)
abbrev Jc (xs : ZR) (Size : Int) (Sets : ZR) (Costs : ZI) (i : Int) : Nat := (xs.length - i).toNat
def J0j (f : FuncId) (ds : List D) : Orc := bif Nat.beq f 170 then J1O ds else .no
def J0h (xs : ZR) (Size : Int) (Sets : ZR) (Costs : ZI) : Ann := .two (.none) (.two (.two (.none) (.loop (cut1 (fun (i : Int) => Jd xs Size Sets Costs i) (fun (i : Int) => [(0, .d false (.sl (.rows xs))), (1, .d false (.fn 170 0 [.bx [.int .i64 Size, .sl (.rows Sets), .sl (.ints Costs)] 0])), (7, .d true (.int .i64 (xs.length : Int))), (8, .d true (.int .i64 i))]) (fun (i : Int) => [])) (fun g => Jc xs Size Sets Costs g) (fun _ => .none))) (.none))
def Jr (xs : ZR) (Size : Int) (Sets : ZR) (Costs : ZI) : Prop :=
  ((∃ i' : Int, (Jd xs Size Sets Costs i') ∧ (xs = xs) ∧ ((.fn 170 0 [.bx [.int .i64 Size, .sl (.rows Sets), .sl (.ints Costs)] 0] : D) = (.fn 170 0 [.bx [.int .i64 Size, .sl (.rows Sets), .sl (.ints Costs)] 0] : D)) ∧ ((xs.length : Int) = (xs.length : Int)) ∧ ((0 : Int) = i')) ∧ (∀ i : Int, (Jd xs Size Sets Costs i) → (((decide (i < (xs.length : Int))) = true → ((0 : Int) ≤ i) ∧ ((i : Int) < xs.length) ∧ (i.toNat < xs.length) ∧ (PC Try.prog 170 [.sl (.ints (xs.getD i.toNat [])), .bx [.int .i64 Size, .sl (.rows Sets), .sl (.ints Costs)] 0] (.one (.d (.bool (!(J3 (xs.getD i.toNat []) 0 (Size - 1))))))) ∧ (((!(J3 (xs.getD i.toNat []) 0 (Size - 1))) = true → ((i = (idxI (fun x => !(J3 x 0 (Size - 1))) xs)))) ∧ ((!(J3 (xs.getD i.toNat []) 0 (Size - 1))) = false → (I6 (i + 1)) ∧ (∃ i' : Int, (Jd xs Size Sets Costs i') ∧ (Jc xs Size Sets Costs i' < Jc xs Size Sets Costs i) ∧ (xs = xs) ∧ ((.fn 170 0 [.bx [.int .i64 Size, .sl (.rows Sets), .sl (.ints Costs)] 0] : D) = (.fn 170 0 [.bx [.int .i64 Size, .sl (.rows Sets), .sl (.ints Costs)] 0] : D)) ∧ ((xs.length : Int) = (xs.length : Int)) ∧ ((i + 1) = i'))))) ∧ ((decide (i < (xs.length : Int))) = false → ((((-1) : Int) = (idxI (fun x => !(J3 x 0 (Size - 1))) xs)))))))
theorem J0e (xs : ZR) (Size : Int) (Sets : ZR) (Costs : ZI) (hb : -9223372036854775808 < Size ∧ Size ≤ 9223372036854775807) (w_xs : (xs.length : Int) ≤ 9223372036854775807) (v_xs : ∀ x9 ∈ xs, (x9.length : Int) ≤ 9223372036854775807) (w_Sets : (Sets.length : Int) ≤ 9223372036854775807) (v_Sets : ∀ x9 ∈ Sets, (x9.length : Int) ≤ 9223372036854775807) (w_Costs : (Costs.length : Int) ≤ 9223372036854775807) : Jr xs Size Sets Costs := by
  unfold Jr
  refine ⟨?_, ?_⟩
  ·refine ⟨0, ?_⟩
   refine ⟨?_, rfl, rfl, rfl, rfl⟩
   ·refine ⟨?_, ?_, ?_⟩
    ·omega
    ·omega
    ·omega
  intro i hJ
  obtain ⟨h1, h2, h3⟩ := hJ
  refine ⟨?_, ?_⟩
  ·intro b1
   try simp only [nrmT] at b1
   refine ⟨?_, ?_, ?_, ?_, ?_, ?_⟩
   ·omega
   ·omega
   ·omega
   ·refine J1X (xs.getD i.toNat []) Size Sets Costs ?_
    ·omega
   ·intro b2
    try simp only [nrmT] at b2
    exact idx_found (p := fun x => !(J3 x 0 (Size - 1))) h1 b1 h3 (by simpa using b2)
   intro b3
   try simp only [nrmT] at b3
   refine ⟨?_, ?_⟩
   ·omega
   refine ⟨(i + 1), ?_⟩
   refine ⟨?_, ?_, rfl, rfl, rfl, rfl⟩
   ·refine ⟨?_, ?_, ?_⟩
    ·omega
    ·omega
    ·exact idx_step (p := fun x => !(J3 x 0 (Size - 1))) h1 h3 (by simpa using b3)
   (simp only [Jc]; omega)
  intro b4
  try simp only [nrmT] at b4
  exact (idx_none (by omega) h3).symm
theorem J08 (xs : ZR) (Size : Int) (Sets : ZR) (Costs : ZI) (hb : -9223372036854775808 < Size ∧ Size ≤ 9223372036854775807) : PC Try.prog 224 [.sl (.rows xs), .fn 170 0 [.bx [.int .i64 Size, .sl (.rows Sets), .sl (.ints Costs)] 0]] (.one (.d (.int .i64 (idxI (fun x => !(J3 x 0 (Size - 1))) xs)))) :=
  pc_wf @Try.call224 fun hw => pc_by (by kernel_rfl) Try.func224 @Try.call224 (by kernel_rfl) J0j (J0h xs Size Sets Costs) (by kernel_rfl) (J0e xs Size Sets Costs hb hw.1.1 hw.1.2 hw.2.1.1.2.1.1 hw.2.1.1.2.1.2 hw.2.1.1.2.2.1) (by kernel_rfl)
def J05 : List D → Orc := orcN [some .rows, none] fun ds => match ds with
  | [.sl (.rows xs), .fn f0 0 [.bx [.int .i64 Size, .sl (.rows Sets), .sl (.ints Costs)] 0]] => bif Nat.beq f0 170 then some (.one (.d (.int .i64 (idxI (fun x => !(J3 x 0 (Size - 1))) xs)))) else none
  | _ => none
def J00 (f : FuncId) (ds : List D) : Orc := bif Nat.beq f 224 then J05 ds else .no
def JY (xs : ZR) (Size : Int) (Sets : ZR) (Costs : ZI) : Ann := .none
def Jm (xs : ZR) (Size : Int) (Sets : ZR) (Costs : ZI) : Prop :=
  (PC Try.prog 224 [.sl (.rows xs), .fn 170 0 [.bx [.int .i64 Size, .sl (.rows Sets), .sl (.ints Costs)] 0]] (.one (.d (.int .i64 (idxI (fun x => !(J3 x 0 (Size - 1))) xs))))) ∧ (((decide ((idxI (fun x => !(J3 x 0 (Size - 1))) xs) ≥ 0)) = (xs.any (fun x => !(J3 x 0 (Size - 1))))))
theorem JP (xs : ZR) (Size : Int) (Sets : ZR) (Costs : ZI) (hb : -9223372036854775808 < Size ∧ Size ≤ 9223372036854775807) (w_xs : (xs.length : Int) ≤ 9223372036854775807) (v_xs : ∀ x9 ∈ xs, (x9.length : Int) ≤ 9223372036854775807) (w_Sets : (Sets.length : Int) ≤ 9223372036854775807) (v_Sets : ∀ x9 ∈ Sets, (x9.length : Int) ≤ 9223372036854775807) (w_Costs : (Costs.length : Int) ≤ 9223372036854775807) : Jm xs Size Sets Costs := by
  unfold Jm
  refine ⟨?_, ?_⟩
  ·refine J08 xs Size Sets Costs ?_
   ·omega
  exact idx_any _ _
theorem JS (xs : ZR) (Size : Int) (Sets : ZR) (Costs : ZI) (hb : -9223372036854775808 < Size ∧ Size ≤ 9223372036854775807) : PC Try.prog 169 [.sl (.rows xs), .fn 170 0 [.bx [.int .i64 Size, .sl (.rows Sets), .sl (.ints Costs)] 0]] (.one (.d (.bool (xs.any (fun x => !(J3 x 0 (Size - 1))))))) :=
  pc_wf @Try.call169 fun hw => pc_by (by kernel_rfl) Try.func169 @Try.call169 (by kernel_rfl) J00 (JY xs Size Sets Costs) (by kernel_rfl) (JP xs Size Sets Costs hb hw.1.1 hw.1.2 hw.2.1.1.2.1.1 hw.2.1.1.2.1.2 hw.2.1.1.2.2.1) (by kernel_rfl)
def JO : List D → Orc := orcN [some .rows, none] fun ds => match ds with
  | [.sl (.rows xs), .fn f0 0 [.bx [.int .i64 Size, .sl (.rows Sets), .sl (.ints Costs)] 0]] => bif Nat.beq f0 170 then some (.one (.d (.bool (xs.any (fun x => !(J3 x 0 (Size - 1))))))) else none
  | _ => none
def J31 (f : FuncId) (ds : List D) : Orc := bif Nat.beq f 120 then J0z ds else bif Nat.beq f 131 then J1N ds else bif Nat.beq f 169 then JO ds else .no
def J35 (Size : Int) (Sets : ZR) (Costs : ZI) : Ann := .none
def J2 (Size : Int) (Sets : ZR) (Costs : ZI) : Bool := (cond (cond (inB Size 0 8) (decide ((Sets.length : Int) ≤ 8)) false) ((Costs.length : Int) == (Sets.length : Int)) false)
def J1i (Size : Int) (Sets : ZR) (Costs : ZI) : Prop :=
  (PC Try.prog 120 [.int .i64 Size, .int .i64 0, .int .i64 8] (.one (.d (.bool (inB Size 0 8))))) ∧ ((inB Size 0 8) = true → (inB Size 0 8) = true) ∧ ((inB Size 0 8) = true → (inB Size 0 8) = true) ∧ ((inB Size 0 8) = true → (inB Size 0 8) = true) ∧ (true = true) ∧ (((inB Size 0 8) = true → (inB Size 0 8) = true)) ∧ (((inB Size 0 8) = false → true = true)) ∧ ((cond (inB Size 0 8) (decide ((Sets.length : Int) ≤ 8)) false) = true → (cond (inB Size 0 8) (decide ((Sets.length : Int) ≤ 8)) false) = true) ∧ ((cond (inB Size 0 8) (decide ((Sets.length : Int) ≤ 8)) false) = true → (cond (inB Size 0 8) (decide ((Sets.length : Int) ≤ 8)) false) = true) ∧ ((cond (inB Size 0 8) (decide ((Sets.length : Int) ≤ 8)) false) = true → (cond (inB Size 0 8) (decide ((Sets.length : Int) ≤ 8)) false) = true) ∧ ((cond (inB Size 0 8) (decide ((Sets.length : Int) ≤ 8)) false) = true → (cond (inB Size 0 8) (decide ((Sets.length : Int) ≤ 8)) false) = true) ∧ ((cond (inB Size 0 8) (decide ((Sets.length : Int) ≤ 8)) false) = true → (cond (inB Size 0 8) (decide ((Sets.length : Int) ≤ 8)) false) = true) ∧ ((cond (inB Size 0 8) (decide ((Sets.length : Int) ≤ 8)) false) = true → (cond (inB Size 0 8) (decide ((Sets.length : Int) ≤ 8)) false) = true) ∧ (true = true) ∧ (((cond (inB Size 0 8) (decide ((Sets.length : Int) ≤ 8)) false) = true → (cond (inB Size 0 8) (decide ((Sets.length : Int) ≤ 8)) false) = true)) ∧ (((cond (inB Size 0 8) (decide ((Sets.length : Int) ≤ 8)) false) = false → true = true)) ∧ ((J2 Size Sets Costs) = true → (J2 Size Sets Costs) = true) ∧ ((J2 Size Sets Costs) = true → (J2 Size Sets Costs) = true) ∧ ((J2 Size Sets Costs) = true → PC Try.prog 131 [.sl (.ints Costs), .int .i64 1, .int .i64 99] (.one (.d (.bool (Costs.all (fun x => inB x 1 99)))))) ∧ (true = true) ∧ (((J2 Size Sets Costs) = true → (J2 Size Sets Costs) = true)) ∧ (((J2 Size Sets Costs) = false → true = true)) ∧ ((cond (J2 Size Sets Costs) (Costs.all (fun x => inB x 1 99)) false) = true → (cond (J2 Size Sets Costs) (Costs.all (fun x => inB x 1 99)) false) = true) ∧ ((cond (J2 Size Sets Costs) (Costs.all (fun x => inB x 1 99)) false) = true → (cond (J2 Size Sets Costs) (Costs.all (fun x => inB x 1 99)) false) = true) ∧ ((cond (J2 Size Sets Costs) (Costs.all (fun x => inB x 1 99)) false) = true → (cond (J2 Size Sets Costs) (Costs.all (fun x => inB x 1 99)) false) = true) ∧ ((cond (J2 Size Sets Costs) (Costs.all (fun x => inB x 1 99)) false) = true → PC Try.prog 169 [.sl (.rows Sets), .fn 170 0 [.bx [.int .i64 Size, .sl (.rows Sets), .sl (.ints Costs)] 0]] (.one (.d (.bool (Sets.any (fun x => !(J3 x 0 (Size - 1)))))))) ∧ ((cond (J2 Size Sets Costs) (Costs.all (fun x => inB x 1 99)) false) = true → (cond (J2 Size Sets Costs) (Costs.all (fun x => inB x 1 99)) false) = true) ∧ (true = true) ∧ (((cond (J2 Size Sets Costs) (Costs.all (fun x => inB x 1 99)) false) = true → (cond (J2 Size Sets Costs) (Costs.all (fun x => inB x 1 99)) false) = true)) ∧ (((cond (J2 Size Sets Costs) (Costs.all (fun x => inB x 1 99)) false) = false → true = true)) ∧ (((cond (cond (J2 Size Sets Costs) (Costs.all (fun x => inB x 1 99)) false) (!(Sets.any (fun x => !(J3 x 0 (Size - 1))))) false) = (J0 Size Sets Costs)))
theorem J2s (Size : Int) (Sets : ZR) (Costs : ZI)  (w_Sets : (Sets.length : Int) ≤ 9223372036854775807) (v_Sets : ∀ x9 ∈ Sets, (x9.length : Int) ≤ 9223372036854775807) (w_Costs : (Costs.length : Int) ≤ 9223372036854775807) : J1i Size Sets Costs := by
  unfold J1i J2
  refine ⟨J0I Size 0 8, id, id, id, rfl, id, fun _ => rfl, id, id, id, id, id, id, rfl, id, fun _ => rfl, id, id, fun _ => J1W Costs 1 99, rfl, id, fun _ => rfl, id, id, id, ?_, id, rfl, id, fun _ => rfl, ?_⟩
  ·intro hg
   refine JS Sets Size Sets Costs ?_
   ·simp only [inB] at hg; simp at hg; omega
  unfold J0
  rw [any_not, J3A, show decide ((Sets.length : Int) ≤ 8) = decide (Sets.length ≤ 8) from J41 _ 8]
  cases inB Size 0 8 <;> cases decide (Sets.length ≤ 8) <;> cases Sets.all (fun xs => J3 xs 0 (Size - 1)) <;> cases decide (Costs.length = Sets.length) <;> cases Costs.all (fun x => inB x 1 99) <;> rfl
theorem J2A (Size : Int) (Sets : ZR) (Costs : ZI)  : PC Try.prog 76 [.agg [.int .i64 Size, .sl (.rows Sets), .sl (.ints Costs)]] (.one (.d (.bool (J0 Size Sets Costs)))) :=
  pc_wf @Try.call76 fun hw => pc_by (by kernel_rfl) Try.func76 @Try.call76 (by kernel_rfl) J31 (J35 Size Sets Costs) (by kernel_rfl) (J2s Size Sets Costs hw.1.2.1.1 hw.1.2.1.2 hw.1.2.2.1) (by kernel_rfl)
def J2i : List D → Orc := orcN [none] fun ds => match ds with
  | [.agg [.int .i64 Size, .sl (.rows Sets), .sl (.ints Costs)]] => some (.one (.d (.bool (J0 Size Sets Costs))))
  | _ => none
abbrev J07 (xs : ZI) (out : ZI) (i : Int) : Prop := (0 ≤ i) ∧ (i ≤ (xs.length : Int)) ∧ (out = xs.take i.toNat ++ (List.replicate xs.length 0).drop i.toNat)
abbrev JD (xs : ZI) (out : ZI) (i : Int) : Nat := (xs.length - i).toNat
def J3S (f : FuncId) (ds : List D) : Orc := .no
def J3F (xs : ZI) : Ann := .two (.none) (.two (.none) (.two (.two (.none) (.loop (cut2 (fun (out : ZI) (i : Int) => J07 xs out i) (fun (out : ZI) (i : Int) => [(0, .d false (.sl (.ints xs))), (3, .own 7 out.length), (4, .d true (.int .i64 i))]) (fun (out : ZI) (i : Int) => [(7, .arr true 3 (.ints out))])) (fun g => JD xs g.1 g.2) (fun _ => .none))) (.none)))
def J1T (xs : ZI) : Prop :=
  ((xs.length : Int) = (xs.length : Int)) ∧ ((0 : Int) ≤ (xs.length : Int)) ∧ (((xs.length : Int) : Int) * ((8 : Nat) : Int) ≤ 140737488355328) ∧ ((∃ out' : ZI, ∃ i' : Int, (J07 xs out' i') ∧ (xs = xs) ∧ ((xs.length : Int).toNat = out'.length) ∧ ((0 : Int) = i') ∧ ((List.replicate ((xs.length : Int).toNat) (0 : Int)) = out')) ∧ (∀ out : ZI, ∀ i : Int, (J07 xs out i) → (((decide (i < (xs.length : Int))) = true → ((0 : Int) ≤ i) ∧ ((i : Int) < xs.length) ∧ (i.toNat < xs.length) ∧ ((0 : Int) ≤ i) ∧ ((i : Int) < (out.length : Int)) ∧ (i.toNat < out.length) ∧ (I6 (i + 1)) ∧ (∃ out' : ZI, ∃ i' : Int, (J07 xs out' i') ∧ (JD xs out' i' < JD xs out i) ∧ (xs = xs) ∧ (out.length = out'.length) ∧ ((i + 1) = i') ∧ ((out.set i.toNat (xs.getD i.toNat 0)) = out'))) ∧ ((decide (i < (xs.length : Int))) = false → ((out.length = out.length) ∧ ((out : ZI) = xs))))))
theorem J3o (xs : ZI) (hn : xs.length ≤ 1048576) (w_xs : (xs.length : Int) ≤ 9223372036854775807) : J1T xs := by
  unfold J1T
  refine ⟨rfl, ?_, ?_, ?_, ?_⟩
  ·first | omega | rfl | (intro hg; simp only [nrmT] at hg; omega) | (intro g1 g2; simp [g1, g2]; done) | (intro g1; simp at g1 ⊢; simp [g1]; done) | (simp only [nrmT] at *; omega) | (simp at * <;> omega) | (simp_all <;> omega) | (simp_all; done)
  ·first | omega | rfl | (intro hg; simp only [nrmT] at hg; omega) | (intro g1 g2; simp [g1, g2]; done) | (intro g1; simp at g1 ⊢; simp [g1]; done) | (simp only [nrmT] at *; omega) | (simp at * <;> omega) | (simp_all <;> omega) | (simp_all; done)
  ·refine ⟨(List.replicate ((xs.length : Int).toNat) (0 : Int)), 0, ?_⟩
   refine ⟨?_, rfl, ?_, rfl, rfl⟩
   ·refine ⟨?_, ?_, ?_⟩
    ·first | omega | rfl | (intro hg; simp only [nrmT] at hg; omega) | (intro g1 g2; simp [g1, g2]; done) | (intro g1; simp at g1 ⊢; simp [g1]; done) | (simp only [nrmT] at *; omega) | (simp at * <;> omega) | (simp_all <;> omega) | (simp_all; done)
    ·first | omega | rfl | (intro hg; simp only [nrmT] at hg; omega) | (intro g1 g2; simp [g1, g2]; done) | (intro g1; simp at g1 ⊢; simp [g1]; done) | (simp only [nrmT] at *; omega) | (simp at * <;> omega) | (simp_all <;> omega) | (simp_all; done)
    ·simp
   simp
  intro out i hJ
  obtain ⟨h1, h2, h3⟩ := hJ
  refine ⟨?_, ?_⟩
  ·intro b1
   try simp only [nrmT] at b1
   refine ⟨?_, ?_, ?_, ?_, ?_, ?_, ?_, ?_⟩
   ·first | omega | rfl | (intro hg; simp only [nrmT] at hg; omega) | (intro g1 g2; simp [g1, g2]; done) | (intro g1; simp at g1 ⊢; simp [g1]; done) | (simp only [nrmT] at *; omega) | (simp at * <;> omega) | (simp_all <;> omega) | (simp_all; done)
   ·first | omega | rfl | (intro hg; simp only [nrmT] at hg; omega) | (intro g1 g2; simp [g1, g2]; done) | (intro g1; simp at g1 ⊢; simp [g1]; done) | (simp only [nrmT] at *; omega) | (simp at * <;> omega) | (simp_all <;> omega) | (simp_all; done)
   ·first | omega | rfl | (intro hg; simp only [nrmT] at hg; omega) | (intro g1 g2; simp [g1, g2]; done) | (intro g1; simp at g1 ⊢; simp [g1]; done) | (simp only [nrmT] at *; omega) | (simp at * <;> omega) | (simp_all <;> omega) | (simp_all; done)
   ·first | omega | rfl | (intro hg; simp only [nrmT] at hg; omega) | (intro g1 g2; simp [g1, g2]; done) | (intro g1; simp at g1 ⊢; simp [g1]; done) | (simp only [nrmT] at *; omega) | (simp at * <;> omega) | (simp_all <;> omega) | (simp_all; done)
   ·have e : out.length = xs.length := by rw [h3]; exact copy_len (by omega) (by simp)
    omega
   ·have e : out.length = xs.length := by rw [h3]; exact copy_len (by omega) (by simp)
    omega
   ·first | omega | rfl | (intro hg; simp only [nrmT] at hg; omega) | (intro g1 g2; simp [g1, g2]; done) | (intro g1; simp at g1 ⊢; simp [g1]; done) | (simp only [nrmT] at *; omega) | (simp at * <;> omega) | (simp_all <;> omega) | (simp_all; done)
   refine ⟨(out.set i.toNat (xs.getD i.toNat 0)), (i + 1), ?_⟩
   refine ⟨?_, ?_, rfl, ?_, rfl, rfl⟩
   ·refine ⟨?_, ?_, ?_⟩
    ·first | omega | rfl | (intro hg; simp only [nrmT] at hg; omega) | (intro g1 g2; simp [g1, g2]; done) | (intro g1; simp at g1 ⊢; simp [g1]; done) | (simp only [nrmT] at *; omega) | (simp at * <;> omega) | (simp_all <;> omega) | (simp_all; done)
    ·first | omega | rfl | (intro hg; simp only [nrmT] at hg; omega) | (intro g1 g2; simp [g1, g2]; done) | (intro g1; simp at g1 ⊢; simp [g1]; done) | (simp only [nrmT] at *; omega) | (simp at * <;> omega) | (simp_all <;> omega) | (simp_all; done)
    ·rw [h3]; exact copy_step h1 b1 (by simp)
   ·first | (show _ < _; omega) | (simp only [JD]; omega) | (simp only [JD] at *; simp at *; omega)
   simp
  intro b2
  try simp only [nrmT] at b2
  refine ⟨rfl, ?_⟩
  ·rw [h3, take_all (by omega)]; simp; omega
theorem J1G (xs : ZI) (hn : xs.length ≤ 1048576) : PC Try.prog 44 [.sl (.ints xs)] (.one (.d (.sl (.ints xs)))) :=
  pc_wf @Try.call44 fun hw => pc_by (by kernel_rfl) Try.func44 @Try.call44 (by kernel_rfl) J3S (J3F xs) (by kernel_rfl) (J3o xs hn hw.1) (by kernel_rfl)
def J1j : List D → Orc := orcN [some .ints] fun ds => match ds with
  | [.sl (.ints xs)] => some (.one (.d (.sl (.ints xs))))
  | _ => none
abbrev JW (xss : ZR) (out : ZR) (i : Int) : Prop := (0 ≤ i) ∧ (i ≤ (xss.length : Int)) ∧ (out = xss.take i.toNat ++ (List.replicate xss.length []).drop i.toNat)
abbrev Jz (xss : ZR) (out : ZR) (i : Int) : Nat := (xss.length - i).toNat
def J3w (f : FuncId) (ds : List D) : Orc := bif Nat.beq f 44 then J1j ds else .no
def J3m (xss : ZR) : Ann := .two (.none) (.two (.none) (.two (.two (.none) (.loop (cut2 (fun (out : ZR) (i : Int) => JW xss out i) (fun (out : ZR) (i : Int) => [(0, .d false (.sl (.rows xss))), (3, .own 7 out.length), (4, .d true (.int .i64 i))]) (fun (out : ZR) (i : Int) => [(7, .arr true 26 (.rows out))])) (fun g => Jz xss g.1 g.2) (fun _ => .none))) (.none)))
def J1E (xss : ZR) : Prop :=
  ((xss.length : Int) = (xss.length : Int)) ∧ ((0 : Int) ≤ (xss.length : Int)) ∧ (((xss.length : Int) : Int) * ((24 : Nat) : Int) ≤ 140737488355328) ∧ ((∃ out' : ZR, ∃ i' : Int, (JW xss out' i') ∧ (xss = xss) ∧ ((xss.length : Int).toNat = out'.length) ∧ ((0 : Int) = i') ∧ ((List.replicate ((xss.length : Int).toNat) ([] : ZI)) = out')) ∧ (∀ out : ZR, ∀ i : Int, (JW xss out i) → (((decide (i < (xss.length : Int))) = true → ((0 : Int) ≤ i) ∧ ((i : Int) < xss.length) ∧ (i.toNat < xss.length) ∧ (PC Try.prog 44 [.sl (.ints (xss.getD i.toNat []))] (.one (.d (.sl (.ints (xss.getD i.toNat [])))))) ∧ ((0 : Int) ≤ i) ∧ ((i : Int) < (out.length : Int)) ∧ (i.toNat < out.length) ∧ (I6 (i + 1)) ∧ (∃ out' : ZR, ∃ i' : Int, (JW xss out' i') ∧ (Jz xss out' i' < Jz xss out i) ∧ (xss = xss) ∧ (out.length = out'.length) ∧ ((i + 1) = i') ∧ ((out.set i.toNat (xss.getD i.toNat [])) = out'))) ∧ ((decide (i < (xss.length : Int))) = false → ((out.length = out.length) ∧ ((out : ZR) = xss))))))
theorem J30 (xss : ZR) (hn : xss.length ≤ 1048576) (hm : ∀ xs ∈ xss, xs.length ≤ 1048576) (w_xss : (xss.length : Int) ≤ 9223372036854775807) (v_xss : ∀ x9 ∈ xss, (x9.length : Int) ≤ 9223372036854775807) : J1E xss := by
  unfold J1E
  refine ⟨rfl, ?_, ?_, ?_, ?_⟩
  ·first | omega | rfl | (intro hg; simp only [nrmT] at hg; omega) | (intro g1 g2; simp [g1, g2]; done) | (intro g1; simp at g1 ⊢; simp [g1]; done) | (simp only [nrmT] at *; omega) | (simp at * <;> omega) | (simp_all <;> omega) | (simp_all; done)
  ·first | omega | rfl | (intro hg; simp only [nrmT] at hg; omega) | (intro g1 g2; simp [g1, g2]; done) | (intro g1; simp at g1 ⊢; simp [g1]; done) | (simp only [nrmT] at *; omega) | (simp at * <;> omega) | (simp_all <;> omega) | (simp_all; done)
  ·refine ⟨(List.replicate ((xss.length : Int).toNat) ([] : ZI)), 0, ?_⟩
   refine ⟨?_, rfl, ?_, rfl, rfl⟩
   ·refine ⟨?_, ?_, ?_⟩
    ·first | omega | rfl | (intro hg; simp only [nrmT] at hg; omega) | (intro g1 g2; simp [g1, g2]; done) | (intro g1; simp at g1 ⊢; simp [g1]; done) | (simp only [nrmT] at *; omega) | (simp at * <;> omega) | (simp_all <;> omega) | (simp_all; done)
    ·first | omega | rfl | (intro hg; simp only [nrmT] at hg; omega) | (intro g1 g2; simp [g1, g2]; done) | (intro g1; simp at g1 ⊢; simp [g1]; done) | (simp only [nrmT] at *; omega) | (simp at * <;> omega) | (simp_all <;> omega) | (simp_all; done)
    ·simp
   simp
  intro out i hJ
  obtain ⟨h1, h2, h3⟩ := hJ
  refine ⟨?_, ?_⟩
  ·intro b1
   try simp only [nrmT] at b1
   refine ⟨?_, ?_, ?_, ?_, ?_, ?_, ?_, ?_, ?_⟩
   ·first | omega | rfl | (intro hg; simp only [nrmT] at hg; omega) | (intro g1 g2; simp [g1, g2]; done) | (intro g1; simp at g1 ⊢; simp [g1]; done) | (simp only [nrmT] at *; omega) | (simp at * <;> omega) | (simp_all <;> omega) | (simp_all; done)
   ·first | omega | rfl | (intro hg; simp only [nrmT] at hg; omega) | (intro g1 g2; simp [g1, g2]; done) | (intro g1; simp at g1 ⊢; simp [g1]; done) | (simp only [nrmT] at *; omega) | (simp at * <;> omega) | (simp_all <;> omega) | (simp_all; done)
   ·first | omega | rfl | (intro hg; simp only [nrmT] at hg; omega) | (intro g1 g2; simp [g1, g2]; done) | (intro g1; simp at g1 ⊢; simp [g1]; done) | (simp only [nrmT] at *; omega) | (simp at * <;> omega) | (simp_all <;> omega) | (simp_all; done)
   ·refine J1G (xss.getD i.toNat []) ?_
    ·exact hm _ (getD_memI h1 b1)
   ·first | omega | rfl | (intro hg; simp only [nrmT] at hg; omega) | (intro g1 g2; simp [g1, g2]; done) | (intro g1; simp at g1 ⊢; simp [g1]; done) | (simp only [nrmT] at *; omega) | (simp at * <;> omega) | (simp_all <;> omega) | (simp_all; done)
   ·have e : out.length = xss.length := by rw [h3]; exact copy_len (by omega) (by simp)
    omega
   ·have e : out.length = xss.length := by rw [h3]; exact copy_len (by omega) (by simp)
    omega
   ·first | omega | rfl | (intro hg; simp only [nrmT] at hg; omega) | (intro g1 g2; simp [g1, g2]; done) | (intro g1; simp at g1 ⊢; simp [g1]; done) | (simp only [nrmT] at *; omega) | (simp at * <;> omega) | (simp_all <;> omega) | (simp_all; done)
   refine ⟨(out.set i.toNat (xss.getD i.toNat [])), (i + 1), ?_⟩
   refine ⟨?_, ?_, rfl, ?_, rfl, rfl⟩
   ·refine ⟨?_, ?_, ?_⟩
    ·first | omega | rfl | (intro hg; simp only [nrmT] at hg; omega) | (intro g1 g2; simp [g1, g2]; done) | (intro g1; simp at g1 ⊢; simp [g1]; done) | (simp only [nrmT] at *; omega) | (simp at * <;> omega) | (simp_all <;> omega) | (simp_all; done)
    ·first | omega | rfl | (intro hg; simp only [nrmT] at hg; omega) | (intro g1 g2; simp [g1, g2]; done) | (intro g1; simp at g1 ⊢; simp [g1]; done) | (simp only [nrmT] at *; omega) | (simp at * <;> omega) | (simp_all <;> omega) | (simp_all; done)
    ·rw [h3]; exact copy_step h1 b1 (by simp)
   ·first | (show _ < _; omega) | (simp only [Jz]; omega) | (simp only [Jz] at *; simp at *; omega)
   simp
  intro b2
  try simp only [nrmT] at b2
  refine ⟨rfl, ?_⟩
  ·rw [h3, take_all (by omega)]; simp; omega
theorem J2O (xss : ZR) (hn : xss.length ≤ 1048576) (hm : ∀ xs ∈ xss, xs.length ≤ 1048576) : PC Try.prog 118 [.sl (.rows xss)] (.one (.d (.sl (.rows xss)))) :=
  pc_wf @Try.call118 fun hw => pc_by (by kernel_rfl) Try.func118 @Try.call118 (by kernel_rfl) J3w (J3m xss) (by kernel_rfl) (J30 xss hn hm hw.1.1 hw.1.2) (by kernel_rfl)
def J2u : List D → Orc := orcN [some .rows] fun ds => match ds with
  | [.sl (.rows xss)] => some (.one (.d (.sl (.rows xss))))
  | _ => none
def J2L (f : FuncId) (ds : List D) : Orc := bif Nat.beq f 118 then J2u ds else bif Nat.beq f 44 then J1j ds else .no
def J2T (Size : Int) (Sets : ZR) (Costs : ZI) : Ann := .none
def J1m (Size : Int) (Sets : ZR) (Costs : ZI) : Prop :=
  (PC Try.prog 118 [.sl (.rows Sets)] (.one (.d (.sl (.rows Sets))))) ∧ (PC Try.prog 44 [.sl (.ints Costs)] (.one (.d (.sl (.ints Costs))))) ∧ (((.agg [.int .i64 Size, .sl (.rows Sets), .sl (.ints Costs)] : D) = .agg [.int .i64 Size, .sl (.rows Sets), .sl (.ints Costs)]))
theorem J2t (Size : Int) (Sets : ZR) (Costs : ZI) (h1 : Sets.length ≤ 1048576) (h2 : ∀ xs ∈ Sets, xs.length ≤ 1048576) (h3 : Costs.length ≤ 1048576) (w_Sets : (Sets.length : Int) ≤ 9223372036854775807) (v_Sets : ∀ x9 ∈ Sets, (x9.length : Int) ≤ 9223372036854775807) (w_Costs : (Costs.length : Int) ≤ 9223372036854775807) : J1m Size Sets Costs := by
  unfold J1m
  refine ⟨?_, ?_, rfl⟩
  ·refine J2O Sets ?_ ?_
   ·assumption
   ·assumption
  refine J1G Costs ?_
  ·assumption
theorem JU (Size : Int) (Sets : ZR) (Costs : ZI) (h1 : Sets.length ≤ 1048576) (h2 : ∀ xs ∈ Sets, xs.length ≤ 1048576) (h3 : Costs.length ≤ 1048576) : PC Try.prog 32 [.agg [.int .i64 Size, .sl (.rows Sets), .sl (.ints Costs)]] (.one (.d (.agg [.int .i64 Size, .sl (.rows Sets), .sl (.ints Costs)]))) :=
  pc_wf @Try.call32 fun hw => pc_by (by kernel_rfl) Try.func32 @Try.call32 (by kernel_rfl) J2L (J2T Size Sets Costs) (by kernel_rfl) (J2t Size Sets Costs h1 h2 h3 hw.1.2.1.1 hw.1.2.1.2 hw.1.2.2.1) (by kernel_rfl)
def J2a : List D → Orc := orcN [none] fun ds => match ds with
  | [.agg [.int .i64 Size, .sl (.rows Sets), .sl (.ints Costs)]] => some (.one (.d (.agg [.int .i64 Size, .sl (.rows Sets), .sl (.ints Costs)])))
  | _ => none
def JG (sets : ZR) (costs : ZI) (left : Int) : Int := if J8 sets left < 0 then -1 else if sz1 costs.length (J8 sets left) < 0 then -1 else sz1 costs.length (J8 sets left)
theorem J9 {sets : ZR} {costs : ZI} {left : Int} (h : 0 ≤ JG sets costs left) : (sets.length : Int) ≤ left ∧ (∀ xs ∈ sets, (xs.length : Int) ≤ left) ∧ (costs.length : Int) ≤ left := by
  unfold JG at h
  by_cases h1 : J8 sets left < 0
  · rw [if_pos h1] at h; omega
  rw [if_neg h1] at h
  obtain ⟨a1, a2, a3⟩ := J1f (by omega : 0 ≤ J8 sets left)
  by_cases h2 : sz1 costs.length (J8 sets left) < 0
  · rw [if_pos h2] at h; omega
  obtain ⟨b1, b2⟩ := J2q (by omega : 0 ≤ sz1 costs.length (J8 sets left))
  exact ⟨a2, a3, by omega⟩
def J3c (f : FuncId) (ds : List D) : Orc := bif Nat.beq f 114 then J2E ds else bif Nat.beq f 113 then J1l ds else .no
def J36 (Size : Int) (Sets : ZR) (Costs : ZI) (left : Int) : Ann := .none
def J1b (Size : Int) (Sets : ZR) (Costs : ZI) (left : Int) : Prop :=
  (PC Try.prog 114 [.sl (.rows Sets), .int .i64 left] (.one (.d (.int .i64 (J8 Sets left))))) ∧ (((decide ((J8 Sets left) < 0)) = true → ((((-1) : Int) = (JG Sets Costs left)))) ∧ ((decide ((J8 Sets left) < 0)) = false → (PC Try.prog 113 [.sl (.ints Costs), .int .i64 (J8 Sets left)] (.one (.d (.int .i64 (sz1 Costs.length (J8 Sets left)))))) ∧ (((decide ((sz1 Costs.length (J8 Sets left)) < 0)) = true → ((((-1) : Int) = (JG Sets Costs left)))) ∧ ((decide ((sz1 Costs.length (J8 Sets left)) < 0)) = false → (((sz1 Costs.length (J8 Sets left)) = (JG Sets Costs left)))))))
theorem J2z (Size : Int) (Sets : ZR) (Costs : ZI) (left : Int) (hl : 0 ≤ left ∧ left ≤ 1048576) (w_Sets : (Sets.length : Int) ≤ 9223372036854775807) (v_Sets : ∀ x9 ∈ Sets, (x9.length : Int) ≤ 9223372036854775807) (w_Costs : (Costs.length : Int) ≤ 9223372036854775807) : J1b Size Sets Costs left := by
  unfold J1b
  refine ⟨?_, ?_, ?_⟩
  ·refine J2U Sets left ?_
   ·first | omega | rfl | (intro hg; simp only [nrmT] at hg; omega) | (intro g1 g2; simp [g1, g2]; done) | (intro g1; simp at g1 ⊢; simp [g1]; done) | (simp only [nrmT] at *; omega) | (simp at * <;> omega) | (simp_all <;> omega) | (simp_all; done)
  ·intro b1
   try simp only [nrmT] at b1
   unfold JG; first | rw [if_pos (by omega)] | rw [if_neg (by omega), if_pos (by omega)] | rw [if_neg (by omega), if_neg (by omega)]
  intro b2
  try simp only [nrmT] at b2
  refine ⟨?_, ?_, ?_⟩
  ·refine J1F Costs (J8 Sets left) ?_
   ·have := J1f (xss := Sets) (left := left) (by omega); omega
  ·intro b3
   try simp only [nrmT] at b3
   unfold JG; first | rw [if_pos (by omega)] | rw [if_neg (by omega), if_pos (by omega)] | rw [if_neg (by omega), if_neg (by omega)]
  intro b4
  try simp only [nrmT] at b4
  unfold JG; first | rw [if_pos (by omega)] | rw [if_neg (by omega), if_pos (by omega)] | rw [if_neg (by omega), if_neg (by omega)]
theorem J2I (Size : Int) (Sets : ZR) (Costs : ZI) (left : Int) (hl : 0 ≤ left ∧ left ≤ 1048576) : PC Try.prog 30 [.agg [.int .i64 Size, .sl (.rows Sets), .sl (.ints Costs)], .int .i64 left] (.one (.d (.int .i64 (JG Sets Costs left)))) :=
  pc_wf @Try.call30 fun hw => pc_by (by kernel_rfl) Try.func30 @Try.call30 (by kernel_rfl) J3c (J36 Size Sets Costs left) (by kernel_rfl) (J2z Size Sets Costs left hl hw.1.2.1.1 hw.1.2.1.2 hw.1.2.2.1) (by kernel_rfl)
def J2k : List D → Orc := orcN [none, none] fun ds => match ds with
  | [.agg [.int .i64 Size, .sl (.rows Sets), .sl (.ints Costs)], .int .i64 left] => some (.one (.d (.int .i64 (JG Sets Costs left))))
  | _ => none
theorem J0D {α : Type} [BEq α] [LawfulBEq α] {d : α} {xs ys : List α} (hl : xs.length = ys.length) : allTo (fun k => xs.getD k d == ys.getD k d) xs.length = (xs == ys) := by
  rw [Bool.eq_iff_iff, allTo_iff]
  simp only [beq_iff_eq]
  constructor
  · intro h
    refine List.ext_getElem hl fun k h1 h2 => ?_
    have := h k h1
    simpa [h1, h2] using this
  intro h k _
  rw [h]
theorem J3T {α : Type} [BEq α] [LawfulBEq α] {xs ys : List α} (h : ¬ xs.length = ys.length) : (xs == ys) = false := by
  rw [Bool.eq_false_iff]; intro h2; simp only [beq_iff_eq] at h2; exact h (by rw [h2])
abbrev J0c (xs : ZI) (ys : ZI) (i : Int) : Prop := (0 ≤ i) ∧ (i ≤ (xs.length : Int)) ∧ (allTo (fun k => xs.getD k 0 == ys.getD k 0) i.toNat = true) ∧ (xs.length = ys.length)
abbrev JC (xs : ZI) (ys : ZI) (i : Int) : Nat := (xs.length - i).toNat
def J3E (f : FuncId) (ds : List D) : Orc := .no
def J3K (xs : ZI) (ys : ZI) : Ann := .two (.none) (.two (.none) (.two (.two (.none) (.loop (cut1 (fun (i : Int) => J0c xs ys i) (fun (i : Int) => [(0, .d false (.sl (.ints xs))), (1, .d false (.sl (.ints ys))), (5, .d true (.int .i64 i))]) (fun (i : Int) => [])) (fun g => JC xs ys g) (fun _ => .none))) (.none)))
def J20 (xs : ZI) (ys : ZI) : Prop :=
  ((((xs.length : Int) != (ys.length : Int)) = true → ((false = (xs == ys)))) ∧ (((xs.length : Int) != (ys.length : Int)) = false → ((∃ i' : Int, (J0c xs ys i') ∧ (xs = xs) ∧ (ys = ys) ∧ ((0 : Int) = i')) ∧ (∀ i : Int, (J0c xs ys i) → (((decide (i < (xs.length : Int))) = true → (true = true) ∧ ((0 : Int) ≤ i) ∧ ((i : Int) < xs.length) ∧ (i.toNat < xs.length) ∧ ((0 : Int) ≤ i) ∧ ((i : Int) < ys.length) ∧ (i.toNat < ys.length) ∧ ((((xs.getD i.toNat 0) != (ys.getD i.toNat 0)) = true → ((false = (xs == ys)))) ∧ (((xs.getD i.toNat 0) != (ys.getD i.toNat 0)) = false → (I6 (i + 1)) ∧ (∃ i' : Int, (J0c xs ys i') ∧ (JC xs ys i' < JC xs ys i) ∧ (xs = xs) ∧ (ys = ys) ∧ ((i + 1) = i'))))) ∧ ((decide (i < (xs.length : Int))) = false → ((true = (xs == ys)))))))))
theorem J3k (xs : ZI) (ys : ZI)  (w_xs : (xs.length : Int) ≤ 9223372036854775807) (w_ys : (ys.length : Int) ≤ 9223372036854775807) : J20 xs ys := by
  unfold J20
  refine ⟨?_, ?_⟩
  ·intro b1
   try simp only [nrmT] at b1
   exact (J3T (by omega)).symm
  intro b2
  try simp only [nrmT] at b2
  refine ⟨?_, ?_⟩
  ·refine ⟨0, ?_⟩
   refine ⟨?_, rfl, rfl, rfl⟩
   ·refine ⟨?_, ?_, ?_, ?_⟩
    ·first | omega | rfl | (intro hg; simp only [nrmT] at hg; omega) | (intro g1 g2; simp [g1, g2]; done) | (intro g1; simp at g1 ⊢; simp [g1]; done) | (simp only [nrmT] at *; omega) | (simp at * <;> omega) | (simp_all <;> omega) | (simp_all; done)
    ·first | omega | rfl | (intro hg; simp only [nrmT] at hg; omega) | (intro g1 g2; simp [g1, g2]; done) | (intro g1; simp at g1 ⊢; simp [g1]; done) | (simp only [nrmT] at *; omega) | (simp at * <;> omega) | (simp_all <;> omega) | (simp_all; done)
    ·first | omega | rfl | (intro hg; simp only [nrmT] at hg; omega) | (intro g1 g2; simp [g1, g2]; done) | (intro g1; simp at g1 ⊢; simp [g1]; done) | (simp only [nrmT] at *; omega) | (simp at * <;> omega) | (simp_all <;> omega) | (simp_all; done)
    ·first | omega | rfl | (intro hg; simp only [nrmT] at hg; omega) | (intro g1 g2; simp [g1, g2]; done) | (intro g1; simp at g1 ⊢; simp [g1]; done) | (simp only [nrmT] at *; omega) | (simp at * <;> omega) | (simp_all <;> omega) | (simp_all; done)
  intro i hJ
  obtain ⟨h1, h2, h3, h4⟩ := hJ
  refine ⟨?_, ?_⟩
  ·intro b3
   try simp only [nrmT] at b3
   refine ⟨rfl, ?_, ?_, ?_, ?_, ?_, ?_, ?_, ?_⟩
   ·first | omega | rfl | (intro hg; simp only [nrmT] at hg; omega) | (intro g1 g2; simp [g1, g2]; done) | (intro g1; simp at g1 ⊢; simp [g1]; done) | (simp only [nrmT] at *; omega) | (simp at * <;> omega) | (simp_all <;> omega) | (simp_all; done)
   ·first | omega | rfl | (intro hg; simp only [nrmT] at hg; omega) | (intro g1 g2; simp [g1, g2]; done) | (intro g1; simp at g1 ⊢; simp [g1]; done) | (simp only [nrmT] at *; omega) | (simp at * <;> omega) | (simp_all <;> omega) | (simp_all; done)
   ·first | omega | rfl | (intro hg; simp only [nrmT] at hg; omega) | (intro g1 g2; simp [g1, g2]; done) | (intro g1; simp at g1 ⊢; simp [g1]; done) | (simp only [nrmT] at *; omega) | (simp at * <;> omega) | (simp_all <;> omega) | (simp_all; done)
   ·first | omega | rfl | (intro hg; simp only [nrmT] at hg; omega) | (intro g1 g2; simp [g1, g2]; done) | (intro g1; simp at g1 ⊢; simp [g1]; done) | (simp only [nrmT] at *; omega) | (simp at * <;> omega) | (simp_all <;> omega) | (simp_all; done)
   ·first | omega | rfl | (intro hg; simp only [nrmT] at hg; omega) | (intro g1 g2; simp [g1, g2]; done) | (intro g1; simp at g1 ⊢; simp [g1]; done) | (simp only [nrmT] at *; omega) | (simp at * <;> omega) | (simp_all <;> omega) | (simp_all; done)
   ·first | omega | rfl | (intro hg; simp only [nrmT] at hg; omega) | (intro g1 g2; simp [g1, g2]; done) | (intro g1; simp at g1 ⊢; simp [g1]; done) | (simp only [nrmT] at *; omega) | (simp at * <;> omega) | (simp_all <;> omega) | (simp_all; done)
   ·intro b4
    try simp only [nrmT] at b4
    rw [← J0D (d := 0) h4]; exact (allTo_falseI h1 (by omega) (by simpa using b4)).symm
   intro b5
   try simp only [nrmT] at b5
   refine ⟨?_, ?_⟩
   ·first | omega | rfl | (intro hg; simp only [nrmT] at hg; omega) | (intro g1 g2; simp [g1, g2]; done) | (intro g1; simp at g1 ⊢; simp [g1]; done) | (simp only [nrmT] at *; omega) | (simp at * <;> omega) | (simp_all <;> omega) | (simp_all; done)
   refine ⟨(i + 1), ?_⟩
   refine ⟨?_, ?_, rfl, rfl, rfl⟩
   ·refine ⟨?_, ?_, ?_, ?_⟩
    ·first | omega | rfl | (intro hg; simp only [nrmT] at hg; omega) | (intro g1 g2; simp [g1, g2]; done) | (intro g1; simp at g1 ⊢; simp [g1]; done) | (simp only [nrmT] at *; omega) | (simp at * <;> omega) | (simp_all <;> omega) | (simp_all; done)
    ·first | omega | rfl | (intro hg; simp only [nrmT] at hg; omega) | (intro g1 g2; simp [g1, g2]; done) | (intro g1; simp at g1 ⊢; simp [g1]; done) | (simp only [nrmT] at *; omega) | (simp at * <;> omega) | (simp_all <;> omega) | (simp_all; done)
    ·exact allTo_step h1 h3 (by simpa using b5)
    ·first | omega | rfl | (intro hg; simp only [nrmT] at hg; omega) | (intro g1 g2; simp [g1, g2]; done) | (intro g1; simp at g1 ⊢; simp [g1]; done) | (simp only [nrmT] at *; omega) | (simp at * <;> omega) | (simp_all <;> omega) | (simp_all; done)
   first | (show _ < _; omega) | (simp only [JC]; omega) | (simp only [JC] at *; simp at *; omega)
  intro b6
  try simp only [nrmT] at b6
  rw [← J0D (d := 0) h4, ← h3]; congr 1; omega
theorem J1A (xs : ZI) (ys : ZI)  : PC Try.prog 47 [.sl (.ints xs), .sl (.ints ys)] (.one (.d (.bool (xs == ys)))) :=
  pc_wf @Try.call47 fun hw => pc_by (by kernel_rfl) Try.func47 @Try.call47 (by kernel_rfl) J3E (J3K xs ys) (by kernel_rfl) (J3k xs ys hw.1 hw.2.1) (by kernel_rfl)
def J1n : List D → Orc := orcN [some .ints, some .ints] fun ds => match ds with
  | [.sl (.ints xs), .sl (.ints ys)] => some (.one (.d (.bool (xs == ys))))
  | _ => none
abbrev JX (xs : ZR) (ys : ZR) (i : Int) : Prop := (0 ≤ i) ∧ (i ≤ (xs.length : Int)) ∧ (allTo (fun k => xs.getD k [] == ys.getD k []) i.toNat = true) ∧ (xs.length = ys.length)
abbrev Jx (xs : ZR) (ys : ZR) (i : Int) : Nat := (xs.length - i).toNat
def J3j (f : FuncId) (ds : List D) : Orc := bif Nat.beq f 47 then J1n ds else .no
def J3s (xs : ZR) (ys : ZR) : Ann := .two (.none) (.two (.none) (.two (.two (.none) (.loop (cut1 (fun (i : Int) => JX xs ys i) (fun (i : Int) => [(0, .d false (.sl (.rows xs))), (1, .d false (.sl (.rows ys))), (5, .d true (.int .i64 i))]) (fun (i : Int) => [])) (fun g => Jx xs ys g) (fun _ => .none))) (.none)))
def J1D (xs : ZR) (ys : ZR) : Prop :=
  ((((xs.length : Int) != (ys.length : Int)) = true → ((false = (xs == ys)))) ∧ (((xs.length : Int) != (ys.length : Int)) = false → ((∃ i' : Int, (JX xs ys i') ∧ (xs = xs) ∧ (ys = ys) ∧ ((0 : Int) = i')) ∧ (∀ i : Int, (JX xs ys i) → (((decide (i < (xs.length : Int))) = true → (true = true) ∧ ((0 : Int) ≤ i) ∧ ((i : Int) < xs.length) ∧ (i.toNat < xs.length) ∧ ((0 : Int) ≤ i) ∧ ((i : Int) < ys.length) ∧ (i.toNat < ys.length) ∧ (PC Try.prog 47 [.sl (.ints (xs.getD i.toNat [])), .sl (.ints (ys.getD i.toNat []))] (.one (.d (.bool ((xs.getD i.toNat []) == (ys.getD i.toNat [])))))) ∧ (((!((xs.getD i.toNat []) == (ys.getD i.toNat []))) = true → ((false = (xs == ys)))) ∧ ((!((xs.getD i.toNat []) == (ys.getD i.toNat []))) = false → (I6 (i + 1)) ∧ (∃ i' : Int, (JX xs ys i') ∧ (Jx xs ys i' < Jx xs ys i) ∧ (xs = xs) ∧ (ys = ys) ∧ ((i + 1) = i'))))) ∧ ((decide (i < (xs.length : Int))) = false → ((true = (xs == ys)))))))))
theorem J2S (xs : ZR) (ys : ZR)  (w_xs : (xs.length : Int) ≤ 9223372036854775807) (v_xs : ∀ x9 ∈ xs, (x9.length : Int) ≤ 9223372036854775807) (w_ys : (ys.length : Int) ≤ 9223372036854775807) (v_ys : ∀ x9 ∈ ys, (x9.length : Int) ≤ 9223372036854775807) : J1D xs ys := by
  unfold J1D
  refine ⟨?_, ?_⟩
  ·intro b1
   try simp only [nrmT] at b1
   exact (J3T (by omega)).symm
  intro b2
  try simp only [nrmT] at b2
  refine ⟨?_, ?_⟩
  ·refine ⟨0, ?_⟩
   refine ⟨?_, rfl, rfl, rfl⟩
   ·refine ⟨?_, ?_, ?_, ?_⟩
    ·first | omega | rfl | (intro hg; simp only [nrmT] at hg; omega) | (intro g1 g2; simp [g1, g2]; done) | (intro g1; simp at g1 ⊢; simp [g1]; done) | (simp only [nrmT] at *; omega) | (simp at * <;> omega) | (simp_all <;> omega) | (simp_all; done)
    ·first | omega | rfl | (intro hg; simp only [nrmT] at hg; omega) | (intro g1 g2; simp [g1, g2]; done) | (intro g1; simp at g1 ⊢; simp [g1]; done) | (simp only [nrmT] at *; omega) | (simp at * <;> omega) | (simp_all <;> omega) | (simp_all; done)
    ·first | omega | rfl | (intro hg; simp only [nrmT] at hg; omega) | (intro g1 g2; simp [g1, g2]; done) | (intro g1; simp at g1 ⊢; simp [g1]; done) | (simp only [nrmT] at *; omega) | (simp at * <;> omega) | (simp_all <;> omega) | (simp_all; done)
    ·first | omega | rfl | (intro hg; simp only [nrmT] at hg; omega) | (intro g1 g2; simp [g1, g2]; done) | (intro g1; simp at g1 ⊢; simp [g1]; done) | (simp only [nrmT] at *; omega) | (simp at * <;> omega) | (simp_all <;> omega) | (simp_all; done)
  intro i hJ
  obtain ⟨h1, h2, h3, h4⟩ := hJ
  refine ⟨?_, ?_⟩
  ·intro b3
   try simp only [nrmT] at b3
   refine ⟨rfl, ?_, ?_, ?_, ?_, ?_, ?_, J1A (xs.getD i.toNat []) (ys.getD i.toNat []), ?_, ?_⟩
   ·first | omega | rfl | (intro hg; simp only [nrmT] at hg; omega) | (intro g1 g2; simp [g1, g2]; done) | (intro g1; simp at g1 ⊢; simp [g1]; done) | (simp only [nrmT] at *; omega) | (simp at * <;> omega) | (simp_all <;> omega) | (simp_all; done)
   ·first | omega | rfl | (intro hg; simp only [nrmT] at hg; omega) | (intro g1 g2; simp [g1, g2]; done) | (intro g1; simp at g1 ⊢; simp [g1]; done) | (simp only [nrmT] at *; omega) | (simp at * <;> omega) | (simp_all <;> omega) | (simp_all; done)
   ·first | omega | rfl | (intro hg; simp only [nrmT] at hg; omega) | (intro g1 g2; simp [g1, g2]; done) | (intro g1; simp at g1 ⊢; simp [g1]; done) | (simp only [nrmT] at *; omega) | (simp at * <;> omega) | (simp_all <;> omega) | (simp_all; done)
   ·first | omega | rfl | (intro hg; simp only [nrmT] at hg; omega) | (intro g1 g2; simp [g1, g2]; done) | (intro g1; simp at g1 ⊢; simp [g1]; done) | (simp only [nrmT] at *; omega) | (simp at * <;> omega) | (simp_all <;> omega) | (simp_all; done)
   ·first | omega | rfl | (intro hg; simp only [nrmT] at hg; omega) | (intro g1 g2; simp [g1, g2]; done) | (intro g1; simp at g1 ⊢; simp [g1]; done) | (simp only [nrmT] at *; omega) | (simp at * <;> omega) | (simp_all <;> omega) | (simp_all; done)
   ·first | omega | rfl | (intro hg; simp only [nrmT] at hg; omega) | (intro g1 g2; simp [g1, g2]; done) | (intro g1; simp at g1 ⊢; simp [g1]; done) | (simp only [nrmT] at *; omega) | (simp at * <;> omega) | (simp_all <;> omega) | (simp_all; done)
   ·intro b4
    try simp only [nrmT] at b4
    rw [← J0D (d := []) h4]; exact (allTo_falseI h1 (by omega) (by simpa using b4)).symm
   intro b5
   try simp only [nrmT] at b5
   refine ⟨?_, ?_⟩
   ·first | omega | rfl | (intro hg; simp only [nrmT] at hg; omega) | (intro g1 g2; simp [g1, g2]; done) | (intro g1; simp at g1 ⊢; simp [g1]; done) | (simp only [nrmT] at *; omega) | (simp at * <;> omega) | (simp_all <;> omega) | (simp_all; done)
   refine ⟨(i + 1), ?_⟩
   refine ⟨?_, ?_, rfl, rfl, rfl⟩
   ·refine ⟨?_, ?_, ?_, ?_⟩
    ·first | omega | rfl | (intro hg; simp only [nrmT] at hg; omega) | (intro g1 g2; simp [g1, g2]; done) | (intro g1; simp at g1 ⊢; simp [g1]; done) | (simp only [nrmT] at *; omega) | (simp at * <;> omega) | (simp_all <;> omega) | (simp_all; done)
    ·first | omega | rfl | (intro hg; simp only [nrmT] at hg; omega) | (intro g1 g2; simp [g1, g2]; done) | (intro g1; simp at g1 ⊢; simp [g1]; done) | (simp only [nrmT] at *; omega) | (simp at * <;> omega) | (simp_all <;> omega) | (simp_all; done)
    ·exact allTo_step h1 h3 (by simpa using b5)
    ·first | omega | rfl | (intro hg; simp only [nrmT] at hg; omega) | (intro g1 g2; simp [g1, g2]; done) | (intro g1; simp at g1 ⊢; simp [g1]; done) | (simp only [nrmT] at *; omega) | (simp at * <;> omega) | (simp_all <;> omega) | (simp_all; done)
   first | (show _ < _; omega) | (simp only [Jx]; omega) | (simp only [Jx] at *; simp at *; omega)
  intro b6
  try simp only [nrmT] at b6
  rw [← J0D (d := []) h4, ← h3]; congr 1; omega
theorem J38 (xs : ZR) (ys : ZR)  : PC Try.prog 46 [.sl (.rows xs), .sl (.rows ys)] (.one (.d (.bool (xs == ys)))) :=
  pc_wf @Try.call46 fun hw => pc_by (by kernel_rfl) Try.func46 @Try.call46 (by kernel_rfl) J3j (J3s xs ys) (by kernel_rfl) (J2S xs ys hw.1.1 hw.1.2 hw.2.1.1 hw.2.1.2) (by kernel_rfl)
def J2C : List D → Orc := orcN [some .rows, some .rows] fun ds => match ds with
  | [.sl (.rows xs), .sl (.rows ys)] => some (.one (.d (.bool (xs == ys))))
  | _ => none
def J3e (f : FuncId) (ds : List D) : Orc := bif Nat.beq f 46 then J2C ds else bif Nat.beq f 47 then J1n ds else .no
def J2K (n1 : Int) (s1 : ZR) (c1 : ZI) (n2 : Int) (s2 : ZR) (c2 : ZI) : Ann := .none
def J1k (n1 : Int) (s1 : ZR) (c1 : ZI) (n2 : Int) (s2 : ZR) (c2 : ZI) : Prop :=
  (((n1 != n2) = true → ((false = ((n1 == n2) && (s1 == s2) && (c1 == c2))))) ∧ ((n1 != n2) = false → (PC Try.prog 46 [.sl (.rows s1), .sl (.rows s2)] (.one (.d (.bool (s1 == s2))))) ∧ (((!(s1 == s2)) = true → ((false = ((n1 == n2) && (s1 == s2) && (c1 == c2))))) ∧ ((!(s1 == s2)) = false → (PC Try.prog 47 [.sl (.ints c1), .sl (.ints c2)] (.one (.d (.bool (c1 == c2))))) ∧ (((!(c1 == c2)) = true → ((false = ((n1 == n2) && (s1 == s2) && (c1 == c2))))) ∧ ((!(c1 == c2)) = false → ((true = ((n1 == n2) && (s1 == s2) && (c1 == c2))))))))))
theorem J2D (n1 : Int) (s1 : ZR) (c1 : ZI) (n2 : Int) (s2 : ZR) (c2 : ZI)  (w_s1 : (s1.length : Int) ≤ 9223372036854775807) (v_s1 : ∀ x9 ∈ s1, (x9.length : Int) ≤ 9223372036854775807) (w_c1 : (c1.length : Int) ≤ 9223372036854775807) (w_s2 : (s2.length : Int) ≤ 9223372036854775807) (v_s2 : ∀ x9 ∈ s2, (x9.length : Int) ≤ 9223372036854775807) (w_c2 : (c2.length : Int) ≤ 9223372036854775807) : J1k n1 s1 c1 n2 s2 c2 := by
  unfold J1k
  refine ⟨?_, ?_⟩
  ·intro b1
   try simp only [nrmT] at b1
   first | omega | rfl | (intro hg; simp only [nrmT] at hg; omega) | (intro g1 g2; simp [g1, g2]; done) | (intro g1; simp at g1 ⊢; simp [g1]; done) | (simp only [nrmT] at *; omega) | (simp at * <;> omega) | (simp_all <;> omega) | (simp_all; done)
  intro b2
  try simp only [nrmT] at b2
  refine ⟨J38 s1 s2, ?_, ?_⟩
  ·intro b3
   try simp only [nrmT] at b3
   first | omega | rfl | (intro hg; simp only [nrmT] at hg; omega) | (intro g1 g2; simp [g1, g2]; done) | (intro g1; simp at g1 ⊢; simp [g1]; done) | (simp only [nrmT] at *; omega) | (simp at * <;> omega) | (simp_all <;> omega) | (simp_all; done)
  intro b4
  try simp only [nrmT] at b4
  refine ⟨J1A c1 c2, ?_, ?_⟩
  ·intro b5
   try simp only [nrmT] at b5
   first | omega | rfl | (intro hg; simp only [nrmT] at hg; omega) | (intro g1 g2; simp [g1, g2]; done) | (intro g1; simp at g1 ⊢; simp [g1]; done) | (simp only [nrmT] at *; omega) | (simp at * <;> omega) | (simp_all <;> omega) | (simp_all; done)
  intro b6
  try simp only [nrmT] at b6
  first | omega | rfl | (intro hg; simp only [nrmT] at hg; omega) | (intro g1 g2; simp [g1, g2]; done) | (intro g1; simp at g1 ⊢; simp [g1]; done) | (simp only [nrmT] at *; omega) | (simp at * <;> omega) | (simp_all <;> omega) | (simp_all; done)
theorem JV (n1 : Int) (s1 : ZR) (c1 : ZI) (n2 : Int) (s2 : ZR) (c2 : ZI)  : PC Try.prog 25 [.agg [.int .i64 n1, .sl (.rows s1), .sl (.ints c1)], .agg [.int .i64 n2, .sl (.rows s2), .sl (.ints c2)]] (.one (.d (.bool ((n1 == n2) && (s1 == s2) && (c1 == c2))))) :=
  pc_wf @Try.call25 fun hw => pc_by (by kernel_rfl) Try.func25 @Try.call25 (by kernel_rfl) J3e (J2K n1 s1 c1 n2 s2 c2) (by kernel_rfl) (J2D n1 s1 c1 n2 s2 c2 hw.1.2.1.1 hw.1.2.1.2 hw.1.2.2.1 hw.2.1.2.1.1 hw.2.1.2.1.2 hw.2.1.2.2.1) (by kernel_rfl)
def J2l : List D → Orc := orcN [none, none] fun ds => match ds with
  | [.agg [.int .i64 n1, .sl (.rows s1), .sl (.ints c1)], .agg [.int .i64 n2, .sl (.rows s2), .sl (.ints c2)]] => some (.one (.d (.bool ((n1 == n2) && (s1 == s2) && (c1 == c2)))))
  | _ => none
theorem J1M {size : Int} {sets : ZR} {costs : ZI} (h : J0 size sets costs = true) : 0 ≤ size ∧ size ≤ 8 ∧ sets.length ≤ 8 ∧ costs.length = sets.length := by
  simp only [J0, Bool.and_eq_true, decide_eq_true_eq] at h
  have := J43 h.1.1.1.1
  omega
def J4a (E : ZR) (r : Int) (i j a : Nat) : Bool := decide ((E.getD i []).getD a 0 ≤ r) && decide ((E.getD j []).getD a 0 ≤ r)
def J4e (n : Nat) (E : ZR) (i j r : Int) : Bool := allTo (fun a => !(J4a E r i.toNat j.toNat a)) n
abbrev Ji (xs : ZI) (x : Int) (i : Int) : Prop := (0 ≤ i) ∧ (i ≤ (xs.length : Int)) ∧ (∀ k, k < i.toNat → (fun y => x == y) (xs.getD k 0) = false)
abbrev Jj (xs : ZI) (x : Int) (i : Int) : Nat := (xs.length - i).toNat
def J0L (f : FuncId) (ds : List D) : Orc := .no
def J0K (xs : ZI) (x : Int) : Ann := .two (.none) (.two (.two (.none) (.loop (cut1 (fun (i : Int) => Ji xs x i) (fun (i : Int) => [(0, .d false (.sl (.ints xs))), (1, .d false (.int .i64 x)), (7, .d true (.int .i64 (xs.length : Int))), (8, .d true (.int .i64 i))]) (fun (i : Int) => [])) (fun g => Jj xs x g) (fun _ => .none))) (.none))
def JM (xs : ZI) (x : Int) : Prop :=
  ((∃ i' : Int, (Ji xs x i') ∧ (xs = xs) ∧ (x = x) ∧ ((xs.length : Int) = (xs.length : Int)) ∧ ((0 : Int) = i')) ∧ (∀ i : Int, (Ji xs x i) → (((decide (i < (xs.length : Int))) = true → ((0 : Int) ≤ i) ∧ ((i : Int) < xs.length) ∧ (i.toNat < xs.length) ∧ (((x == (xs.getD i.toNat 0)) = true → ((i = (idxI (fun y => x == y) xs)))) ∧ ((x == (xs.getD i.toNat 0)) = false → (I6 (i + 1)) ∧ (∃ i' : Int, (Ji xs x i') ∧ (Jj xs x i' < Jj xs x i) ∧ (xs = xs) ∧ (x = x) ∧ ((xs.length : Int) = (xs.length : Int)) ∧ ((i + 1) = i'))))) ∧ ((decide (i < (xs.length : Int))) = false → ((((-1) : Int) = (idxI (fun y => x == y) xs)))))))
theorem J0H (xs : ZI) (x : Int)  (w_xs : (xs.length : Int) ≤ 9223372036854775807) : JM xs x := by
  unfold JM
  refine ⟨?_, ?_⟩
  ·refine ⟨0, ?_⟩
   refine ⟨?_, rfl, rfl, rfl, rfl⟩
   ·refine ⟨?_, ?_, ?_⟩
    ·omega
    ·omega
    ·omega
  intro i hJ
  obtain ⟨h1, h2, h3⟩ := hJ
  refine ⟨?_, ?_⟩
  ·intro b1
   try simp only [nrmT] at b1
   refine ⟨?_, ?_, ?_, ?_, ?_⟩
   ·omega
   ·omega
   ·omega
   ·intro b2
    try simp only [nrmT] at b2
    exact idx_found (p := fun y => x == y) h1 b1 h3 (by simpa using b2)
   intro b3
   try simp only [nrmT] at b3
   refine ⟨?_, ?_⟩
   ·omega
   refine ⟨(i + 1), ?_⟩
   refine ⟨?_, ?_, rfl, rfl, rfl, rfl⟩
   ·refine ⟨?_, ?_, ?_⟩
    ·omega
    ·omega
    ·exact idx_step (p := fun y => x == y) h1 h3 (by simpa using b3)
   (simp only [Jj]; omega)
  intro b4
  try simp only [nrmT] at b4
  exact (idx_none (by omega) h3).symm
theorem J0J (xs : ZI) (x : Int)  : PC Try.prog 216 [.sl (.ints xs), .int .i64 x] (.one (.d (.int .i64 (idxI (fun y => x == y) xs)))) :=
  pc_wf @Try.call216 fun hw => pc_by (by kernel_rfl) Try.func216 @Try.call216 (by kernel_rfl) J0L (J0K xs x) (by kernel_rfl) (J0H xs x hw.1) (by kernel_rfl)
def J0E : List D → Orc := orcN [some .ints, none] fun ds => match ds with
  | [.sl (.ints xs), .int .i64 x] => some (.one (.d (.int .i64 (idxI (fun y => x == y) xs))))
  | _ => none
def J0y (f : FuncId) (ds : List D) : Orc := bif Nat.beq f 216 then J0E ds else .no
def J0A (xs : ZI) (x : Int) : Ann := .none
def Jy (xs : ZI) (x : Int) : Prop :=
  (PC Try.prog 216 [.sl (.ints xs), .int .i64 x] (.one (.d (.int .i64 (idxI (fun y => x == y) xs))))) ∧ (((decide ((idxI (fun y => x == y) xs) ≥ 0)) = (xs.contains x)))
theorem J0r (xs : ZI) (x : Int)  (w_xs : (xs.length : Int) ≤ 9223372036854775807) : Jy xs x := by
  unfold Jy
  refine ⟨J0J xs x, ?_⟩
  ·rw [idx_any, List.contains_eq_any_beq]
theorem J0x (xs : ZI) (x : Int)  : PC Try.prog 181 [.sl (.ints xs), .int .i64 x] (.one (.d (.bool (xs.contains x)))) :=
  pc_wf @Try.call181 fun hw => pc_by (by kernel_rfl) Try.func181 @Try.call181 (by kernel_rfl) J0y (J0A xs x) (by kernel_rfl) (J0r xs x hw.1) (by kernel_rfl)
def J0n : List D → Orc := orcN [some .ints, none] fun ds => match ds with
  | [.sl (.ints xs), .int .i64 x] => some (.one (.d (.bool (xs.contains x))))
  | _ => none
theorem J49 {xs : ZI} {x i : Int} (h2 : (xs.length : Int) ≤ i) (h3 : ∀ k, k < i.toNat → (fun y => x == y) (xs.getD k 0) = false) : xs.contains x = false := by
  rw [List.contains_eq_any_beq, List.any_eq_false]
  intro y hy
  obtain ⟨k, hk, rfl⟩ := List.mem_iff_getElem.1 hy
  have := h3 k (by omega)
  simp [hk] at this
  simpa using this
theorem J40 {xs : ZI} {x i : Int} (h1 : 0 ≤ i) (h2 : i < (xs.length : Int)) (h : xs.getD i.toNat 0 = x) : xs.contains x = true := by
  rw [List.contains_iff_mem, ← h]; exact getD_memI h1 h2
abbrev J0p (xs : ZI) (x : Int) (i : Int) : Prop := (0 ≤ i) ∧ (i ≤ (xs.length : Int)) ∧ (∀ k, k < i.toNat → (fun y => x == y) (xs.getD k 0) = false)
abbrev J0o (xs : ZI) (x : Int) (i : Int) : Nat := (xs.length - i).toNat
def J3Y (f : FuncId) (ds : List D) : Orc := .no
def J3Z (xs : ZI) (x : Int) : Ann := .two (.none) (.two (.two (.none) (.loop (cut1 (fun (i : Int) => J0p xs x i) (fun (i : Int) => [(0, .d false (.sl (.ints xs))), (1, .d false (.int .i64 x)), (5, .d true (.int .i64 i))]) (fun (i : Int) => [])) (fun g => J0o xs x g) (fun _ => .none))) (.none))
def J2p (xs : ZI) (x : Int) : Prop :=
  ((∃ i' : Int, (J0p xs x i') ∧ (xs = xs) ∧ (x = x) ∧ ((0 : Int) = i')) ∧ (∀ i : Int, (J0p xs x i) → (((decide (i < (xs.length : Int))) = true → ((0 : Int) ≤ i) ∧ ((i : Int) < xs.length) ∧ (i.toNat < xs.length) ∧ ((((xs.getD i.toNat 0) == x) = true → ((true = (xs.contains x)))) ∧ (((xs.getD i.toNat 0) == x) = false → (I6 (i + 1)) ∧ (∃ i' : Int, (J0p xs x i') ∧ (J0o xs x i' < J0o xs x i) ∧ (xs = xs) ∧ (x = x) ∧ ((i + 1) = i'))))) ∧ ((decide (i < (xs.length : Int))) = false → ((false = (xs.contains x)))))))
theorem J3I (xs : ZI) (x : Int)  (w_xs : (xs.length : Int) ≤ 9223372036854775807) : J2p xs x := by
  unfold J2p
  refine ⟨?_, ?_⟩
  ·refine ⟨0, ?_⟩
   refine ⟨?_, rfl, rfl, rfl⟩
   ·refine ⟨?_, ?_, ?_⟩
    ·omega
    ·omega
    ·omega
  intro i hJ
  obtain ⟨h1, h2, h3⟩ := hJ
  refine ⟨?_, ?_⟩
  ·intro b1
   try simp only [nrmT] at b1
   refine ⟨?_, ?_, ?_, ?_, ?_⟩
   ·omega
   ·omega
   ·omega
   ·intro b2
    try simp only [nrmT] at b2
    exact (J40 h1 b1 b2).symm
   intro b3
   try simp only [nrmT] at b3
   refine ⟨?_, ?_⟩
   ·omega
   refine ⟨(i + 1), ?_⟩
   refine ⟨?_, ?_, rfl, rfl, rfl⟩
   ·refine ⟨?_, ?_, ?_⟩
    ·omega
    ·omega
    ·exact idx_step (p := fun y => x == y) h1 h3 (by simp only [beq_eq_false_iff_ne]; exact fun h => b3 h.symm)
   (simp only [J0o]; omega)
  intro b4
  try simp only [nrmT] at b4
  exact (J49 (by omega) h3).symm
theorem J3L (xs : ZI) (x : Int)  : PC Try.prog 182 [.sl (.ints xs), .int .i64 x] (.one (.d (.bool (xs.contains x)))) :=
  pc_wf @Try.call182 fun hw => pc_by (by kernel_rfl) Try.func182 @Try.call182 (by kernel_rfl) J3Y (J3Z xs x) (by kernel_rfl) (J3I xs x hw.1) (by kernel_rfl)
def J3i : List D → Orc := orcN [some .ints, none] fun ds => match ds with
  | [.sl (.ints xs), .int .i64 x] => some (.one (.d (.bool (xs.contains x))))
  | _ => none
def J0G (Sets : ZR) (x : Nat) : ZI := members (fun k => (Sets.getD k []).contains (x : Int)) Sets.length
def Jp (Sets : ZR) (n : Nat) : ZR := tabTo (J0G Sets) n
/-- Marks from k on. -/
def J6 (k : Int) (n : Nat) : ZI := (List.range n).map fun (i : Nat) => k + (i : Int)
def Jn (k : Int) (xs : ZI) (g : Nat) : ZI := J6 k g ++ xs.drop g
theorem J4 (k : Int) (n : Nat) : (J6 k n).length = n := by simp [J6]
theorem J3l (k : Int) (xs : ZI) : Jn k xs 0 = xs := by simp [Jn, J6]
theorem J3O (k : Int) (xs : ZI) : Jn k xs xs.length = J6 k xs.length := by simp [Jn]
theorem J3Q (k : Int) (xs : ZI) (g : Nat) (h : g ≤ xs.length) : (Jn k xs g).length = xs.length := by simp [Jn, J4]; omega
theorem J3t (k : Int) (xs : ZI) (g : Nat) (h : g < xs.length) : (Jn k xs g).set g (k + (g : Int)) = Jn k xs (g + 1) := by
  apply List.ext_getElem?
  intro j
  simp only [Jn, J6, List.getElem?_set, List.getElem?_append, List.length_map, List.length_range, List.getElem?_map, List.getElem?_drop, List.length_append, List.length_drop]
  by_cases h1 : g = j
  · subst h1
    simp [h]
    omega
  by_cases h2 : j < g
  · simp [h1, h2, show j < g + 1 by omega]
  · simp [h1, h2, show ¬ j < g + 1 by omega]
    congr 1; omega
theorem J1P : ∀ (ns : List Nat) (g : Nat), g < ns.length → (ns.take (g + 1)).sum = (ns.take g).sum + ns.getD g 0
  | [], g, h => by simp at h
  | n :: r, 0, _ => by simp
  | n :: r, g + 1, h => by
    have := J1P r g (by simpa using h)
    simp only [List.take_succ_cons, List.sum_cons, List.getD_cons_succ, this]
    omega
theorem J3n (ns : List Nat) (g : Nat) : (ns.take g).sum ≤ ns.sum := by
  have := List.take_append_drop g ns
  have h2 : ns.sum = (ns.take g).sum + (ns.drop g).sum := by rw [← List.sum_append, this]
  omega
def J1w (f : FuncId) (ms : List MV) : Option Int := none
def J1u (n : Nat) (k : Int) : MAnn := .two (.none) (.two (.two (.none) (.loop n (fun g => [(0, .shp (.ints n)), (1, .int (k + (g : Int))), (5, .int (g : Int))]) (fun g => []) (fun g => .none))) (.none))
def J0B (n : Nat) (k : Int) : Prop :=
  (((([] : ZI) = []) ∧ ((.ints n : Sh) = .ints n) ∧ ((k : Int) = (k + ((0 : Nat) : Int))) ∧ ((0 : Int) = ((0 : Nat) : Int))) ∧ (∀ g : Nat, g ≤ n → (((decide ((g : Int) < ((n : Nat) : Int))) = true → ((0 : Int) ≤ (g : Int)) ∧ (((g : Int) : Int) < ((n : Nat) : Int)) ∧ (I6 ((k + (g : Int)) + 1)) ∧ (I6 ((g : Int) + 1)) ∧ ((g + 1 ≤ n) ∧ (([] : ZI) = []) ∧ ((.ints n : Sh) = .ints n) ∧ ((((k + (g : Int)) + 1) : Int) = (k + ((g + 1 : Nat) : Int))) ∧ ((((g : Int) + 1) : Int) = ((g + 1 : Nat) : Int)))) ∧ ((decide ((g : Int) < ((n : Nat) : Int))) = false → (((((k + (g : Int)) : Int) = k + (n : Int))) ∧ ((([] : ZI) = [])))))))
theorem J1r (n : Nat) (k : Int) (hk : 0 ≤ k) (hn : k + (n : Int) ≤ 9223372036854775807) : J0B n k := by
  unfold J0B
  refine ⟨?_, ?_⟩
  · refine ⟨?_, ?_⟩
    · exact rfl
    refine ⟨?_, ?_⟩
    · exact rfl
    refine ⟨?_, ?_⟩
    · first | omega | rfl | (simp; done) | (simp <;> omega)
    first | omega | rfl | (simp; done) | (simp <;> omega)
  intro g hg
  refine ⟨?_, ?_⟩
  · intro b1
    simp only [nrmT] at b1
    refine ⟨?_, ?_⟩
    · first | omega | rfl | (simp; done) | (simp <;> omega)
    refine ⟨?_, ?_⟩
    · first | omega | rfl | (simp; done) | (simp <;> omega)
    refine ⟨?_, ?_⟩
    · first | omega | rfl | (simp; done) | (simp <;> omega)
    refine ⟨?_, ?_⟩
    · first | omega | rfl | (simp; done) | (simp <;> omega)
    refine ⟨?_, ?_⟩
    · first | omega | rfl | (simp; done) | (simp <;> omega)
    refine ⟨?_, ?_⟩
    · exact rfl
    refine ⟨?_, ?_⟩
    · exact rfl
    refine ⟨?_, ?_⟩
    · first | omega | rfl | (simp; done) | (simp <;> omega)
    first | omega | rfl | (simp; done) | (simp <;> omega)
  intro b2
  simp only [nrmT] at b2
  refine ⟨?_, ?_⟩
  · first | omega | rfl | (simp; done) | (simp <;> omega)
  exact rfl
theorem J0u (n : Nat) (k : Int) (hk : 0 ≤ k) (hn : k + (n : Int) ≤ 9223372036854775807) : PG Try.prog 48 [.shp (.ints n), .int k] (k + (n : Int)) :=
  pg_by Try.func48 @Try.call48 (by kernel_rfl) J1w (J1u n k) (by kernel_rfl) (J1r n k hk hn) (by kernel_rfl)
def J1y (f : FuncId) (ms : List MV) : Option Int := none
def J1z (xs : ZI) (k : Int) : MAnn := .two (.none) (.two (.two (.none) (.loop xs.length (fun g => [(0, .row xs.length), (1, .int (k + (g : Int))), (5, .int (g : Int))]) (fun g => (Jn k xs g)) (fun g => .none))) (.none))
def J0C (xs : ZI) (k : Int) : Prop :=
  ((((xs : ZI) = (Jn k xs (0 : Nat))) ∧ ((xs.length : Nat) = xs.length) ∧ ((k : Int) = (k + ((0 : Nat) : Int))) ∧ ((0 : Int) = ((0 : Nat) : Int))) ∧ (∀ g : Nat, g ≤ xs.length → (((decide ((g : Int) < (xs.length : Int))) = true → ((0 : Int) ≤ (g : Int)) ∧ (((g : Int) : Int) < (xs.length : Int)) ∧ ((g : Int).toNat < (Jn k xs g).length) ∧ (I6 ((k + (g : Int)) + 1)) ∧ (I6 ((g : Int) + 1)) ∧ ((g + 1 ≤ xs.length) ∧ ((((Jn k xs g).set ((g : Int).toNat) (k + (g : Int))) : ZI) = (Jn k xs (g + 1 : Nat))) ∧ ((xs.length : Nat) = xs.length) ∧ ((((k + (g : Int)) + 1) : Int) = (k + ((g + 1 : Nat) : Int))) ∧ ((((g : Int) + 1) : Int) = ((g + 1 : Nat) : Int)))) ∧ ((decide ((g : Int) < (xs.length : Int))) = false → (((((k + (g : Int)) : Int) = k + (xs.length : Int))) ∧ ((((Jn k xs g) : ZI) = (J6 k xs.length))))))))
theorem J19 (xs : ZI) (k : Int) (hk : 0 ≤ k) (hn : k + (xs.length : Int) ≤ 9223372036854775807) : J0C xs k := by
  unfold J0C
  refine ⟨?_, ?_⟩
  · refine ⟨?_, ?_⟩
    · exact (J3l k xs).symm
    refine ⟨?_, ?_⟩
    · exact rfl
    refine ⟨?_, ?_⟩
    · first | omega | rfl | (simp; done) | (simp <;> omega)
    first | omega | rfl | (simp; done) | (simp <;> omega)
  intro g hg
  refine ⟨?_, ?_⟩
  · intro b1
    simp only [nrmT] at b1
    refine ⟨?_, ?_⟩
    · first | omega | rfl | (simp; done) | (simp <;> omega)
    refine ⟨?_, ?_⟩
    · first | omega | rfl | (simp; done) | (simp <;> omega)
    refine ⟨?_, ?_⟩
    · rw [J3Q _ _ _ (by omega)]; omega
    refine ⟨?_, ?_⟩
    · first | omega | rfl | (simp; done) | (simp <;> omega)
    refine ⟨?_, ?_⟩
    · first | omega | rfl | (simp; done) | (simp <;> omega)
    refine ⟨?_, ?_⟩
    · first | omega | rfl | (simp; done) | (simp <;> omega)
    refine ⟨?_, ?_⟩
    · exact J3t k xs g (by omega)
    refine ⟨?_, ?_⟩
    · exact rfl
    refine ⟨?_, ?_⟩
    · first | omega | rfl | (simp; done) | (simp <;> omega)
    first | omega | rfl | (simp; done) | (simp <;> omega)
  intro b2
  simp only [nrmT] at b2
  refine ⟨?_, ?_⟩
  · first | omega | rfl | (simp; done) | (simp <;> omega)
  rw [show g = xs.length by omega]; exact J3O k xs
theorem J0v (xs : ZI) (k : Int) (hk : 0 ≤ k) (hn : k + (xs.length : Int) ≤ 9223372036854775807) : PW Try.prog 48 3 xs (J6 k xs.length) k (k + (xs.length : Int)) :=
  pw_by Try.func48 @Try.call48 (by kernel_rfl) J1y (J1z xs k) (by kernel_rfl) (Nat.le_of_eq (J4 _ _)) (J19 xs k hk hn) (by kernel_rfl)
def J1d (f : FuncId) (ms : List MV) : Option Int := bif Nat.beq f 48 then (match ms with
  | [.shp (.ints n), .int k] => some (k + (n : Int))
  | _ => none) else none
def J1a (ns : List Nat) (k : Int) : MAnn := .two (.none) (.two (.two (.none) (.loop ns.length (fun g => [(0, .shp (.rows ns)), (1, .int (k + ((ns.take g).sum : Int))), (5, .int (g : Int))]) (fun g => []) (fun g => .none))) (.none))
def J0w (ns : List Nat) (k : Int) : Prop :=
  (((([] : ZI) = []) ∧ ((.rows ns : Sh) = .rows ns) ∧ ((k : Int) = (k + ((ns.take (0 : Nat)).sum : Int))) ∧ ((0 : Int) = ((0 : Nat) : Int))) ∧ (∀ g : Nat, g ≤ ns.length → (((decide ((g : Int) < ((ns.length : Nat) : Int))) = true → ((0 : Int) ≤ (g : Int)) ∧ (((g : Int) : Int) < ((ns.length : Nat) : Int)) ∧ (PG Try.prog 48 [.shp (.ints (ns.getD ((g : Int).toNat) 0)), .int (k + ((ns.take g).sum : Int))] ((k + ((ns.take g).sum : Int)) + ((ns.getD ((g : Int).toNat) 0) : Int))) ∧ (I6 ((g : Int) + 1)) ∧ ((g + 1 ≤ ns.length) ∧ (([] : ZI) = []) ∧ ((.rows ns : Sh) = .rows ns) ∧ ((((k + ((ns.take g).sum : Int)) + ((ns.getD ((g : Int).toNat) 0) : Int)) : Int) = (k + ((ns.take (g + 1 : Nat)).sum : Int))) ∧ ((((g : Int) + 1) : Int) = ((g + 1 : Nat) : Int)))) ∧ ((decide ((g : Int) < ((ns.length : Nat) : Int))) = false → (((((k + ((ns.take g).sum : Int)) : Int) = k + (ns.sum : Int))) ∧ ((([] : ZI) = [])))))))
theorem J18 (ns : List Nat) (k : Int) (hk : 0 ≤ k) (hl : (ns.length : Int) ≤ 9223372036854775807) (hn : k + (ns.sum : Int) ≤ 9223372036854775807) : J0w ns k := by
  unfold J0w
  refine ⟨?_, ?_⟩
  · refine ⟨?_, ?_⟩
    · exact rfl
    refine ⟨?_, ?_⟩
    · exact rfl
    refine ⟨?_, ?_⟩
    · first | omega | rfl | (simp; done) | (simp <;> omega)
    first | omega | rfl | (simp; done) | (simp <;> omega)
  intro g hg
  refine ⟨?_, ?_⟩
  · intro b1
    simp only [nrmT] at b1
    refine ⟨?_, ?_⟩
    · first | omega | rfl | (simp; done) | (simp <;> omega)
    refine ⟨?_, ?_⟩
    · first | omega | rfl | (simp; done) | (simp <;> omega)
    refine ⟨?_, ?_⟩
    · refine J0u (ns.getD ((g : Int).toNat) 0) (k + ((ns.take g).sum : Int)) ?_ ?_
      · first | omega | rfl | (simp; done) | (simp <;> omega)
      · have := J3n ns (g + 1); rw [J1P ns g (by omega)] at this; simp only [Int.toNat_natCast]; omega
    refine ⟨?_, ?_⟩
    · first | omega | rfl | (simp; done) | (simp <;> omega)
    refine ⟨?_, ?_⟩
    · first | omega | rfl | (simp; done) | (simp <;> omega)
    refine ⟨?_, ?_⟩
    · exact rfl
    refine ⟨?_, ?_⟩
    · exact rfl
    refine ⟨?_, ?_⟩
    · rw [J1P ns g (by omega)]; simp; omega
    first | omega | rfl | (simp; done) | (simp <;> omega)
  intro b2
  simp only [nrmT] at b2
  refine ⟨?_, ?_⟩
  · rw [show g = ns.length by omega]; simp
  exact rfl
theorem J17 (ns : List Nat) (k : Int) (hk : 0 ≤ k) (hl : (ns.length : Int) ≤ 9223372036854775807) (hn : k + (ns.sum : Int) ≤ 9223372036854775807) : PG Try.prog 49 [.shp (.rows ns), .int k] (k + (ns.sum : Int)) :=
  pg_by Try.func49 @Try.call49 (by kernel_rfl) J1d (J1a ns k) (by kernel_rfl) (J18 ns k hk hl hn) (by kernel_rfl)
def J14 (f : FuncId) (ms : List MV) : Option Int := bif Nat.beq f 49 then (match ms with
  | [.shp (.rows ns), .int k] => some (k + (ns.sum : Int))
  | _ => none) else bif Nat.beq f 48 then (match ms with
  | [.shp (.ints n), .int k] => some (k + (n : Int))
  | _ => none) else none
def J15 (ns : List Nat) (n : Nat) (k : Int) : MAnn := .none
def J0k (ns : List Nat) (n : Nat) (k : Int) : Prop :=
  (PG Try.prog 49 [.shp (.rows ns), .int k] (k + (ns.sum : Int))) ∧ (PG Try.prog 48 [.shp (.ints n), .int (k + (ns.sum : Int))] ((k + (ns.sum : Int)) + (n : Int))) ∧ ((((((k + (ns.sum : Int)) + (n : Int)) : Int) = k + (ns.sum : Int) + (n : Int))) ∧ ((([] : ZI) = [])))
theorem J0Z (ns : List Nat) (n : Nat) (k : Int) (hk : 0 ≤ k) (hl : (ns.length : Int) ≤ 9223372036854775807) (hn : k + (ns.sum : Int) + (n : Int) ≤ 9223372036854775807) : J0k ns n k := by
  unfold J0k
  refine ⟨?_, ?_⟩
  · refine J17 ns k ?_ ?_ ?_
    · first | omega | rfl | (simp; done) | (simp <;> omega)
    · first | omega | rfl | (simp; done) | (simp <;> omega)
    · first | omega | rfl | (simp; done) | (simp <;> omega)
  refine ⟨?_, ?_⟩
  · refine J0u n (k + (ns.sum : Int)) ?_ ?_
    · first | omega | rfl | (simp; done) | (simp <;> omega)
    · first | omega | rfl | (simp; done) | (simp <;> omega)
  refine ⟨?_, ?_⟩
  · first | omega | rfl | (simp; done) | (simp <;> omega)
  exact rfl
theorem J10 (ns : List Nat) (n : Nat) (k : Int) (hk : 0 ≤ k) (hl : (ns.length : Int) ≤ 9223372036854775807) (hn : k + (ns.sum : Int) + (n : Int) ≤ 9223372036854775807) : PG Try.prog 28 [.agg [.any, .rows ns, .ints n], .int k] (k + (ns.sum : Int) + (n : Int)) :=
  pg_by Try.func28 @Try.call28 (by kernel_rfl) J14 (J15 ns n k) (by kernel_rfl) (J0Z ns n k hk hl hn) (by kernel_rfl)
theorem J3J (k : Int) (n i : Nat) (h : i < n) : (J6 k n).getD i 0 = k + (i : Int) := by
  simp [J6, h]
abbrev JH (xs : ZI) (k : Int) (k2 : Int) (i : Int) : Prop := (0 ≤ i) ∧ (i ≤ (xs.length : Int)) ∧ (k2 = k + i)
abbrev Jt (xs : ZI) (k : Int) (k2 : Int) (i : Int) : Nat := (xs.length - i).toNat
def J2R (f : FuncId) (ds : List D) : Orc := .no
def J2P (xs : ZI) (k : Int) : Ann := .two (.none) (.two (.two (.none) (.loop (cut2 (fun (k2 : Int) (i : Int) => JH xs k k2 i) (fun (k2 : Int) (i : Int) => [(0, .d false (.sl (.ints xs))), (1, .d true (.int .i64 k2)), (5, .d true (.int .i64 i))]) (fun (k2 : Int) (i : Int) => [])) (fun g => Jt xs k g.1 g.2) (fun _ => .none))) (.none))
def J1p (xs : ZI) (k : Int) : Prop :=
  ((∃ k2' : Int, ∃ i' : Int, (JH xs k k2' i') ∧ (xs = xs) ∧ (k = k2') ∧ ((0 : Int) = i')) ∧ (∀ k2 : Int, ∀ i : Int, (JH xs k k2 i) → (((decide (i < (xs.length : Int))) = true → ((0 : Int) ≤ i) ∧ ((i : Int) < xs.length) ∧ (i.toNat < xs.length) ∧ ((((xs.getD i.toNat 0) != k2) = true → ((((-1) : Int) = (k + (xs.length : Int))))) ∧ (((xs.getD i.toNat 0) != k2) = false → (I6 (k2 + 1)) ∧ (I6 (i + 1)) ∧ (∃ k2' : Int, ∃ i' : Int, (JH xs k k2' i') ∧ (Jt xs k k2' i' < Jt xs k k2 i) ∧ (xs = xs) ∧ ((k2 + 1) = k2') ∧ ((i + 1) = i'))))) ∧ ((decide (i < (xs.length : Int))) = false → ((k2 = (k + (xs.length : Int))))))))
theorem J2x (xs : ZI) (k : Int) (hk : 0 ≤ k) (hx : xs = J6 k xs.length) (hn : k + (xs.length : Int) ≤ 9223372036854775807) (w_xs : (xs.length : Int) ≤ 9223372036854775807) : J1p xs k := by
  unfold J1p
  refine ⟨?_, ?_⟩
  ·refine ⟨k, 0, ?_⟩
   refine ⟨?_, rfl, rfl, rfl⟩
   ·refine ⟨?_, ?_, ?_⟩
    ·first | omega | rfl | (intro hg; simp only [nrmT] at hg; omega) | (intro g1 g2; simp [g1, g2]; done) | (intro g1; simp at g1 ⊢; simp [g1]; done) | (simp only [nrmT] at *; omega) | (simp at * <;> omega) | (simp_all <;> omega) | (simp_all; done)
    ·first | omega | rfl | (intro hg; simp only [nrmT] at hg; omega) | (intro g1 g2; simp [g1, g2]; done) | (intro g1; simp at g1 ⊢; simp [g1]; done) | (simp only [nrmT] at *; omega) | (simp at * <;> omega) | (simp_all <;> omega) | (simp_all; done)
    ·first | omega | rfl | (intro hg; simp only [nrmT] at hg; omega) | (intro g1 g2; simp [g1, g2]; done) | (intro g1; simp at g1 ⊢; simp [g1]; done) | (simp only [nrmT] at *; omega) | (simp at * <;> omega) | (simp_all <;> omega) | (simp_all; done)
  intro k2 i hJ
  obtain ⟨h1, h2, h3⟩ := hJ
  refine ⟨?_, ?_⟩
  ·intro b1
   try simp only [nrmT] at b1
   refine ⟨?_, ?_, ?_, ?_, ?_⟩
   ·first | omega | rfl | (intro hg; simp only [nrmT] at hg; omega) | (intro g1 g2; simp [g1, g2]; done) | (intro g1; simp at g1 ⊢; simp [g1]; done) | (simp only [nrmT] at *; omega) | (simp at * <;> omega) | (simp_all <;> omega) | (simp_all; done)
   ·first | omega | rfl | (intro hg; simp only [nrmT] at hg; omega) | (intro g1 g2; simp [g1, g2]; done) | (intro g1; simp at g1 ⊢; simp [g1]; done) | (simp only [nrmT] at *; omega) | (simp at * <;> omega) | (simp_all <;> omega) | (simp_all; done)
   ·first | omega | rfl | (intro hg; simp only [nrmT] at hg; omega) | (intro g1 g2; simp [g1, g2]; done) | (intro g1; simp at g1 ⊢; simp [g1]; done) | (simp only [nrmT] at *; omega) | (simp at * <;> omega) | (simp_all <;> omega) | (simp_all; done)
   ·intro b2
    try simp only [nrmT] at b2
    exfalso
    have h9 : xs.getD i.toNat 0 = k + (i.toNat : Int) := by
      rw [hx]; exact J3J k _ _ (by omega)
    omega
   intro b3
   try simp only [nrmT] at b3
   refine ⟨?_, ?_, ?_⟩
   ·first | omega | rfl | (intro hg; simp only [nrmT] at hg; omega) | (intro g1 g2; simp [g1, g2]; done) | (intro g1; simp at g1 ⊢; simp [g1]; done) | (simp only [nrmT] at *; omega) | (simp at * <;> omega) | (simp_all <;> omega) | (simp_all; done)
   ·first | omega | rfl | (intro hg; simp only [nrmT] at hg; omega) | (intro g1 g2; simp [g1, g2]; done) | (intro g1; simp at g1 ⊢; simp [g1]; done) | (simp only [nrmT] at *; omega) | (simp at * <;> omega) | (simp_all <;> omega) | (simp_all; done)
   refine ⟨(k2 + 1), (i + 1), ?_⟩
   refine ⟨?_, ?_, rfl, rfl, rfl⟩
   ·refine ⟨?_, ?_, ?_⟩
    ·first | omega | rfl | (intro hg; simp only [nrmT] at hg; omega) | (intro g1 g2; simp [g1, g2]; done) | (intro g1; simp at g1 ⊢; simp [g1]; done) | (simp only [nrmT] at *; omega) | (simp at * <;> omega) | (simp_all <;> omega) | (simp_all; done)
    ·first | omega | rfl | (intro hg; simp only [nrmT] at hg; omega) | (intro g1 g2; simp [g1, g2]; done) | (intro g1; simp at g1 ⊢; simp [g1]; done) | (simp only [nrmT] at *; omega) | (simp at * <;> omega) | (simp_all <;> omega) | (simp_all; done)
    ·first | omega | rfl | (intro hg; simp only [nrmT] at hg; omega) | (intro g1 g2; simp [g1, g2]; done) | (intro g1; simp at g1 ⊢; simp [g1]; done) | (simp only [nrmT] at *; omega) | (simp at * <;> omega) | (simp_all <;> omega) | (simp_all; done)
   first | (show _ < _; omega) | (simp only [Jt]; omega) | (simp only [Jt] at *; simp at *; omega)
  intro b4
  try simp only [nrmT] at b4
  first | omega | rfl | (intro hg; simp only [nrmT] at hg; omega) | (intro g1 g2; simp [g1, g2]; done) | (intro g1; simp at g1 ⊢; simp [g1]; done) | (simp only [nrmT] at *; omega) | (simp at * <;> omega) | (simp_all <;> omega) | (simp_all; done)
theorem J13 (xs : ZI) (k : Int) (hk : 0 ≤ k) (hx : xs = J6 k xs.length) (hn : k + (xs.length : Int) ≤ 9223372036854775807) : PC Try.prog 121 [.sl (.ints xs), .int .i64 k] (.one (.d (.int .i64 (k + (xs.length : Int))))) :=
  pc_wf @Try.call121 fun hw => pc_by (by kernel_rfl) Try.func121 @Try.call121 (by kernel_rfl) J2R (J2P xs k) (by kernel_rfl) (J2x xs k hk hx hn hw.1) (by kernel_rfl)
def J0R : List D → Orc := orcN [some .ints, none] fun ds => match ds with
  | [.sl (.ints xs), .int .i64 k] => some (.one (.d (.int .i64 (k + (xs.length : Int)))))
  | _ => none
theorem J3f : ∀ (xss : ZR) (m : Nat), (∀ xs ∈ xss, xs.length ≤ m) → (xss.map List.length).sum ≤ xss.length * m
  | [], m, _ => by simp
  | xs :: r, m, h => by
    have h1 := J3f r m fun ys hy => h ys (by simp [hy])
    have h2 := h xs (by simp)
    simp only [List.map_cons, List.sum_cons, List.length_cons, Nat.add_mul]
    omega
theorem J3R {xss : ZR} (h1 : xss.length ≤ 1048576) (h2 : ∀ xs ∈ xss, xs.length ≤ 1048576) : (xss.map List.length).sum ≤ 1099511627776 := by
  have h3 := J3f xss 1048576 h2
  have h4 := Nat.mul_le_mul_right 1048576 h1
  omega
def mkS : Int → ZR → ZR
  | _, [] => []
  | k, xs :: r => J6 k xs.length :: mkS (k + (xs.length : Int)) r
def J1 (xss : ZR) : Nat := (xss.map List.length).sum
def J0m (k : Int) (xss : ZR) (g : Nat) : ZR := mkS k (xss.take g) ++ xss.drop g
theorem J02 : ∀ (k : Int) (xss : ZR), (mkS k xss).length = xss.length
  | _, [] => rfl
  | k, xs :: r => by simp [mkS, J02 _ r]
theorem J3z : ∀ (k : Int) (a b : ZR), mkS k (a ++ b) = mkS k a ++ mkS (k + (J1 a : Int)) b
  | k, [], b => by simp [mkS, J1]
  | k, xs :: r, b => by
    rw [List.cons_append]
    show J6 k xs.length :: mkS _ (r ++ b) = _
    rw [J3z _ r b]
    show _ = J6 k xs.length :: (_ ++ _)
    congr 3
    simp only [J1, List.map_cons, List.sum_cons]
    omega
theorem J3X (k : Int) (xss : ZR) : J0m k xss 0 = xss := by simp [J0m, mkS]
theorem J46 (k : Int) (xss : ZR) : J0m k xss xss.length = mkS k xss := by simp [J0m]
theorem J2W (k : Int) (xss : ZR) (g : Nat) (h : g ≤ xss.length) : (J0m k xss g).length = xss.length := by simp [J0m, J02]; omega
theorem J47 (k : Int) (xss : ZR) (g : Nat) (h : g < xss.length) : (J0m k xss g).getD g [] = xss.getD g [] := by
  have : (mkS k (xss.take g)).length = g := by rw [J02]; simp; omega
  simp [J0m, List.getElem?_append, this]
theorem J3W (k : Int) (xss : ZR) (g : Nat) (h : g < xss.length) : (J0m k xss g).set g (J6 (k + (J1 (xss.take g) : Int)) (xss.getD g []).length) = J0m k xss (g + 1) := by
  have e1 : (mkS k (xss.take g)).length = g := by rw [J02]; simp; omega
  have e2 : xss.drop g = xss.getD g [] :: xss.drop (g + 1) := by simp [h]
  have e3 : xss.take (g + 1) = xss.take g ++ [xss.getD g []] := by simp [h]
  unfold J0m
  rw [e3, J3z, e2, List.set_append_right _ _ (by omega), e1, Nat.sub_self, List.append_assoc]
  rfl
theorem J0t (xss : ZR) (g : Nat) (h : g < xss.length) : J1 (xss.take (g + 1)) = J1 (xss.take g) + (xss.getD g []).length := by
  have e3 : xss.take (g + 1) = xss.take g ++ [xss.getD g []] := by simp [h]
  rw [e3]; simp [J1]
theorem J0W (xss : ZR) (g : Nat) : J1 (xss.take g) ≤ J1 xss := by
  have : xss = xss.take g ++ xss.drop g := (List.take_append_drop g xss).symm
  have h2 : J1 xss = J1 (xss.take g) + J1 (xss.drop g) := by
    conv => lhs; rw [this]
    simp only [J1, List.map_append, List.sum_append]
  omega
theorem MatOk.mark {w w' : World} {p : Nm} {e eo : TypeId} {xss : ZR} (h : MatOk w p e eo xss none) {i : Nat} (hi : i < xss.length) {ys : ZI} (hl : ys.length = (xss.getD i []).length)
    (hb : ∀ b, b < w.heap.size → ¬ (b = (p.rows i).1 ∧ 0 < (p.rows i).2) → w'.heap[b]? = w.heap[b]?) {cur' : Array Value} (hc : 0 < (p.rows i).2 → w'.heap[(p.rows i).1]? = some (.cells cur' e (0, 0)))
    (hs : cur'.size = (p.rows i).2) (hv : ∀ j, j < ys.length → cur'[j]? = some (.int .i64 (ys.getD j 0))) : MatOk w' p e eo (xss.set i ys) none := by
  have g1 : ∀ j, ((xss.set i ys).getD j []).length = (xss.getD j []).length := fun j => by
    by_cases hj : j = i
    · subst hj; simp [hi] at hl ⊢; exact hl
    simp [List.getElem?_set_ne (Ne.symm hj)]
  refine ⟨h.cap, by rw [List.length_set]; exact h.len, ?_, fun j hj hh => ?_, fun a b ha hb => h.apart a b (by simpa using ha) (by simpa using hb), fun a ha => h.outer a (by simpa using ha)⟩
  · obtain ⟨cur, h1, h2, h3⟩ := h.out
    refine ⟨cur, fun hp => ?_, h2, fun j hj hh => ?_⟩
    · rw [hb _ (Array.getElem?_eq_some_iff.1 (h1 hp)).1 (fun hq => h.outer i hi (by simp) hq.2 hp hq.1.symm)]; exact h1 hp
    rw [g1]; exact h3 j (by simpa using hj) hh
  have hj' : j < xss.length := by simpa using hj
  obtain ⟨a1, a2, cur, a3, a4, a5⟩ := h.inn j hj' hh
  by_cases hji : j = i
  · subst hji
    refine ⟨a1, by rw [g1]; exact a2, cur', hc, hs, fun c hcl => ?_⟩
    have e : (xss.set j ys).getD j [] = ys := by simp [hi]
    rw [e] at hcl ⊢
    exact hv c hcl
  have e : (xss.set i ys).getD j [] = xss.getD j [] := by simp [List.getElem?_set_ne (Ne.symm hji)]
  rw [e]
  refine ⟨a1, a2, cur, fun hp => ?_, a4, a5⟩
  rw [hb _ (Array.getElem?_eq_some_iff.1 (a3 hp)).1 (fun hq => hji (h.apart j i hj' hi (by simp) (by simp) hp hq.2 hq.1))]; exact a3 hp
/-- Only blocks in B are written over. -/
structure KeptOut (B : Nat → Prop) (w w' : World) : Prop where
  os : w'.os = w.os
  tape : w'.tape = w.tape
  output : w'.output = w.output
  size : w.heap.size ≤ w'.heap.size
  drawn : w.drawn ≤ w'.drawn
  out : ∀ b, b < w.heap.size → ¬ B b → w'.heap[b]? = w.heap[b]?
theorem KeptOut.refl (B : Nat → Prop) (w : World) : KeptOut B w w := ⟨rfl, rfl, rfl, Nat.le_refl _, Nat.le_refl _, fun _ _ _ => rfl⟩
theorem KeptOut.trans {B : Nat → Prop} {w w' w'' : World} (h : KeptOut B w w') (k : KeptOut B w' w'') : KeptOut B w w'' :=
  ⟨k.os.trans h.os, k.tape.trans h.tape, k.output.trans h.output, Nat.le_trans h.size k.size, Nat.le_trans h.drawn k.drawn, fun b hb hn => (k.out b (Nat.lt_of_lt_of_le hb h.size) hn).trans (h.out b hb hn)⟩
theorem KeptOut.mono {B C : Nat → Prop} {w w' : World} (h : KeptOut B w w') (hc : ∀ b, B b → C b) : KeptOut C w w' := ⟨h.os, h.tape, h.output, h.size, h.drawn, fun b hb hn => h.out b hb fun hB => hn (hc b hB)⟩
/-- One round's call: the row's J6. -/
theorem J44 {w : World} {p : Nm} {e eo : TypeId} {xss : ZR} (h : MatOk w p e eo xss none) {i : Nat} (hi : i < xss.length) {P : Program} {f : FuncId} {ys : ZI} {k r : Int} (hl : ys.length = (xss.getD i []).length)
    (hpw : PW P f e (xss.getD i []) ys k r) : ∃ v, w.cell? ⟨p.1, i, none⟩ = some v ∧ Calls P f #[v, .int .i64 k] w fun en w' => en = .returned (.int .i64 r) ∧ KeptOut (blk (.mat e eo xss none) p) w w' ∧ MatOk w' p e eo (xss.set i ys) none := by
  obtain ⟨cur, h1, h2, h3⟩ := h.out
  obtain ⟨v, hv, hv2⟩ := h3 i hi (by simp)
  obtain ⟨a1, a2, c1, a3, a4, a5⟩ := h.inn i hi (by simp)
  have hpos : 0 < p.2 := Nat.lt_of_lt_of_le (Nat.lt_of_le_of_lt (Nat.zero_le _) hi) h.len
  refine ⟨v, by rw [cell_of_row w _ _ _ _ _ (h1 hpos)]; exact hv, ?_⟩
  refine (hpw.2 w v (p.rows i).1 (p.rows i).2 c1 hv2 a3 a1 a4 a2 (fun j hj => a5 j hj)).mono fun en w' he => ?_
  obtain ⟨rfl, b1, b2, b3, b4, b5, b6, cur', b7, b8, b9⟩ := he
  exact ⟨rfl, ⟨b1, b2, b3, b4, b5, fun b hb hn => b6 b hb fun hq => hn (.inr ⟨i, hi, by simp, hq.1, hq.2⟩)⟩, h.mark hi hl b6 b7 b8 b9⟩
theorem J1L {p : Nm} {n : Nat} {v : Value} (h : OwnV p n v) : ∃ ad cap, v = .slice ad n cap ∧ (0 < n → ad = some ⟨p.1, 0, none⟩) := by
  rcases h with rfl | ⟨rfl, h0, _⟩
  · exact ⟨_, _, rfl, fun _ => rfl⟩
  exact ⟨_, _, by rw [h0], fun h => by omega⟩
theorem J11 (xss : ZR) (k : Int) (hk : 0 ≤ k) (hn : k + (J1 xss : Int) ≤ 9223372036854775807) : PWM Try.prog 49 3 26 xss (mkS k xss) k (k + (J1 xss : Int)) := by
  refine ⟨Try.call49, fun w v p hv hm => ?_⟩
  obtain ⟨ad, cap, rfl, had⟩ := J1L hv
  have hlen : (xss.length : Int) ≤ 9223372036854775807 := by
    have h1 := hm.cap
    have h2 := hm.len
    unfold maxLen at h1
    omega
  go_enter Try.func49, Try.ntmps49
  go_wp2
  go_loopw [1, 5] (fun u i wr => ∃ g : Nat, g ≤ xss.length ∧ i = .int .i64 g ∧ u = .int .i64 (k + (J1 (xss.take g) : Int)) ∧ KeptOut (blk (.mat 3 26 xss none) p) w wr ∧ MatOk wr p 3 26 (J0m k xss g) none) (fun _ i _ => xss.length - (Go.RowKit.intOf i).toNat)
  case atStart => exact ⟨0, Nat.zero_le _, rfl, by simp [J1], KeptOut.refl _ _, by rw [J3X]; exact hm⟩
  case round =>
    obtain ⟨g, hg, rfl, rfl, hko, hmat⟩ := hrel
    by_cases hlt : g < xss.length
    · obtain rfl := had (by omega)
      have hmt := J47 k xss g hlt
      have hsl := J0W xss (g + 1)
      have hst := J0t xss g hlt
      have hgl : g < (J0m k xss g).length := by rw [J2W k xss g hg]; exact hlt
      obtain ⟨v, hcell, hcall⟩ := J44 hmat hgl (f := 48) (P := Try.prog) (ys := J6 (k + (J1 (xss.take g) : Int)) (xss.getD g []).length) (k := k + (J1 (xss.take g) : Int)) (r := k + (J1 (xss.take g) : Int) + ((xss.getD g []).length : Int)) (by rw [hmt, J4]) (by rw [hmt]; exact J0v _ _ (by omega) (by omega))
      rw [J3W k xss g hlt] at hcall
      clear hmt hgl hmat
      have A : Go.RowKit.Hid (J1 (xss.take (g + 1)) = J1 (xss.take g) + (xss.getD g []).length) := hst
      clear hst
      go_wp2_with (go_at_call 48; refine hcall.mono ?_; rintro e w' ⟨rfl, hko2, hmat2⟩)
      go_roundw
      case rel => exact ⟨g + 1, by omega, by go_num, by rw [A.out, show (xss.getD g []).length = xss[g].length by simp [hlt]]; go_num, hko.trans (hko2.mono fun b hb => by simp only [blk, J2W k xss g hg] at hb ⊢; exact hb), hmat2⟩
      case measure => simp [Go.RowKit.intOf]; omega
    have hge : g = xss.length := by omega
    subst hge
    go_wp2
    go_ret
    rw [J46] at hmat
    exact ⟨by rw [List.take_length]; rfl, hko.os, hko.tape, hko.output, hko.size, hko.drawn, hko.out, hmat⟩
theorem J3C : ∀ (k : Int) (xss : ZR) (i : Nat), i < xss.length → (mkS k xss).getD i [] = J6 (k + (J1 (xss.take i) : Int)) (xss.getD i []).length
  | k, [], i, h => by simp at h
  | k, xs :: r, 0, _ => by simp [mkS, J1]
  | k, xs :: r, i + 1, h => by
    have := J3C (k + (xs.length : Int)) r i (by simpa using h)
    show (J6 k xs.length :: mkS _ r).getD (i + 1) [] = _
    rw [List.getD_cons_succ, this]
    simp only [List.take_succ_cons, J1, List.map_cons, List.sum_cons, List.getD_cons_succ]
    congr 1
    omega
theorem J2c : ∀ (k : Int) (xss : ZR), (mkS k xss).map List.length = xss.map List.length
  | _, [] => rfl
  | k, xs :: r => by simp [mkS, J2c _ r, J4]
theorem Je (k : Int) (xss : ZR) : J1 (mkS k xss) = J1 xss := by unfold J1; rw [J2c]
theorem J3b : ∀ (k : Int) (xss yss : ZR), xss.map List.length = yss.map List.length → mkS k xss = mkS k yss
  | _, [], [], _ => rfl
  | k, x :: r, y :: s, h => by
    simp only [List.map_cons, List.cons.injEq] at h
    show J6 k x.length :: _ = J6 k y.length :: _
    rw [h.1, J3b _ r s h.2]
theorem J2V (k : Int) (xss : ZR) : mkS k (mkS k xss) = mkS k xss := J3b k _ _ (J2c k xss)
abbrev JB (xss : ZR) (k : Int) (k2 : Int) (i : Int) : Prop := (0 ≤ i) ∧ (i ≤ (xss.length : Int)) ∧ (k2 = k + (J1 (xss.take i.toNat) : Int))
abbrev Jq (xss : ZR) (k : Int) (k2 : Int) (i : Int) : Nat := (xss.length - i).toNat
def J2J (f : FuncId) (ds : List D) : Orc := bif Nat.beq f 121 then J0R ds else .no
def J2B (xss : ZR) (k : Int) : Ann := .two (.none) (.two (.two (.none) (.loop (cut2 (fun (k2 : Int) (i : Int) => JB xss k k2 i) (fun (k2 : Int) (i : Int) => [(0, .d false (.sl (.rows xss))), (1, .d true (.int .i64 k2)), (5, .d true (.int .i64 i))]) (fun (k2 : Int) (i : Int) => [])) (fun g => Jq xss k g.1 g.2) (fun _ => .none))) (.none))
def J12 (xss : ZR) (k : Int) : Prop :=
  ((∃ k2' : Int, ∃ i' : Int, (JB xss k k2' i') ∧ (xss = xss) ∧ (k = k2') ∧ ((0 : Int) = i')) ∧ (∀ k2 : Int, ∀ i : Int, (JB xss k k2 i) → (((decide (i < (xss.length : Int))) = true → ((0 : Int) ≤ i) ∧ ((i : Int) < xss.length) ∧ (i.toNat < xss.length) ∧ (PC Try.prog 121 [.sl (.ints (xss.getD i.toNat [])), .int .i64 k2] (.one (.d (.int .i64 (k2 + ((xss.getD i.toNat []).length : Int)))))) ∧ (((decide ((k2 + ((xss.getD i.toNat []).length : Int)) < 0)) = true → ((((-1) : Int) = (k + (J1 xss : Int))))) ∧ ((decide ((k2 + ((xss.getD i.toNat []).length : Int)) < 0)) = false → (I6 (i + 1)) ∧ (∃ k2' : Int, ∃ i' : Int, (JB xss k k2' i') ∧ (Jq xss k k2' i' < Jq xss k k2 i) ∧ (xss = xss) ∧ ((k2 + ((xss.getD i.toNat []).length : Int)) = k2') ∧ ((i + 1) = i'))))) ∧ ((decide (i < (xss.length : Int))) = false → ((k2 = (k + (J1 xss : Int))))))))
theorem J28 (xss : ZR) (k : Int) (hk : 0 ≤ k) (hx : xss = mkS k xss) (hn : k + (J1 xss : Int) ≤ 9223372036854775807) (w_xss : (xss.length : Int) ≤ 9223372036854775807) (v_xss : ∀ x9 ∈ xss, (x9.length : Int) ≤ 9223372036854775807) : J12 xss k := by
  unfold J12
  refine ⟨?_, ?_⟩
  ·refine ⟨k, 0, ?_⟩
   refine ⟨?_, rfl, rfl, rfl⟩
   ·refine ⟨?_, ?_, ?_⟩
    ·first | omega | rfl | (intro hg; simp only [nrmT] at hg; omega) | (intro g1 g2; simp [g1, g2]; done) | (intro g1; simp at g1 ⊢; simp [g1]; done) | (simp only [nrmT] at *; omega) | (simp at * <;> omega) | (simp_all <;> omega) | (simp_all; done)
    ·first | omega | rfl | (intro hg; simp only [nrmT] at hg; omega) | (intro g1 g2; simp [g1, g2]; done) | (intro g1; simp at g1 ⊢; simp [g1]; done) | (simp only [nrmT] at *; omega) | (simp at * <;> omega) | (simp_all <;> omega) | (simp_all; done)
    ·simp [J1]
  intro k2 i hJ
  obtain ⟨h1, h2, h3⟩ := hJ
  refine ⟨?_, ?_⟩
  ·intro b1
   try simp only [nrmT] at b1
   refine ⟨?_, ?_, ?_, ?_, ?_, ?_⟩
   ·first | omega | rfl | (intro hg; simp only [nrmT] at hg; omega) | (intro g1 g2; simp [g1, g2]; done) | (intro g1; simp at g1 ⊢; simp [g1]; done) | (simp only [nrmT] at *; omega) | (simp at * <;> omega) | (simp_all <;> omega) | (simp_all; done)
   ·first | omega | rfl | (intro hg; simp only [nrmT] at hg; omega) | (intro g1 g2; simp [g1, g2]; done) | (intro g1; simp at g1 ⊢; simp [g1]; done) | (simp only [nrmT] at *; omega) | (simp at * <;> omega) | (simp_all <;> omega) | (simp_all; done)
   ·first | omega | rfl | (intro hg; simp only [nrmT] at hg; omega) | (intro g1 g2; simp [g1, g2]; done) | (intro g1; simp at g1 ⊢; simp [g1]; done) | (simp only [nrmT] at *; omega) | (simp at * <;> omega) | (simp_all <;> omega) | (simp_all; done)
   ·refine J13 (xss.getD i.toNat []) k2 ?_ ?_ ?_
    ·first | omega | rfl | (intro hg; simp only [nrmT] at hg; omega) | (intro g1 g2; simp [g1, g2]; done) | (intro g1; simp at g1 ⊢; simp [g1]; done) | (simp only [nrmT] at *; omega) | (simp at * <;> omega) | (simp_all <;> omega) | (simp_all; done)
    ·have h9 := J0W xss (i.toNat + 1)
     have h8 := J0t xss i.toNat (by omega)
     have h7 := J3C k xss i.toNat (by omega)
     rw [← hx] at h7
     rw [h3]
     exact h7
    ·have h9 := J0W xss (i.toNat + 1)
     have h8 := J0t xss i.toNat (by omega)
     omega
   ·intro b2
    try simp only [nrmT] at b2
    have h9 := J0W xss (i.toNat + 1)
    have h8 := J0t xss i.toNat (by omega)
    exfalso
    omega
   intro b3
   try simp only [nrmT] at b3
   refine ⟨?_, ?_⟩
   ·first | omega | rfl | (intro hg; simp only [nrmT] at hg; omega) | (intro g1 g2; simp [g1, g2]; done) | (intro g1; simp at g1 ⊢; simp [g1]; done) | (simp only [nrmT] at *; omega) | (simp at * <;> omega) | (simp_all <;> omega) | (simp_all; done)
   refine ⟨(k2 + ((xss.getD i.toNat []).length : Int)), (i + 1), ?_⟩
   refine ⟨?_, ?_, rfl, rfl, rfl⟩
   ·refine ⟨?_, ?_, ?_⟩
    ·first | omega | rfl | (intro hg; simp only [nrmT] at hg; omega) | (intro g1 g2; simp [g1, g2]; done) | (intro g1; simp at g1 ⊢; simp [g1]; done) | (simp only [nrmT] at *; omega) | (simp at * <;> omega) | (simp_all <;> omega) | (simp_all; done)
    ·first | omega | rfl | (intro hg; simp only [nrmT] at hg; omega) | (intro g1 g2; simp [g1, g2]; done) | (intro g1; simp at g1 ⊢; simp [g1]; done) | (simp only [nrmT] at *; omega) | (simp at * <;> omega) | (simp_all <;> omega) | (simp_all; done)
    ·have h9 := J0W xss (i.toNat + 1)
     have h8 := J0t xss i.toNat (by omega)
     rw [show (i + 1).toNat = i.toNat + 1 by omega]
     omega
   first | (show _ < _; omega) | (simp only [Jq]; omega) | (simp only [Jq] at *; simp at *; omega)
  intro b4
  try simp only [nrmT] at b4
  rw [h3, show i.toNat = xss.length by omega, List.take_length]
theorem J2e (xss : ZR) (k : Int) (hk : 0 ≤ k) (hx : xss = mkS k xss) (hn : k + (J1 xss : Int) ≤ 9223372036854775807) : PC Try.prog 50 [.sl (.rows xss), .int .i64 k] (.one (.d (.int .i64 (k + (J1 xss : Int))))) :=
  pc_wf @Try.call50 fun hw => pc_by (by kernel_rfl) Try.func50 @Try.call50 (by kernel_rfl) J2J (J2B xss k) (by kernel_rfl) (J28 xss k hk hx hn hw.1.1 hw.1.2) (by kernel_rfl)
def J1Z : List D → Orc := orcN [some .rows, none] fun ds => match ds with
  | [.sl (.rows xss), .int .i64 k] => some (.one (.d (.int .i64 (k + (J1 xss : Int)))))
  | _ => none
theorem J24 {m : Nat} : ∀ {xss : ZR}, (∀ r ∈ xss, r.length ≤ m) → J1 xss ≤ xss.length * m
  | [], _ => Nat.zero_le _
  | x :: r, h => by
    have h1 := J24 (xss := r) fun y hy => h y (List.mem_cons_of_mem _ hy)
    have h2 := h x List.mem_cons_self
    have e : J1 (x :: r) = x.length + J1 r := by simp [J1]
    rw [e, List.length_cons, Nat.add_mul, Nat.one_mul]
    omega
theorem J1t (w : World) (ob : Obj) : (w.alloc ob).heap.size = w.heap.size + 1 := Array.size_push _
theorem J3d (w : World) (ob : Obj) {b : Nat} (hb : b < w.heap.size) : (w.alloc ob).heap[b]? = w.heap[b]? := by
  show (w.heap.push ob)[b]? = _
  rw [Array.getElem?_push, if_neg (Nat.ne_of_lt hb)]
theorem J4d (w : World) (ob : Obj) : (w.alloc ob).heap[w.heap.size]? = some ob := by
  show (w.heap.push ob)[w.heap.size]? = _
  rw [Array.getElem?_push, if_pos rfl]
theorem MatOk.alloc {w : World} {p : Nm} {e eo : TypeId} {xss : ZR} (h : MatOk w p e eo xss none) (ob : Obj) : MatOk (w.alloc ob) p e eo xss none :=
  h.step fun b _ hlt => J3d w ob hlt
theorem MatOk.lt {w : World} {p : Nm} {e eo : TypeId} {xss : ZR} (h : MatOk w p e eo xss none) (b : Nat) (hb : blk (.mat e eo xss none) p b) : b < w.heap.size := by
  rcases hb with ⟨rfl, hp⟩ | ⟨i, hi, hh, rfl, hp⟩
  · obtain ⟨cur, h1, _⟩ := h.out
    exact (Array.getElem?_eq_some_iff.1 (h1 hp)).1
  obtain ⟨_, _, cur, h1, _⟩ := h.inn i hi hh
  exact (Array.getElem?_eq_some_iff.1 (h1 hp)).1
theorem J4c {w w1 : World} {p1 p2 : Nm} {e eo ei : TypeId} {xss : ZR} {ob : Obj} {cur : Array Value} (hm : MatOk w p1 e eo xss none) (hdis : ∀ b, blk (.mat e eo xss none) p1 b → ¬ (b = p2.1 ∧ 0 < p2.2))
    (hc2 : 0 < p2.2 → w.heap[p2.1]? = some (.cells cur ei (0, 0))) (b6 : ∀ b, b < (w.alloc ob).heap.size → ¬ blk (.mat e eo xss none) p1 b → w1.heap[b]? = (w.alloc ob).heap[b]?) :
    w1.heap[w.heap.size]? = some ob ∧ (0 < p2.2 → w1.heap[p2.1]? = some (.cells cur ei (0, 0))) := by
  refine ⟨?_, fun hp => ?_⟩
  · rw [b6 _ (by rw [J1t]; omega) fun hb => Nat.lt_irrefl _ (hm.lt _ hb)]
    exact J4d w ob
  have hlt := (Array.getElem?_eq_some_iff.1 (hc2 hp)).1
  rw [b6 _ (by rw [J1t]; omega) fun hb => hdis _ hb ⟨rfl, hp⟩, J3d w ob hlt]
  exact hc2 hp
theorem J0V (n0 : Int) (xss : ZR) (xs : ZI) (k : Int) (hk : 0 ≤ k) (hn : k + (J1 xss : Int) + (xs.length : Int) ≤ 9223372036854775807) : PWS Try.prog 28 3 26 3 n0 xss (mkS k xss) xs (J6 (k + (J1 xss : Int)) xs.length) k (k + (J1 xss : Int) + (xs.length : Int)) := by
  refine ⟨Try.call28, fun w v1 v2 p1 p2 cur hv1 hm hv2 hc2 hcap hsz hle hcont hdis => ?_⟩
  have hpm := J11 xss k hk (by omega)
  have hpw := J0v xs (k + (J1 xss : Int)) (by omega) (by omega)
  obtain ⟨ad1, cap1, rfl, had1⟩ := J1L hv1
  obtain ⟨ad2, cap2, rfl, had2⟩ := J1L hv2
  have hc1 := hpm.2 (w.alloc (.cells #[.int .i64 n0, .slice ad1 xss.length cap1, .slice ad2 xs.length cap2] 36)) _ p1 hv1 (hm.alloc _)
  clear hpm
  go_enter Try.func28, Try.ntmps28
  go_wp2_with (first | (go_at_call 49; refine hc1.mono ?_; rintro e w1 ⟨rfl, b1, b2, b3, b4, b5, b6, b7⟩; obtain ⟨m1, m2⟩ := J4c hm hdis hc2 b6; have hcell : w1.cell? ⟨w.heap.size, 2, none⟩ = some (.slice ad2 xs.length cap2) := (by rw [cell_of_row w1 _ _ _ _ _ m1]; rfl); have hcc := hpw.2 w1 (.slice ad2 xs.length cap2) p2.1 p2.2 cur hv2 m2 hcap hsz hle hcont; have A : Go.RowKit.Hid (w1.os = w.os ∧ w1.tape = w.tape ∧ w1.output = w.output ∧ (w.alloc (.cells #[.int .i64 n0, .slice ad1 xss.length cap1, .slice ad2 xs.length cap2] 36)).heap.size ≤ w1.heap.size ∧ w.drawn ≤ w1.drawn) := ⟨b1, b2, b3, b4, b5⟩; clear b1 b2 b3 b4 b5 m1 m2 hpw) | (go_at_call 48; refine hcc.mono ?_; rintro e w2 ⟨rfl, c1, c2, c3, c4, c5, c6, cur', c7, c8, c9⟩))
  go_ret
  obtain ⟨a1, a2, a3, a4, a5⟩ := A.out
  have hs1 : w.heap.size < w1.heap.size := by rw [J1t] at a4; omega
  refine ⟨rfl, c1.trans a1, c2.trans a2, c3.trans a3, by omega, Nat.le_trans a5 c5, fun b hb hn1 hn2 => ?_, b7.step fun b hb hlt => c6 b hlt fun h2 => hdis b (by simp only [blk, J02] at hb ⊢; exact hb) h2, cur', c7, c8, c9⟩
  rw [c6 b (by omega) hn2, b6 b (by rw [J1t]; omega) hn1, J3d w _ hb]
def J2h (f : FuncId) (ds : List D) : Orc := bif Nat.beq f 50 then J1Z ds else bif Nat.beq f 121 then J0R ds else .no
def J27 (Size : Int) (Sets : ZR) (Costs : ZI) (k : Int) : Ann := .none
def J0S (Size : Int) (Sets : ZR) (Costs : ZI) (k : Int) : Prop :=
  (PC Try.prog 50 [.sl (.rows Sets), .int .i64 k] (.one (.d (.int .i64 (k + (J1 Sets : Int)))))) ∧ (((decide ((k + (J1 Sets : Int)) < 0)) = true → ((((-1) : Int) = (k + (J1 Sets : Int) + (Costs.length : Int))))) ∧ ((decide ((k + (J1 Sets : Int)) < 0)) = false → (PC Try.prog 121 [.sl (.ints Costs), .int .i64 (k + (J1 Sets : Int))] (.one (.d (.int .i64 ((k + (J1 Sets : Int)) + (Costs.length : Int)))))) ∧ (((decide (((k + (J1 Sets : Int)) + (Costs.length : Int)) < 0)) = true → ((((-1) : Int) = (k + (J1 Sets : Int) + (Costs.length : Int))))) ∧ ((decide (((k + (J1 Sets : Int)) + (Costs.length : Int)) < 0)) = false → ((((k + (J1 Sets : Int)) + (Costs.length : Int)) = (k + (J1 Sets : Int) + (Costs.length : Int))))))))
theorem J1U (Size : Int) (Sets : ZR) (Costs : ZI) (k : Int) (hk : 0 ≤ k) (hx : Sets = mkS k Sets) (hy : Costs = J6 (k + (J1 Sets : Int)) Costs.length) (hn : k + (J1 Sets : Int) + (Costs.length : Int) ≤ 9223372036854775807) (w_Sets : (Sets.length : Int) ≤ 9223372036854775807) (v_Sets : ∀ x9 ∈ Sets, (x9.length : Int) ≤ 9223372036854775807) (w_Costs : (Costs.length : Int) ≤ 9223372036854775807) : J0S Size Sets Costs k := by
  unfold J0S
  refine ⟨?_, ?_, ?_⟩
  ·refine J2e Sets k ?_ ?_ ?_
   ·first | omega | rfl | (intro hg; simp only [nrmT] at hg; omega) | (intro g1 g2; simp [g1, g2]; done) | (intro g1; simp at g1 ⊢; simp [g1]; done) | (simp only [nrmT] at *; omega) | (simp at * <;> omega) | (simp_all <;> omega) | (simp_all; done)
   ·exact hx
   ·first | omega | rfl | (intro hg; simp only [nrmT] at hg; omega) | (intro g1 g2; simp [g1, g2]; done) | (intro g1; simp at g1 ⊢; simp [g1]; done) | (simp only [nrmT] at *; omega) | (simp at * <;> omega) | (simp_all <;> omega) | (simp_all; done)
  ·intro b1
   try simp only [nrmT] at b1
   exfalso
   omega
  intro b2
  try simp only [nrmT] at b2
  refine ⟨?_, ?_, ?_⟩
  ·refine J13 Costs (k + (J1 Sets : Int)) ?_ ?_ ?_
   ·first | omega | rfl | (intro hg; simp only [nrmT] at hg; omega) | (intro g1 g2; simp [g1, g2]; done) | (intro g1; simp at g1 ⊢; simp [g1]; done) | (simp only [nrmT] at *; omega) | (simp at * <;> omega) | (simp_all <;> omega) | (simp_all; done)
   ·exact hy
   ·first | omega | rfl | (intro hg; simp only [nrmT] at hg; omega) | (intro g1 g2; simp [g1, g2]; done) | (intro g1; simp at g1 ⊢; simp [g1]; done) | (simp only [nrmT] at *; omega) | (simp at * <;> omega) | (simp_all <;> omega) | (simp_all; done)
  ·intro b3
   try simp only [nrmT] at b3
   exfalso
   omega
  intro b4
  try simp only [nrmT] at b4
  first | omega | rfl | (intro hg; simp only [nrmT] at hg; omega) | (intro g1 g2; simp [g1, g2]; done) | (intro g1; simp at g1 ⊢; simp [g1]; done) | (simp only [nrmT] at *; omega) | (simp at * <;> omega) | (simp_all <;> omega) | (simp_all; done)
theorem J0M (Size : Int) (Sets : ZR) (Costs : ZI) (k : Int) (hk : 0 ≤ k) (hx : Sets = mkS k Sets) (hy : Costs = J6 (k + (J1 Sets : Int)) Costs.length) (hn : k + (J1 Sets : Int) + (Costs.length : Int) ≤ 9223372036854775807) : PC Try.prog 29 [.agg [.int .i64 Size, .sl (.rows Sets), .sl (.ints Costs)], .int .i64 k] (.one (.d (.int .i64 (k + (J1 Sets : Int) + (Costs.length : Int))))) :=
  pc_wf @Try.call29 fun hw => pc_by (by kernel_rfl) Try.func29 @Try.call29 (by kernel_rfl) J2h (J27 Size Sets Costs k) (by kernel_rfl) (J1U Size Sets Costs k hk hx hy hn hw.1.2.1.1 hw.1.2.1.2 hw.1.2.2.1) (by kernel_rfl)
def J1K : List D → Orc := orcN [none, none] fun ds => match ds with
  | [.agg [.int .i64 Size, .sl (.rows Sets), .sl (.ints Costs)], .int .i64 k] => some (.one (.d (.int .i64 (k + (J1 Sets : Int) + (Costs.length : Int)))))
  | _ => none
abbrev JE (Size : Int) (Sets : ZR) (Costs : ZI) (i : Int) (sz : Int) (rs : ZR) (cs : ZI) : Prop := (sz = (Sets.length : Int)) ∧ (0 ≤ i) ∧ (i ≤ Size) ∧ (rs = tabTo (J0G Sets) i.toNat) ∧ (cs = List.replicate i.toNat 1)
abbrev Ju (Size : Int) (Sets : ZR) (Costs : ZI) (i : Int) (sz : Int) (rs : ZR) (cs : ZI) : Nat := (Size - i).toNat
abbrev Jv (Size : Int) (Sets : ZR) (Costs : ZI) (i : Int) (sz : Int) (rs : ZR) (cs : ZI) (own : ZI) (k : Int) : Prop := (0 ≤ k) ∧ (k ≤ (Sets.length : Int)) ∧ (own = members (fun k => (Sets.getD k []).contains i) k.toNat)
abbrev Jf (Size : Int) (Sets : ZR) (Costs : ZI) (i : Int) (sz : Int) (rs : ZR) (cs : ZI) (own : ZI) (k : Int) : Nat := (Sets.length - k).toNat
abbrev JK (Size : Int) (Sets : ZR) (Costs : ZI) (i : Int) (sz : Int) (rs : ZR) (cs : ZI) (row : ZI) : Prop := (row = J0G Sets i.toNat)
def J33 (f : FuncId) (ds : List D) : Orc := bif Nat.beq f 182 then J3i ds else .no
def J2Y (Size : Int) (Sets : ZR) (Costs : ZI) : Ann := .two (.none) (.two (.none) (.two (.two (.none) (.loop (cut4 (fun (i : Int) (sz : Int) (rs : ZR) (cs : ZI) => JE Size Sets Costs i sz rs cs) (fun (i : Int) (sz : Int) (rs : ZR) (cs : ZI) => [(1, .ptr 1 0), (2, .ptr 2 0), (3, .ptr 3 0), (4, .d true (.int .i64 i))]) (fun (i : Int) (sz : Int) (rs : ZR) (cs : ZI) => [(1, .box 36 [.d false (.int .i64 Size), .d false (.sl (.rows Sets)), .d false (.sl (.ints Costs))]), (2, .box 36 [.d true (.int .i64 0), .d true (.nil), .d true (.nil)]), (1000002, .arr true 26 (.rows rs)), (1000003, .arr true 3 (.ints cs)), (3, .box 36 [.d true (.int .i64 sz), .own 1000002 rs.length, .own 1000003 cs.length])])) (fun g => Ju Size Sets Costs g.1 g.2.1 g.2.2.1 g.2.2.2) (fun g => (fun (i : Int) (sz : Int) (rs : ZR) (cs : ZI) => .two (.none) (.two (.two (.none) (.cut (.two (.none) (.loop (cut2 (fun (own : ZI) (k : Int) => Jv Size Sets Costs i sz rs cs own k) (fun (own : ZI) (k : Int) => [(1, .ptr 1 0), (2, .ptr 2 0), (3, .ptr 3 0), (4, .d true (.int .i64 i)), (5, .own 1000100 own.length), (6, .d true (.int .i64 k))]) (fun (own : ZI) (k : Int) => [(1000100, .arr true 3 (.ints own)), (1, .box 36 [.d false (.int .i64 Size), .d false (.sl (.rows Sets)), .d false (.sl (.ints Costs))]), (2, .box 36 [.d true (.int .i64 0), .d true (.nil), .d true (.nil)]), (3, .box 36 [.d true (.int .i64 sz), .own 1000002 rs.length, .own 1000003 cs.length]), (1000002, .arr true 26 (.rows rs)), (1000003, .arr true 3 (.ints cs))])) (fun g => Jf Size Sets Costs i sz rs cs g.1 g.2) (fun _ => .none))) (cut1 (fun (row : ZI) => JK Size Sets Costs i sz rs cs row) (fun (row : ZI) => [(1, .ptr 1 0), (2, .ptr 2 0), (3, .ptr 3 0), (4, .d true (.int .i64 i)), (5, .d true (.sl (.ints row)))]) (fun (row : ZI) => [(1, .box 36 [.d false (.int .i64 Size), .d false (.sl (.rows Sets)), .d false (.sl (.ints Costs))]), (2, .box 36 [.d true (.int .i64 0), .d true (.nil), .d true (.nil)]), (3, .box 36 [.d true (.int .i64 sz), .own 1000002 rs.length, .own 1000003 cs.length]), (1000002, .arr true 26 (.rows rs)), (1000003, .arr true 3 (.ints cs))])) (fun _ => .none))) (.none))) (g.1) (g.2.1) (g.2.2.1) (g.2.2.2)))) (.none)))
def J1q (Size : Int) (Sets : ZR) (Costs : ZI) : Prop :=
  ((∃ i' : Int, ∃ sz' : Int, ∃ rs' : ZR, ∃ cs' : ZI, (JE Size Sets Costs i' sz' rs' cs') ∧ ((0 : Int) = i') ∧ (Size = Size) ∧ (Sets = Sets) ∧ (Costs = Costs) ∧ ((0 : Int) = 0) ∧ ([] = rs') ∧ ([] = cs') ∧ ((Sets.length : Int) = sz') ∧ ((0 : Nat) = rs'.length) ∧ ((0 : Nat) = cs'.length)) ∧ (∀ i : Int, ∀ sz : Int, ∀ rs : ZR, ∀ cs : ZI, (JE Size Sets Costs i sz rs cs) → (((decide (i < Size)) = true → ((((∃ own' : ZI, ∃ k' : Int, (Jv Size Sets Costs i sz rs cs own' k') ∧ (i = i) ∧ ((0 : Nat) = own'.length) ∧ ((0 : Int) = k') ∧ ([] = own') ∧ (Size = Size) ∧ (Sets = Sets) ∧ (Costs = Costs) ∧ ((0 : Int) = 0) ∧ (sz = sz) ∧ (rs.length = rs.length) ∧ (cs.length = cs.length) ∧ (rs = rs) ∧ (cs = cs)) ∧ (∀ own : ZI, ∀ k : Int, (Jv Size Sets Costs i sz rs cs own k) → (((decide (k < (Sets.length : Int))) = true → ((0 : Int) ≤ k) ∧ ((k : Int) < Sets.length) ∧ (k.toNat < Sets.length) ∧ (PC Try.prog 182 [.sl (.ints (Sets.getD k.toNat [])), .int .i64 i] (.one (.d (.bool ((Sets.getD k.toNat []).contains i))))) ∧ ((((Sets.getD k.toNat []).contains i) = true → (own.length = own.length) ∧ ((1 : Nat) = 1) ∧ ((own.length + 1) * 8 ≤ 140737488355328) ∧ (I6 (k + 1)) ∧ (∃ own' : ZI, ∃ k' : Int, (Jv Size Sets Costs i sz rs cs own' k') ∧ (Jf Size Sets Costs i sz rs cs own' k' < Jf Size Sets Costs i sz rs cs own k) ∧ (i = i) ∧ ((own.length + 1) = own'.length) ∧ ((k + 1) = k') ∧ ((own ++ [k]) = own') ∧ (Size = Size) ∧ (Sets = Sets) ∧ (Costs = Costs) ∧ ((0 : Int) = 0) ∧ (sz = sz) ∧ (rs.length = rs.length) ∧ (cs.length = cs.length) ∧ (rs = rs) ∧ (cs = cs))) ∧ (((Sets.getD k.toNat []).contains i) = false → (I6 (k + 1)) ∧ (∃ own' : ZI, ∃ k' : Int, (Jv Size Sets Costs i sz rs cs own' k') ∧ (Jf Size Sets Costs i sz rs cs own' k' < Jf Size Sets Costs i sz rs cs own k) ∧ (i = i) ∧ (own.length = own'.length) ∧ ((k + 1) = k') ∧ (own = own') ∧ (Size = Size) ∧ (Sets = Sets) ∧ (Costs = Costs) ∧ ((0 : Int) = 0) ∧ (sz = sz) ∧ (rs.length = rs.length) ∧ (cs.length = cs.length) ∧ (rs = rs) ∧ (cs = cs))))) ∧ ((decide (k < (Sets.length : Int))) = false → (∃ row' : ZI, (JK Size Sets Costs i sz rs cs row') ∧ (i = i) ∧ (own.length = own.length) ∧ (own = row') ∧ (Size = Size) ∧ (Sets = Sets) ∧ (Costs = Costs) ∧ ((0 : Int) = 0) ∧ (sz = sz) ∧ (rs.length = rs.length) ∧ (cs.length = cs.length) ∧ (rs = rs) ∧ (cs = cs))))))) ∧ (∀ row : ZI, (JK Size Sets Costs i sz rs cs row) → (rs.length = rs.length) ∧ ((1 : Nat) = 1) ∧ ((rs.length + 1) * 24 ≤ 140737488355328) ∧ (cs.length = cs.length) ∧ ((1 : Nat) = 1) ∧ ((cs.length + 1) * 8 ≤ 140737488355328) ∧ (I6 (i + 1)) ∧ (∃ i' : Int, ∃ sz' : Int, ∃ rs' : ZR, ∃ cs' : ZI, (JE Size Sets Costs i' sz' rs' cs') ∧ (Ju Size Sets Costs i' sz' rs' cs' < Ju Size Sets Costs i sz rs cs) ∧ ((i + 1) = i') ∧ (Size = Size) ∧ (Sets = Sets) ∧ (Costs = Costs) ∧ ((0 : Int) = 0) ∧ ((rs ++ [row]) = rs') ∧ ((cs ++ [1]) = cs') ∧ (sz = sz') ∧ ((rs.length + 1) = rs'.length) ∧ ((cs.length + 1) = cs'.length))))) ∧ ((decide (i < Size)) = false → ((rs.length = rs.length) ∧ (cs.length = cs.length) ∧ ((.agg [.int .i64 sz, .sl (.rows rs), .sl (.ints cs)] : D) = .agg [.int .i64 (Sets.length : Int), .sl (.rows (Jp Sets Size.toNat)), .sl (.ints (List.replicate Size.toNat 1))]))))))
theorem J2w (Size : Int) (Sets : ZR) (Costs : ZI) (hg : J0 Size Sets Costs = true) (w_Sets : (Sets.length : Int) ≤ 9223372036854775807) (v_Sets : ∀ x9 ∈ Sets, (x9.length : Int) ≤ 9223372036854775807) (w_Costs : (Costs.length : Int) ≤ 9223372036854775807) : J1q Size Sets Costs := by
  unfold J1q
  have gf := J1M hg
  refine ⟨?_, ?_⟩
  ·refine ⟨0, (Sets.length : Int), ([]), ([]), ?_⟩
   refine ⟨?_, rfl, rfl, rfl, rfl, rfl, ?_, ?_, rfl, rfl, rfl⟩
   ·refine ⟨?_, ?_, ?_, ?_, ?_⟩
    ·rfl
    ·first | omega | rfl | (intro hg; simp only [nrmT] at hg; omega) | (intro g1 g2; simp [g1, g2]; done) | (intro g1; simp at g1 ⊢; simp [g1]; done) | (simp only [nrmT] at *; omega) | (simp at * <;> omega) | (simp_all <;> omega) | (simp_all; done)
    ·first | omega | rfl | (intro hg; simp only [nrmT] at hg; omega) | (intro g1 g2; simp [g1, g2]; done) | (intro g1; simp at g1 ⊢; simp [g1]; done) | (simp only [nrmT] at *; omega) | (simp at * <;> omega) | (simp_all <;> omega) | (simp_all; done)
    ·rfl
    ·rfl
   ·first | omega | rfl | (intro hg; simp only [nrmT] at hg; omega) | (intro g1 g2; simp [g1, g2]; done) | (intro g1; simp at g1 ⊢; simp [g1]; done) | (simp only [nrmT] at *; omega) | (simp at * <;> omega) | (simp_all <;> omega) | (simp_all; done)
   first | omega | rfl | (intro hg; simp only [nrmT] at hg; omega) | (intro g1 g2; simp [g1, g2]; done) | (intro g1; simp at g1 ⊢; simp [g1]; done) | (simp only [nrmT] at *; omega) | (simp at * <;> omega) | (simp_all <;> omega) | (simp_all; done)
  intro i sz rs cs hJ
  obtain ⟨h0, h1, h2, h3, h4⟩ := hJ
  refine ⟨?_, ?_⟩
  ·intro b1
   try simp only [nrmT] at b1
   refine ⟨?_, ?_⟩
   ·refine ⟨?_, ?_⟩
    ·refine ⟨([]), 0, ?_⟩
     refine ⟨?_, rfl, rfl, rfl, ?_, rfl, rfl, rfl, rfl, rfl, rfl, rfl, rfl, rfl⟩
     ·refine ⟨?_, ?_, ?_⟩
      ·first | omega | rfl | (intro hg; simp only [nrmT] at hg; omega) | (intro g1 g2; simp [g1, g2]; done) | (intro g1; simp at g1 ⊢; simp [g1]; done) | (simp only [nrmT] at *; omega) | (simp at * <;> omega) | (simp_all <;> omega) | (simp_all; done)
      ·first | omega | rfl | (intro hg; simp only [nrmT] at hg; omega) | (intro g1 g2; simp [g1, g2]; done) | (intro g1; simp at g1 ⊢; simp [g1]; done) | (simp only [nrmT] at *; omega) | (simp at * <;> omega) | (simp_all <;> omega) | (simp_all; done)
      ·rfl
     rfl
    ·intro own k hJ
     obtain ⟨h5, h6, h7⟩ := hJ
     refine ⟨?_, ?_⟩
     ·intro b2
      try simp only [nrmT] at b2
      refine ⟨?_, ?_, ?_, J3L (Sets.getD k.toNat []) i, ?_, ?_⟩
      ·first | omega | rfl | (intro hg; simp only [nrmT] at hg; omega) | (intro g1 g2; simp [g1, g2]; done) | (intro g1; simp at g1 ⊢; simp [g1]; done) | (simp only [nrmT] at *; omega) | (simp at * <;> omega) | (simp_all <;> omega) | (simp_all; done)
      ·first | omega | rfl | (intro hg; simp only [nrmT] at hg; omega) | (intro g1 g2; simp [g1, g2]; done) | (intro g1; simp at g1 ⊢; simp [g1]; done) | (simp only [nrmT] at *; omega) | (simp at * <;> omega) | (simp_all <;> omega) | (simp_all; done)
      ·first | omega | rfl | (intro hg; simp only [nrmT] at hg; omega) | (intro g1 g2; simp [g1, g2]; done) | (intro g1; simp at g1 ⊢; simp [g1]; done) | (simp only [nrmT] at *; omega) | (simp at * <;> omega) | (simp_all <;> omega) | (simp_all; done)
      ·intro b3
       try simp only [nrmT] at b3
       refine ⟨rfl, rfl, ?_, ?_, ?_⟩
       ·rw [h7]; have := members_len_le (fun k => (Sets.getD k []).contains i) k.toNat; omega
       ·first | omega | rfl | (intro hg; simp only [nrmT] at hg; omega) | (intro g1 g2; simp [g1, g2]; done) | (intro g1; simp at g1 ⊢; simp [g1]; done) | (simp only [nrmT] at *; omega) | (simp at * <;> omega) | (simp_all <;> omega) | (simp_all; done)
       refine ⟨(own ++ [k]), (k + 1), ?_⟩
       refine ⟨?_, ?_, rfl, ?_, rfl, rfl, rfl, rfl, rfl, rfl, rfl, rfl, rfl, rfl, rfl⟩
       ·refine ⟨?_, ?_, ?_⟩
        ·first | omega | rfl | (intro hg; simp only [nrmT] at hg; omega) | (intro g1 g2; simp [g1, g2]; done) | (intro g1; simp at g1 ⊢; simp [g1]; done) | (simp only [nrmT] at *; omega) | (simp at * <;> omega) | (simp_all <;> omega) | (simp_all; done)
        ·first | omega | rfl | (intro hg; simp only [nrmT] at hg; omega) | (intro g1 g2; simp [g1, g2]; done) | (intro g1; simp at g1 ⊢; simp [g1]; done) | (simp only [nrmT] at *; omega) | (simp at * <;> omega) | (simp_all <;> omega) | (simp_all; done)
        ·rw [h7, show (k + 1).toNat = k.toNat + 1 by omega, members_succ, if_pos b3, show ((k.toNat : Nat) : Int) = k by omega]
       ·first | (show _ < _; omega) | (simp only [Jf]; omega) | (simp only [Jf] at *; simp at *; omega)
       simp
      intro b4
      try simp only [nrmT] at b4
      refine ⟨?_, ?_⟩
      ·first | omega | rfl | (intro hg; simp only [nrmT] at hg; omega) | (intro g1 g2; simp [g1, g2]; done) | (intro g1; simp at g1 ⊢; simp [g1]; done) | (simp only [nrmT] at *; omega) | (simp at * <;> omega) | (simp_all <;> omega) | (simp_all; done)
      refine ⟨own, (k + 1), ?_⟩
      refine ⟨?_, ?_, rfl, rfl, rfl, rfl, rfl, rfl, rfl, rfl, rfl, rfl, rfl, rfl, rfl⟩
      ·refine ⟨?_, ?_, ?_⟩
       ·first | omega | rfl | (intro hg; simp only [nrmT] at hg; omega) | (intro g1 g2; simp [g1, g2]; done) | (intro g1; simp at g1 ⊢; simp [g1]; done) | (simp only [nrmT] at *; omega) | (simp at * <;> omega) | (simp_all <;> omega) | (simp_all; done)
       ·first | omega | rfl | (intro hg; simp only [nrmT] at hg; omega) | (intro g1 g2; simp [g1, g2]; done) | (intro g1; simp at g1 ⊢; simp [g1]; done) | (simp only [nrmT] at *; omega) | (simp at * <;> omega) | (simp_all <;> omega) | (simp_all; done)
       ·rw [h7, show (k + 1).toNat = k.toNat + 1 by omega, members_succ, if_neg (by rw [b4]; decide), List.append_nil]
      first | (show _ < _; omega) | (simp only [Jf]; omega) | (simp only [Jf] at *; simp at *; omega)
     intro b5
     try simp only [nrmT] at b5
     refine ⟨own, ?_⟩
     refine ⟨?_, rfl, rfl, rfl, rfl, rfl, rfl, rfl, rfl, rfl, rfl, rfl, rfl⟩
     ·unfold JK
      rw [h7]
      unfold J0G
      rw [show k.toNat = Sets.length by omega, show ((i.toNat : Nat) : Int) = i by omega]
   intro row hJ
   have h8 := hJ
   refine ⟨rfl, rfl, ?_, rfl, rfl, ?_, ?_, ?_⟩
   ·rw [h3, tabTo_len]; omega
   ·rw [h4, List.length_replicate]; omega
   ·first | omega | rfl | (intro hg; simp only [nrmT] at hg; omega) | (intro g1 g2; simp [g1, g2]; done) | (intro g1; simp at g1 ⊢; simp [g1]; done) | (simp only [nrmT] at *; omega) | (simp at * <;> omega) | (simp_all <;> omega) | (simp_all; done)
   refine ⟨(i + 1), sz, (rs ++ [row]), (cs ++ [1]), ?_⟩
   refine ⟨?_, ?_, rfl, rfl, rfl, rfl, rfl, rfl, rfl, rfl, ?_, ?_⟩
   ·refine ⟨?_, ?_, ?_, ?_, ?_⟩
    ·assumption
    ·first | omega | rfl | (intro hg; simp only [nrmT] at hg; omega) | (intro g1 g2; simp [g1, g2]; done) | (intro g1; simp at g1 ⊢; simp [g1]; done) | (simp only [nrmT] at *; omega) | (simp at * <;> omega) | (simp_all <;> omega) | (simp_all; done)
    ·first | omega | rfl | (intro hg; simp only [nrmT] at hg; omega) | (intro g1 g2; simp [g1, g2]; done) | (intro g1; simp at g1 ⊢; simp [g1]; done) | (simp only [nrmT] at *; omega) | (simp at * <;> omega) | (simp_all <;> omega) | (simp_all; done)
    ·rw [h3, h8, show (i + 1).toNat = i.toNat + 1 by omega, tabTo_succ]
    ·rw [h4, show (i + 1).toNat = i.toNat + 1 by omega, List.replicate_succ']
   ·first | (show _ < _; omega) | (simp only [Ju]; omega) | (simp only [Ju] at *; simp at *; omega)
   ·simp
   simp
  intro b6
  try simp only [nrmT] at b6
  refine ⟨rfl, rfl, ?_⟩
  ·rw [h0, h3, h4, show i.toNat = Size.toNat by omega]; rfl
theorem J2y (Size : Int) (Sets : ZR) (Costs : ZI) (hg : J0 Size Sets Costs = true) : PC Try.prog 123 [.agg [.int .i64 Size, .sl (.rows Sets), .sl (.ints Costs)]] (.one (.d (.agg [.int .i64 (Sets.length : Int), .sl (.rows (Jp Sets Size.toNat)), .sl (.ints (List.replicate Size.toNat 1))]))) :=
  pc_wf @Try.call123 fun hw => pc_by (by kernel_rfl) Try.func123 @Try.call123 (by kernel_rfl) J33 (J2Y Size Sets Costs) (by kernel_rfl) (J2w Size Sets Costs hg hw.1.2.1.1 hw.1.2.1.2 hw.1.2.2.1) (by kernel_rfl)
def J2b : List D → Orc := orcN [none] fun ds => match ds with
  | [.agg [.int .i64 Size, .sl (.rows Sets), .sl (.ints Costs)]] => some (.one (.d (.agg [.int .i64 (Sets.length : Int), .sl (.rows (Jp Sets Size.toNat)), .sl (.ints (List.replicate Size.toNat 1))])))
  | _ => none
def tsZ (Size : Int) (Sets : ZR) (Costs : ZI) : Int := if J0 Size Sets Costs = true then (Sets.length : Int) else 0
def tsR (Size : Int) (Sets : ZR) (Costs : ZI) : ZR := if J0 Size Sets Costs = true then Jp Sets Size.toNat else []
def tsC (Size : Int) (Sets : ZR) (Costs : ZI) : ZI := if J0 Size Sets Costs = true then List.replicate Size.toNat 1 else []
theorem J42 (Sets : ZR) (n : Nat) : (Jp Sets n).length = n := by unfold Jp; rw [tabTo_len]
def J29 (f : FuncId) (ds : List D) : Orc := bif Nat.beq f 122 then J2Q ds else bif Nat.beq f 123 then J2b ds else .no
def J2f (Size : Int) (Sets : ZR) (Costs : ZI) : Ann := .none
def J0T (Size : Int) (Sets : ZR) (Costs : ZI) : Prop :=
  (PC Try.prog 122 [.agg [.int .i64 Size, .sl (.rows Sets), .sl (.ints Costs)]] (.one (.d (.bool (J0 Size Sets Costs))))) ∧ (((!(J0 Size Sets Costs)) = true → (((0 : Int) = (tsZ Size Sets Costs)) ∧ ((tsR Size Sets Costs).length = 0) ∧ ((tsC Size Sets Costs).length = 0) ∧ (false = (J0 Size Sets Costs)))) ∧ ((!(J0 Size Sets Costs)) = false → (PC Try.prog 123 [.agg [.int .i64 Size, .sl (.rows Sets), .sl (.ints Costs)]] (.one (.d (.agg [.int .i64 (Sets.length : Int), .sl (.rows (Jp Sets Size.toNat)), .sl (.ints (List.replicate Size.toNat 1))])))) ∧ (((.agg [.int .i64 (Sets.length : Int), .sl (.rows (Jp Sets Size.toNat)), .sl (.ints (List.replicate Size.toNat 1))] : D) = .agg [.int .i64 (tsZ Size Sets Costs), .sl (.rows (tsR Size Sets Costs)), .sl (.ints (tsC Size Sets Costs))]) ∧ (true = (J0 Size Sets Costs)))))
theorem J21 (Size : Int) (Sets : ZR) (Costs : ZI)  (w_Sets : (Sets.length : Int) ≤ 9223372036854775807) (v_Sets : ∀ x9 ∈ Sets, (x9.length : Int) ≤ 9223372036854775807) (w_Costs : (Costs.length : Int) ≤ 9223372036854775807) : J0T Size Sets Costs := by
  unfold J0T
  refine ⟨J3p Size Sets Costs, ?_, ?_⟩
  ·intro b1
   try simp only [nrmT] at b1
   refine ⟨?_, ?_, ?_, ?_⟩
   ·have hq : J0 Size Sets Costs = false := by simpa using b1
    unfold tsZ; rw [hq]; rfl
   ·have hq : J0 Size Sets Costs = false := by simpa using b1
    unfold tsR; rw [hq]; rfl
   ·have hq : J0 Size Sets Costs = false := by simpa using b1
    unfold tsC; rw [hq]; rfl
   have hq : J0 Size Sets Costs = false := by simpa using b1
   exact hq.symm
  intro b2
  try simp only [nrmT] at b2
  refine ⟨?_, ?_, ?_⟩
  ·refine J2y Size Sets Costs ?_
   ·have hq : J0 Size Sets Costs = true := by simpa using b2
    exact hq
  ·have hq : J0 Size Sets Costs = true := by simpa using b2
   unfold tsZ tsR tsC; rw [if_pos hq, if_pos hq, if_pos hq]
  have hq : J0 Size Sets Costs = true := by simpa using b2
  exact hq.symm
theorem J23 (Size : Int) (Sets : ZR) (Costs : ZI)  : PC Try.prog 31 [.agg [.int .i64 Size, .sl (.rows Sets), .sl (.ints Costs)]] (.tup [.d (.agg [.int .i64 (tsZ Size Sets Costs), .sl (.rows (tsR Size Sets Costs)), .sl (.ints (tsC Size Sets Costs))]), .d (.bool (J0 Size Sets Costs))]) :=
  pc_wf @Try.call31 fun hw => pc_by (by kernel_rfl) Try.func31 @Try.call31 (by kernel_rfl) J29 (J2f Size Sets Costs) (by kernel_rfl) (J21 Size Sets Costs hw.1.2.1.1 hw.1.2.1.2 hw.1.2.2.1) (by kernel_rfl)
def J1I : List D → Orc := orcN [none] fun ds => match ds with
  | [.agg [.int .i64 Size, .sl (.rows Sets), .sl (.ints Costs)]] => some (.tup [.d (.agg [.int .i64 (tsZ Size Sets Costs), .sl (.rows (tsR Size Sets Costs)), .sl (.ints (tsC Size Sets Costs))]), .d (.bool (J0 Size Sets Costs))])
  | _ => none
abbrev Jl (Size : Int) (Sets : ZR) (Costs : ZI) (i : Int) (sz : Int) (rs : ZR) (cs : ZI) : Prop := (sz = (Sets.length : Int)) ∧ (0 ≤ i) ∧ (i ≤ Size) ∧ (rs = tabTo (J0G Sets) i.toNat) ∧ (cs = List.replicate i.toNat 1)
abbrev Jg (Size : Int) (Sets : ZR) (Costs : ZI) (i : Int) (sz : Int) (rs : ZR) (cs : ZI) : Nat := (Size - i).toNat
abbrev Jh (Size : Int) (Sets : ZR) (Costs : ZI) (i : Int) (sz : Int) (rs : ZR) (cs : ZI) (own : ZI) (k : Int) : Prop := (0 ≤ k) ∧ (k ≤ (Sets.length : Int)) ∧ (own = members (fun k => (Sets.getD k []).contains i) k.toNat)
abbrev J5 (Size : Int) (Sets : ZR) (Costs : ZI) (i : Int) (sz : Int) (rs : ZR) (cs : ZI) (own : ZI) (k : Int) : Nat := (Sets.length - k).toNat
abbrev Jk (Size : Int) (Sets : ZR) (Costs : ZI) (i : Int) (sz : Int) (rs : ZR) (cs : ZI) (row : ZI) : Prop := (row = J0G Sets i.toNat)
def J0X (f : FuncId) (ds : List D) : Orc := bif Nat.beq f 181 then J0n ds else .no
def J0Q (Size : Int) (Sets : ZR) (Costs : ZI) : Ann := .two (.none) (.two (.none) (.two (.two (.none) (.loop (cut4 (fun (i : Int) (sz : Int) (rs : ZR) (cs : ZI) => Jl Size Sets Costs i sz rs cs) (fun (i : Int) (sz : Int) (rs : ZR) (cs : ZI) => [(1, .ptr 1 0), (2, .ptr 2 0), (3, .ptr 3 0), (13, .d false (.int .i64 Size)), (14, .d true (.int .i64 i))]) (fun (i : Int) (sz : Int) (rs : ZR) (cs : ZI) => [(1, .box 36 [.d false (.int .i64 Size), .d false (.sl (.rows Sets)), .d false (.sl (.ints Costs))]), (2, .box 36 [.d true (.int .i64 0), .d true (.nil), .d true (.nil)]), (1000002, .mat 3 26 rs none), (1000003, .arr true 3 (.ints cs)), (3, .box 36 [.d true (.int .i64 sz), .own 1000002 rs.length, .own 1000003 cs.length])])) (fun g => Jg Size Sets Costs g.1 g.2.1 g.2.2.1 g.2.2.2) (fun g => (fun (i : Int) (sz : Int) (rs : ZR) (cs : ZI) => .two (.none) (.two (.none) (.two (.two (.none) (.two (.none) (.cut (.two (.none) (.loop (cut2 (fun (own : ZI) (k : Int) => Jh Size Sets Costs i sz rs cs own k) (fun (own : ZI) (k : Int) => [(1, .ptr 1 0), (2, .ptr 2 0), (3, .ptr 3 0), (4, .d true (.int .i64 i)), (5, .own 1000100 own.length), (13, .d false (.int .i64 Size)), (14, .d true (.int .i64 i)), (19, .d false (.sl (.rows Sets))), (20, .d true (.int .i64 (Sets.length : Int))), (21, .d true (.int .i64 k))]) (fun (own : ZI) (k : Int) => [(1000100, .arr true 3 (.ints own)), (1, .box 36 [.d false (.int .i64 Size), .d false (.sl (.rows Sets)), .d false (.sl (.ints Costs))]), (2, .box 36 [.d true (.int .i64 0), .d true (.nil), .d true (.nil)]), (3, .box 36 [.d true (.int .i64 sz), .own 1000002 rs.length, .own 1000003 cs.length]), (1000002, .mat 3 26 rs none), (1000003, .arr true 3 (.ints cs))])) (fun g => J5 Size Sets Costs i sz rs cs g.1 g.2) (fun _ => .none))) (cut1 (fun (row : ZI) => Jk Size Sets Costs i sz rs cs row) (fun (row : ZI) => [(1, .ptr 1 0), (2, .ptr 2 0), (3, .ptr 3 0), (5, .own 1000150 row.length), (13, .d false (.int .i64 Size)), (14, .d true (.int .i64 i))]) (fun (row : ZI) => [(1000150, .arr true 3 (.ints row)), (1, .box 36 [.d false (.int .i64 Size), .d false (.sl (.rows Sets)), .d false (.sl (.ints Costs))]), (2, .box 36 [.d true (.int .i64 0), .d true (.nil), .d true (.nil)]), (3, .box 36 [.d true (.int .i64 sz), .own 1000002 rs.length, .own 1000003 cs.length]), (1000002, .mat 3 26 rs none), (1000003, .arr true 3 (.ints cs))])) (fun _ => .none)))) (.none)))) (g.1) (g.2.1) (g.2.2.1) (g.2.2.2)))) (.none)))
def J03 (Size : Int) (Sets : ZR) (Costs : ZI) : Prop :=
  ((∃ i' : Int, ∃ sz' : Int, ∃ rs' : ZR, ∃ cs' : ZI, (Jl Size Sets Costs i' sz' rs' cs') ∧ (Size = Size) ∧ ((0 : Int) = i') ∧ (Size = Size) ∧ (Sets = Sets) ∧ (Costs = Costs) ∧ ((0 : Int) = 0) ∧ ((rs').length = 0) ∧ ((cs').length = 0) ∧ ((Sets.length : Int) = sz') ∧ ((0 : Nat) = rs'.length) ∧ ((0 : Nat) = cs'.length)) ∧ (∀ i : Int, ∀ sz : Int, ∀ rs : ZR, ∀ cs : ZI, (Jl Size Sets Costs i sz rs cs) → (((decide (i < Size)) = true → ((((∃ own' : ZI, ∃ k' : Int, (Jh Size Sets Costs i sz rs cs own' k') ∧ (i = i) ∧ ((0 : Nat) = own'.length) ∧ (Size = Size) ∧ (i = i) ∧ (Sets = Sets) ∧ ((Sets.length : Int) = (Sets.length : Int)) ∧ ((0 : Int) = k') ∧ ([] = own') ∧ (Size = Size) ∧ (Sets = Sets) ∧ (Costs = Costs) ∧ ((0 : Int) = 0) ∧ (sz = sz) ∧ (rs.length = rs.length) ∧ (cs.length = cs.length) ∧ (rs = rs) ∧ (cs = cs)) ∧ (∀ own : ZI, ∀ k : Int, (Jh Size Sets Costs i sz rs cs own k) → (((decide (k < (Sets.length : Int))) = true → ((0 : Int) ≤ k) ∧ ((k : Int) < Sets.length) ∧ (k.toNat < Sets.length) ∧ (PC Try.prog 181 [.sl (.ints (Sets.getD k.toNat [])), .int .i64 i] (.one (.d (.bool ((Sets.getD k.toNat []).contains i))))) ∧ ((((Sets.getD k.toNat []).contains i) = true → (own.length = own.length) ∧ ((1 : Nat) = 1) ∧ ((own.length + 1) * 8 ≤ 140737488355328) ∧ (I6 (k + 1)) ∧ (∃ own' : ZI, ∃ k' : Int, (Jh Size Sets Costs i sz rs cs own' k') ∧ (J5 Size Sets Costs i sz rs cs own' k' < J5 Size Sets Costs i sz rs cs own k) ∧ (i = i) ∧ ((own.length + 1) = own'.length) ∧ (Size = Size) ∧ (i = i) ∧ (Sets = Sets) ∧ ((Sets.length : Int) = (Sets.length : Int)) ∧ ((k + 1) = k') ∧ ((own ++ [k]) = own') ∧ (Size = Size) ∧ (Sets = Sets) ∧ (Costs = Costs) ∧ ((0 : Int) = 0) ∧ (sz = sz) ∧ (rs.length = rs.length) ∧ (cs.length = cs.length) ∧ (rs = rs) ∧ (cs = cs))) ∧ (((Sets.getD k.toNat []).contains i) = false → (I6 (k + 1)) ∧ (∃ own' : ZI, ∃ k' : Int, (Jh Size Sets Costs i sz rs cs own' k') ∧ (J5 Size Sets Costs i sz rs cs own' k' < J5 Size Sets Costs i sz rs cs own k) ∧ (i = i) ∧ (own.length = own'.length) ∧ (Size = Size) ∧ (i = i) ∧ (Sets = Sets) ∧ ((Sets.length : Int) = (Sets.length : Int)) ∧ ((k + 1) = k') ∧ (own = own') ∧ (Size = Size) ∧ (Sets = Sets) ∧ (Costs = Costs) ∧ ((0 : Int) = 0) ∧ (sz = sz) ∧ (rs.length = rs.length) ∧ (cs.length = cs.length) ∧ (rs = rs) ∧ (cs = cs))))) ∧ ((decide (k < (Sets.length : Int))) = false → (∃ row' : ZI, (Jk Size Sets Costs i sz rs cs row') ∧ (own.length = row'.length) ∧ (Size = Size) ∧ (i = i) ∧ (own = row') ∧ (Size = Size) ∧ (Sets = Sets) ∧ (Costs = Costs) ∧ ((0 : Int) = 0) ∧ (sz = sz) ∧ (rs.length = rs.length) ∧ (cs.length = cs.length) ∧ (rs = rs) ∧ (cs = cs))))))) ∧ (∀ row : ZI, (Jk Size Sets Costs i sz rs cs row) → (true = true) ∧ (row.length = row.length) ∧ (rs.length = rs.length) ∧ ((1 : Nat) = 1) ∧ (0 < 1) ∧ ((rs.length + 1) * 24 ≤ 140737488355328) ∧ (cs.length = cs.length) ∧ ((1 : Nat) = 1) ∧ ((cs.length + 1) * 8 ≤ 140737488355328) ∧ (I6 (i + 1)) ∧ (∃ i' : Int, ∃ sz' : Int, ∃ rs' : ZR, ∃ cs' : ZI, (Jl Size Sets Costs i' sz' rs' cs') ∧ (Jg Size Sets Costs i' sz' rs' cs' < Jg Size Sets Costs i sz rs cs) ∧ (Size = Size) ∧ ((i + 1) = i') ∧ (Size = Size) ∧ (Sets = Sets) ∧ (Costs = Costs) ∧ ((0 : Int) = 0) ∧ ((rs ++ [row]) = rs') ∧ ((cs ++ [1]) = cs') ∧ (sz = sz') ∧ ((rs.length + 1) = rs'.length) ∧ ((cs.length + 1) = cs'.length))))) ∧ ((decide (i < Size)) = false → ((sz = (Sets.length : Int)) ∧ (rs.length = rs.length) ∧ ((rs : ZR) = (Jp Sets Size.toNat)) ∧ (cs.length = cs.length) ∧ ((cs : ZI) = (List.replicate Size.toNat (1 : Int))))))))
theorem J0O (Size : Int) (Sets : ZR) (Costs : ZI) (hg : J0 Size Sets Costs = true) (w_Sets : (Sets.length : Int) ≤ 9223372036854775807) (v_Sets : ∀ x9 ∈ Sets, (x9.length : Int) ≤ 9223372036854775807) (w_Costs : (Costs.length : Int) ≤ 9223372036854775807) : J03 Size Sets Costs := by
  unfold J03
  have gf := J1M hg
  refine ⟨?_, ?_⟩
  ·refine ⟨0, (Sets.length : Int), ([]), ([]), ?_⟩
   refine ⟨?_, rfl, rfl, rfl, rfl, rfl, rfl, ?_, ?_, rfl, rfl, rfl⟩
   ·refine ⟨?_, ?_, ?_, ?_, ?_⟩
    ·rfl
    ·first | omega | rfl | (intro hg; simp only [nrmT] at hg; omega) | (intro g1 g2; simp [g1, g2]; done) | (intro g1; simp at g1 ⊢; simp [g1]; done) | (simp only [nrmT] at *; omega) | (simp at * <;> omega) | (simp_all <;> omega) | (simp_all; done)
    ·first | omega | rfl | (intro hg; simp only [nrmT] at hg; omega) | (intro g1 g2; simp [g1, g2]; done) | (intro g1; simp at g1 ⊢; simp [g1]; done) | (simp only [nrmT] at *; omega) | (simp at * <;> omega) | (simp_all <;> omega) | (simp_all; done)
    ·rfl
    ·rfl
   ·rfl
   rfl
  intro i sz rs cs hJ
  obtain ⟨h0, h1, h2, h3, h4⟩ := hJ
  refine ⟨?_, ?_⟩
  ·intro b1
   try simp only [nrmT] at b1
   refine ⟨?_, ?_⟩
   ·refine ⟨?_, ?_⟩
    ·refine ⟨([]), 0, ?_⟩
     refine ⟨?_, rfl, rfl, rfl, rfl, rfl, rfl, rfl, ?_, rfl, rfl, rfl, rfl, rfl, rfl, rfl, rfl, rfl⟩
     ·refine ⟨?_, ?_, ?_⟩
      ·first | omega | rfl | (intro hg; simp only [nrmT] at hg; omega) | (intro g1 g2; simp [g1, g2]; done) | (intro g1; simp at g1 ⊢; simp [g1]; done) | (simp only [nrmT] at *; omega) | (simp at * <;> omega) | (simp_all <;> omega) | (simp_all; done)
      ·first | omega | rfl | (intro hg; simp only [nrmT] at hg; omega) | (intro g1 g2; simp [g1, g2]; done) | (intro g1; simp at g1 ⊢; simp [g1]; done) | (simp only [nrmT] at *; omega) | (simp at * <;> omega) | (simp_all <;> omega) | (simp_all; done)
      ·rfl
     rfl
    ·intro own k hJ
     obtain ⟨h5, h6, h7⟩ := hJ
     refine ⟨?_, ?_⟩
     ·intro b2
      try simp only [nrmT] at b2
      refine ⟨?_, ?_, ?_, J0x (Sets.getD k.toNat []) i, ?_, ?_⟩
      ·first | omega | rfl | (intro hg; simp only [nrmT] at hg; omega) | (intro g1 g2; simp [g1, g2]; done) | (intro g1; simp at g1 ⊢; simp [g1]; done) | (simp only [nrmT] at *; omega) | (simp at * <;> omega) | (simp_all <;> omega) | (simp_all; done)
      ·first | omega | rfl | (intro hg; simp only [nrmT] at hg; omega) | (intro g1 g2; simp [g1, g2]; done) | (intro g1; simp at g1 ⊢; simp [g1]; done) | (simp only [nrmT] at *; omega) | (simp at * <;> omega) | (simp_all <;> omega) | (simp_all; done)
      ·first | omega | rfl | (intro hg; simp only [nrmT] at hg; omega) | (intro g1 g2; simp [g1, g2]; done) | (intro g1; simp at g1 ⊢; simp [g1]; done) | (simp only [nrmT] at *; omega) | (simp at * <;> omega) | (simp_all <;> omega) | (simp_all; done)
      ·intro b3
       try simp only [nrmT] at b3
       refine ⟨rfl, rfl, ?_, ?_, ?_⟩
       ·rw [h7]; have := members_len_le (fun k => (Sets.getD k []).contains i) k.toNat; omega
       ·first | omega | rfl | (intro hg; simp only [nrmT] at hg; omega) | (intro g1 g2; simp [g1, g2]; done) | (intro g1; simp at g1 ⊢; simp [g1]; done) | (simp only [nrmT] at *; omega) | (simp at * <;> omega) | (simp_all <;> omega) | (simp_all; done)
       refine ⟨(own ++ [k]), (k + 1), ?_⟩
       refine ⟨?_, ?_, rfl, ?_, rfl, rfl, rfl, rfl, rfl, rfl, rfl, rfl, rfl, rfl, rfl, rfl, rfl, rfl, rfl⟩
       ·refine ⟨?_, ?_, ?_⟩
        ·first | omega | rfl | (intro hg; simp only [nrmT] at hg; omega) | (intro g1 g2; simp [g1, g2]; done) | (intro g1; simp at g1 ⊢; simp [g1]; done) | (simp only [nrmT] at *; omega) | (simp at * <;> omega) | (simp_all <;> omega) | (simp_all; done)
        ·first | omega | rfl | (intro hg; simp only [nrmT] at hg; omega) | (intro g1 g2; simp [g1, g2]; done) | (intro g1; simp at g1 ⊢; simp [g1]; done) | (simp only [nrmT] at *; omega) | (simp at * <;> omega) | (simp_all <;> omega) | (simp_all; done)
        ·rw [h7, show (k + 1).toNat = k.toNat + 1 by omega, members_succ, if_pos b3, show ((k.toNat : Nat) : Int) = k by omega]
       ·first | (show _ < _; omega) | (simp only [J5]; omega) | (simp only [J5] at *; simp at *; omega)
       simp
      intro b4
      try simp only [nrmT] at b4
      refine ⟨?_, ?_⟩
      ·first | omega | rfl | (intro hg; simp only [nrmT] at hg; omega) | (intro g1 g2; simp [g1, g2]; done) | (intro g1; simp at g1 ⊢; simp [g1]; done) | (simp only [nrmT] at *; omega) | (simp at * <;> omega) | (simp_all <;> omega) | (simp_all; done)
      refine ⟨own, (k + 1), ?_⟩
      refine ⟨?_, ?_, rfl, rfl, rfl, rfl, rfl, rfl, rfl, rfl, rfl, rfl, rfl, rfl, rfl, rfl, rfl, rfl, rfl⟩
      ·refine ⟨?_, ?_, ?_⟩
       ·first | omega | rfl | (intro hg; simp only [nrmT] at hg; omega) | (intro g1 g2; simp [g1, g2]; done) | (intro g1; simp at g1 ⊢; simp [g1]; done) | (simp only [nrmT] at *; omega) | (simp at * <;> omega) | (simp_all <;> omega) | (simp_all; done)
       ·first | omega | rfl | (intro hg; simp only [nrmT] at hg; omega) | (intro g1 g2; simp [g1, g2]; done) | (intro g1; simp at g1 ⊢; simp [g1]; done) | (simp only [nrmT] at *; omega) | (simp at * <;> omega) | (simp_all <;> omega) | (simp_all; done)
       ·rw [h7, show (k + 1).toNat = k.toNat + 1 by omega, members_succ, if_neg (by rw [b4]; decide), List.append_nil]
      first | (show _ < _; omega) | (simp only [J5]; omega) | (simp only [J5] at *; simp at *; omega)
     intro b5
     try simp only [nrmT] at b5
     refine ⟨own, ?_⟩
     refine ⟨?_, rfl, rfl, rfl, rfl, rfl, rfl, rfl, rfl, rfl, rfl, rfl, rfl, rfl⟩
     ·unfold Jk
      rw [h7]
      unfold J0G
      rw [show k.toNat = Sets.length by omega, show ((i.toNat : Nat) : Int) = i by omega]
   intro row hJ
   have h8 := hJ
   refine ⟨rfl, rfl, rfl, rfl, by decide, ?_, rfl, rfl, ?_, ?_, ?_⟩
   ·rw [h3, tabTo_len]; omega
   ·rw [h4, List.length_replicate]; omega
   ·first | omega | rfl | (intro hg; simp only [nrmT] at hg; omega) | (intro g1 g2; simp [g1, g2]; done) | (intro g1; simp at g1 ⊢; simp [g1]; done) | (simp only [nrmT] at *; omega) | (simp at * <;> omega) | (simp_all <;> omega) | (simp_all; done)
   refine ⟨(i + 1), sz, (rs ++ [row]), (cs ++ [1]), ?_⟩
   refine ⟨?_, ?_, rfl, rfl, rfl, rfl, rfl, rfl, rfl, rfl, rfl, ?_, ?_⟩
   ·refine ⟨?_, ?_, ?_, ?_, ?_⟩
    ·assumption
    ·first | omega | rfl | (intro hg; simp only [nrmT] at hg; omega) | (intro g1 g2; simp [g1, g2]; done) | (intro g1; simp at g1 ⊢; simp [g1]; done) | (simp only [nrmT] at *; omega) | (simp at * <;> omega) | (simp_all <;> omega) | (simp_all; done)
    ·first | omega | rfl | (intro hg; simp only [nrmT] at hg; omega) | (intro g1 g2; simp [g1, g2]; done) | (intro g1; simp at g1 ⊢; simp [g1]; done) | (simp only [nrmT] at *; omega) | (simp at * <;> omega) | (simp_all <;> omega) | (simp_all; done)
    ·rw [h3, h8, show (i + 1).toNat = i.toNat + 1 by omega, tabTo_succ]
    ·rw [h4, show (i + 1).toNat = i.toNat + 1 by omega, List.replicate_succ']
   ·first | (show _ < _; omega) | (simp only [Jg]; omega) | (simp only [Jg] at *; simp at *; omega)
   ·simp
   simp
  intro b6
  try simp only [nrmT] at b6
  refine ⟨?_, rfl, ?_, rfl, ?_⟩
  ·assumption
  ·rw [h3, show i.toNat = Size.toNat by omega]; rfl
  rw [h4, show i.toNat = Size.toNat by omega]
theorem J0N (Size : Int) (Sets : ZR) (Costs : ZI) (hg : J0 Size Sets Costs = true) : PC Try.prog 124 [.agg [.int .i64 Size, .sl (.rows Sets), .sl (.ints Costs)]] (.agg [.d (.int .i64 (Sets.length : Int)), .mat 3 26 (Jp Sets Size.toNat), .own 3 (.ints (List.replicate Size.toNat (1 : Int)))]) :=
  pc_wf @Try.call124 fun hw => pc_by (by kernel_rfl) Try.func124 @Try.call124 (by kernel_rfl) J0X (J0Q Size Sets Costs) (by kernel_rfl) (J0O Size Sets Costs hg hw.1.2.1.1 hw.1.2.1.2 hw.1.2.2.1) (by kernel_rfl)
def J1h (f : FuncId) (ds : List D) : Orc := bif Nat.beq f 76 then J2i ds else .no
def J1c (Size : Int) (Sets : ZR) (Costs : ZI) : Ann := .two (.none) (.two (.none) (.two (.reg [(1, .call none (.agg [.d (.int .i64 (Sets.length : Int)), .mat 3 26 (Jp Sets Size.toNat), .own 3 (.ints (List.replicate Size.toNat (1 : Int)))]))]) (.none)))
def J0s (Size : Int) (Sets : ZR) (Costs : ZI) : Prop :=
  (PC Try.prog 76 [.agg [.int .i64 Size, .sl (.rows Sets), .sl (.ints Costs)]] (.one (.d (.bool (J0 Size Sets Costs))))) ∧ (((!(J0 Size Sets Costs)) = true → (((0 : Int) = (tsZ Size Sets Costs)) ∧ ((tsR Size Sets Costs).length = 0) ∧ ((tsC Size Sets Costs).length = 0) ∧ (false = (J0 Size Sets Costs)))) ∧ ((!(J0 Size Sets Costs)) = false → (PC Try.prog 124 [.agg [.int .i64 Size, .sl (.rows Sets), .sl (.ints Costs)]] (.agg [.d (.int .i64 (Sets.length : Int)), .mat 3 26 (Jp Sets Size.toNat), .own 3 (.ints (List.replicate Size.toNat (1 : Int)))])) ∧ (((Sets.length : Int) = (tsZ Size Sets Costs)) ∧ ((Jp Sets Size.toNat).length = (Jp Sets Size.toNat).length) ∧ (((Jp Sets Size.toNat) : ZR) = (tsR Size Sets Costs)) ∧ ((List.replicate Size.toNat (1 : Int)).length = (List.replicate Size.toNat (1 : Int)).length) ∧ (((List.replicate Size.toNat (1 : Int)) : ZI) = (tsC Size Sets Costs)) ∧ (true = (J0 Size Sets Costs)))))
theorem J16 (Size : Int) (Sets : ZR) (Costs : ZI)  (w_Sets : (Sets.length : Int) ≤ 9223372036854775807) (v_Sets : ∀ x9 ∈ Sets, (x9.length : Int) ≤ 9223372036854775807) (w_Costs : (Costs.length : Int) ≤ 9223372036854775807) : J0s Size Sets Costs := by
  unfold J0s
  refine ⟨J2A Size Sets Costs, ?_, ?_⟩
  ·intro b1
   try simp only [nrmT] at b1
   refine ⟨?_, ?_, ?_, ?_⟩
   ·have hq : J0 Size Sets Costs = false := by simpa using b1
    unfold tsZ; rw [hq]; rfl
   ·have hq : J0 Size Sets Costs = false := by simpa using b1
    unfold tsR; rw [hq]; rfl
   ·have hq : J0 Size Sets Costs = false := by simpa using b1
    unfold tsC; rw [hq]; rfl
   have hq : J0 Size Sets Costs = false := by simpa using b1
   exact hq.symm
  intro b2
  try simp only [nrmT] at b2
  refine ⟨?_, ?_, rfl, ?_, rfl, ?_, ?_⟩
  ·refine J0N Size Sets Costs ?_
   ·have hq : J0 Size Sets Costs = true := by simpa using b2
    exact hq
  ·have hq : J0 Size Sets Costs = true := by simpa using b2
   unfold tsZ; rw [if_pos hq]
  ·have hq : J0 Size Sets Costs = true := by simpa using b2
   unfold tsR; rw [if_pos hq]
  ·have hq : J0 Size Sets Costs = true := by simpa using b2
   unfold tsC; rw [if_pos hq]
  have hq : J0 Size Sets Costs = true := by simpa using b2
  exact hq.symm
theorem J0l (Size : Int) (Sets : ZR) (Costs : ZI)  : PC Try.prog 33 [.agg [.int .i64 Size, .sl (.rows Sets), .sl (.ints Costs)]] (.agt 3 [.d (.int .i64 (tsZ Size Sets Costs)), .mat 3 26 (tsR Size Sets Costs), .own 3 (.ints (tsC Size Sets Costs)), .d (.bool (J0 Size Sets Costs))]) :=
  pc_wf @Try.call33 fun hw => pc_by (by kernel_rfl) Try.func33 @Try.call33 (by kernel_rfl) J1h (J1c Size Sets Costs) (by kernel_rfl) (J16 Size Sets Costs hw.1.2.1.1 hw.1.2.1.2 hw.1.2.2.1) (by kernel_rfl)
theorem J2M (Size : Int) (Sets : ZR) (Costs : ZI) : J1 (tsR Size Sets Costs) ≤ 1000 ∧ (tsC Size Sets Costs).length ≤ 1000 := by
  by_cases hg : J0 Size Sets Costs = true
  · have gf := J1M hg
    have e1 : tsR Size Sets Costs = Jp Sets Size.toNat := by unfold tsR; rw [if_pos hg]
    have e2 : tsC Size Sets Costs = List.replicate Size.toNat 1 := by unfold tsC; rw [if_pos hg]
    have hb := J24 (m := Sets.length) (xss := Jp Sets Size.toNat) fun r hr => by
      obtain ⟨j, _, rfl⟩ := List.mem_map.1 hr
      exact members_len_le _ _
    rw [J42] at hb
    have h8 : Size.toNat * Sets.length ≤ 8 * 100 := Nat.mul_le_mul (by omega) (by omega)
    rw [e1, e2, List.length_replicate]
    omega
  have e1 : tsR Size Sets Costs = [] := by unfold tsR; rw [if_neg hg]
  have e2 : tsC Size Sets Costs = [] := by unfold tsC; rw [if_neg hg]
  rw [e1, e2]; decide
def l_FnExactTurnSystem_C (f : FuncId) (ds : List D) : Orc := bif Nat.beq f 30 then J2k ds else bif Nat.beq f 32 then J2a ds else bif Nat.beq f 31 then J1I ds else bif Nat.beq f 25 then J2l ds else bif Nat.beq f 29 then J1K ds else .no
def l_FnExactTurnSystem_A (Size : Int) (Sets : ZR) (Costs : ZI) : Ann := .two (.none) (.two (.none) (.two (.none) (.two (.none) (.two (.reg [(1, .g)]) (.two (.reg [(1, .g)]) (.two (.reg [(1, .call none (.agt 3 [.d (.int .i64 (tsZ Size Sets Costs)), .mat 3 26 (tsR Size Sets Costs), .own 3 (.ints (tsC Size Sets Costs)), .d (.bool (J0 Size Sets Costs))]))]) (.two (.none) (.two (.two (.reg [(2, .g)]) (.none)) (.two (.none) (.two (.mark [] [(2, .kill (1 + ((Sets.map List.length).sum : Int) + (Costs.length : Int)))]) (.two (.none) (.two (.none) (.two (.mark [] [(2, .wrs (mkS 1 (tsR Size Sets Costs)) (J6 (1 + (J1 (tsR Size Sets Costs) : Int)) (tsC Size Sets Costs).length) (1 + (J1 (tsR Size Sets Costs) : Int) + ((tsC Size Sets Costs).length : Int)))]) (.two (.none) (.two (.none) (.two (.none) (.two (.none) (.two (.reg [(2, .call none (.agt 3 [.d (.int .i64 (tsZ Size Sets Costs)), .mat 3 26 (tsR Size Sets Costs), .own 3 (.ints (tsC Size Sets Costs)), .d (.bool (J0 Size Sets Costs))])), (1, .g)]) (.none)))))))))))))))))))
def l_FnExactTurnSystem_e1 (Size : Int) (Sets : ZR) (Costs : ZI) : Bool := (cond (decide ((1 + ((Sets.map List.length).sum : Int) + (Costs.length : Int)) < 0)) true (!(((tsZ Size Sets Costs) == (tsZ Size Sets Costs)) && ((tsR Size Sets Costs) == (tsR Size Sets Costs)) && ((tsC Size Sets Costs) == (tsC Size Sets Costs)))))
def l_FnExactTurnSystem_e2 (Size : Int) (Sets : ZR) (Costs : ZI) : Bool := (cond (!(((tsZ Size Sets Costs) == (tsZ Size Sets Costs)) && ((tsR Size Sets Costs) == (tsR Size Sets Costs)) && ((tsC Size Sets Costs) == (tsC Size Sets Costs)))) true ((J0 Size Sets Costs) != (J0 Size Sets Costs)))
set_option maxRecDepth 100000 in
def l_FnExactTurnSystem_P (Size : Int) (Sets : ZR) (Costs : ZI) : Prop :=
  (PC Try.prog 30 [.agg [.int .i64 Size, .sl (.rows Sets), .sl (.ints Costs)], .int .i64 1048576] (.one (.d (.int .i64 (JG Sets Costs 1048576))))) ∧ (((decide ((JG Sets Costs 1048576) < 0)) = true → ((true = true))) ∧ ((decide ((JG Sets Costs 1048576) < 0)) = false → (PC Try.prog 32 [.agg [.int .i64 Size, .sl (.rows Sets), .sl (.ints Costs)]] (.one (.d (.agg [.int .i64 Size, .sl (.rows Sets), .sl (.ints Costs)])))) ∧ (PC Try.prog 31 [.agg [.int .i64 Size, .sl (.rows Sets), .sl (.ints Costs)]] (.tup [.d (.agg [.int .i64 (tsZ Size Sets Costs), .sl (.rows (tsR Size Sets Costs)), .sl (.ints (tsC Size Sets Costs))]), .d (.bool (J0 Size Sets Costs))])) ∧ (PC Try.prog 32 [.agg [.int .i64 Size, .sl (.rows Sets), .sl (.ints Costs)]] (.one (.d (.agg [.int .i64 Size, .sl (.rows Sets), .sl (.ints Costs)])))) ∧ (PC Try.prog 33 [.agg [.int .i64 Size, .sl (.rows Sets), .sl (.ints Costs)]] (.agt 3 [.d (.int .i64 (tsZ Size Sets Costs)), .mat 3 26 (tsR Size Sets Costs), .own 3 (.ints (tsC Size Sets Costs)), .d (.bool (J0 Size Sets Costs))])) ∧ ((tsR Size Sets Costs).length = (tsR Size Sets Costs).length) ∧ ((tsC Size Sets Costs).length = (tsC Size Sets Costs).length) ∧ (PC Try.prog 25 [.agg [.int .i64 (tsZ Size Sets Costs), .sl (.rows (tsR Size Sets Costs)), .sl (.ints (tsC Size Sets Costs))], .agg [.int .i64 (tsZ Size Sets Costs), .sl (.rows (tsR Size Sets Costs)), .sl (.ints (tsC Size Sets Costs))]] (.one (.d (.bool (((tsZ Size Sets Costs) == (tsZ Size Sets Costs)) && ((tsR Size Sets Costs) == (tsR Size Sets Costs)) && ((tsC Size Sets Costs) == (tsC Size Sets Costs))))))) ∧ ((!(!(((tsZ Size Sets Costs) == (tsZ Size Sets Costs)) && ((tsR Size Sets Costs) == (tsR Size Sets Costs)) && ((tsC Size Sets Costs) == (tsC Size Sets Costs))))) = true → (!(!(((tsZ Size Sets Costs) == (tsZ Size Sets Costs)) && ((tsR Size Sets Costs) == (tsR Size Sets Costs)) && ((tsC Size Sets Costs) == (tsC Size Sets Costs))))) = true) ∧ ((!(!(((tsZ Size Sets Costs) == (tsZ Size Sets Costs)) && ((tsR Size Sets Costs) == (tsR Size Sets Costs)) && ((tsC Size Sets Costs) == (tsC Size Sets Costs))))) = true → (!(!(((tsZ Size Sets Costs) == (tsZ Size Sets Costs)) && ((tsR Size Sets Costs) == (tsR Size Sets Costs)) && ((tsC Size Sets Costs) == (tsC Size Sets Costs))))) = true) ∧ (true = true) ∧ (((!(((tsZ Size Sets Costs) == (tsZ Size Sets Costs)) && ((tsR Size Sets Costs) == (tsR Size Sets Costs)) && ((tsC Size Sets Costs) == (tsC Size Sets Costs)))) = true → true = true)) ∧ (((!(((tsZ Size Sets Costs) == (tsZ Size Sets Costs)) && ((tsR Size Sets Costs) == (tsR Size Sets Costs)) && ((tsC Size Sets Costs) == (tsC Size Sets Costs)))) = false → (!(!(((tsZ Size Sets Costs) == (tsZ Size Sets Costs)) && ((tsR Size Sets Costs) == (tsR Size Sets Costs)) && ((tsC Size Sets Costs) == (tsC Size Sets Costs))))) = true)) ∧ (((l_FnExactTurnSystem_e2 Size Sets Costs) = true → ((false = true))) ∧ ((l_FnExactTurnSystem_e2 Size Sets Costs) = false → (true = true) ∧ (PC Try.prog 32 [.agg [.int .i64 Size, .sl (.rows Sets), .sl (.ints Costs)]] (.one (.d (.agg [.int .i64 Size, .sl (.rows Sets), .sl (.ints Costs)])))) ∧ (PC Try.prog 25 [.agg [.int .i64 Size, .sl (.rows Sets), .sl (.ints Costs)], .agg [.int .i64 Size, .sl (.rows Sets), .sl (.ints Costs)]] (.one (.d (.bool ((Size == Size) && (Sets == Sets) && (Costs == Costs)))))) ∧ (((!((Size == Size) && (Sets == Sets) && (Costs == Costs))) = true → ((false = true))) ∧ ((!((Size == Size) && (Sets == Sets) && (Costs == Costs))) = false → (PG Try.prog 28 [.agg [.any, .rows (Sets.map List.length), .ints Costs.length], .int 1] (1 + ((Sets.map List.length).sum : Int) + (Costs.length : Int))) ∧ ((!(decide ((1 + ((Sets.map List.length).sum : Int) + (Costs.length : Int)) < 0))) = true → (!(decide ((1 + ((Sets.map List.length).sum : Int) + (Costs.length : Int)) < 0))) = true) ∧ ((!(decide ((1 + ((Sets.map List.length).sum : Int) + (Costs.length : Int)) < 0))) = true → (!(decide ((1 + ((Sets.map List.length).sum : Int) + (Costs.length : Int)) < 0))) = true) ∧ (((!(decide ((1 + ((Sets.map List.length).sum : Int) + (Costs.length : Int)) < 0))) = true → (tsR Size Sets Costs).length = (tsR Size Sets Costs).length)) ∧ (((!(decide ((1 + ((Sets.map List.length).sum : Int) + (Costs.length : Int)) < 0))) = true → (tsC Size Sets Costs).length = (tsC Size Sets Costs).length)) ∧ ((!(decide ((1 + ((Sets.map List.length).sum : Int) + (Costs.length : Int)) < 0))) = true → PC Try.prog 25 [.agg [.int .i64 (tsZ Size Sets Costs), .sl (.rows (tsR Size Sets Costs)), .sl (.ints (tsC Size Sets Costs))], .agg [.int .i64 (tsZ Size Sets Costs), .sl (.rows (tsR Size Sets Costs)), .sl (.ints (tsC Size Sets Costs))]] (.one (.d (.bool (((tsZ Size Sets Costs) == (tsZ Size Sets Costs)) && ((tsR Size Sets Costs) == (tsR Size Sets Costs)) && ((tsC Size Sets Costs) == (tsC Size Sets Costs))))))) ∧ ((!(decide ((1 + ((Sets.map List.length).sum : Int) + (Costs.length : Int)) < 0))) = true → (!(decide ((1 + ((Sets.map List.length).sum : Int) + (Costs.length : Int)) < 0))) = true) ∧ (true = true) ∧ (((decide ((1 + ((Sets.map List.length).sum : Int) + (Costs.length : Int)) < 0)) = true → true = true)) ∧ (((decide ((1 + ((Sets.map List.length).sum : Int) + (Costs.length : Int)) < 0)) = false → (!(decide ((1 + ((Sets.map List.length).sum : Int) + (Costs.length : Int)) < 0))) = true)) ∧ ((!(l_FnExactTurnSystem_e1 Size Sets Costs)) = true → (!(l_FnExactTurnSystem_e1 Size Sets Costs)) = true) ∧ ((!(l_FnExactTurnSystem_e1 Size Sets Costs)) = true → (!(l_FnExactTurnSystem_e1 Size Sets Costs)) = true) ∧ (true = true) ∧ (((l_FnExactTurnSystem_e1 Size Sets Costs) = true → true = true)) ∧ (((l_FnExactTurnSystem_e1 Size Sets Costs) = false → (!(l_FnExactTurnSystem_e1 Size Sets Costs)) = true)) ∧ (((cond (l_FnExactTurnSystem_e1 Size Sets Costs) true ((J0 Size Sets Costs) != (J0 Size Sets Costs))) = true → ((false = true))) ∧ ((cond (l_FnExactTurnSystem_e1 Size Sets Costs) true ((J0 Size Sets Costs) != (J0 Size Sets Costs))) = false → ((tsR Size Sets Costs).length = (tsR Size Sets Costs).length) ∧ ((tsC Size Sets Costs).length = (tsC Size Sets Costs).length) ∧ ((mkS 1 (tsR Size Sets Costs)).length = (tsR Size Sets Costs).length) ∧ ((J6 (1 + (J1 (tsR Size Sets Costs) : Int)) (tsC Size Sets Costs).length).length = (tsC Size Sets Costs).length) ∧ (PWS Try.prog 28 3 26 3 (tsZ Size Sets Costs) (tsR Size Sets Costs) (mkS 1 (tsR Size Sets Costs)) (tsC Size Sets Costs) (J6 (1 + (J1 (tsR Size Sets Costs) : Int)) (tsC Size Sets Costs).length) 1 (1 + (J1 (tsR Size Sets Costs) : Int) + ((tsC Size Sets Costs).length : Int))) ∧ ((tsR Size Sets Costs).length = (mkS 1 (tsR Size Sets Costs)).length) ∧ ((tsC Size Sets Costs).length = (J6 (1 + (J1 (tsR Size Sets Costs) : Int)) (tsC Size Sets Costs).length).length) ∧ (PC Try.prog 29 [.agg [.int .i64 (tsZ Size Sets Costs), .sl (.rows (mkS 1 (tsR Size Sets Costs))), .sl (.ints (J6 (1 + (J1 (tsR Size Sets Costs) : Int)) (tsC Size Sets Costs).length))], .int .i64 1] (.one (.d (.int .i64 (1 + (J1 (mkS 1 (tsR Size Sets Costs)) : Int) + ((J6 (1 + (J1 (tsR Size Sets Costs) : Int)) (tsC Size Sets Costs).length).length : Int)))))) ∧ (((decide ((1 + (J1 (mkS 1 (tsR Size Sets Costs)) : Int) + ((J6 (1 + (J1 (tsR Size Sets Costs) : Int)) (tsC Size Sets Costs).length).length : Int)) < 0)) = true → ((false = true))) ∧ ((decide ((1 + (J1 (mkS 1 (tsR Size Sets Costs)) : Int) + ((J6 (1 + (J1 (tsR Size Sets Costs) : Int)) (tsC Size Sets Costs).length).length : Int)) < 0)) = false → ((((1 + (J1 (mkS 1 (tsR Size Sets Costs)) : Int) + ((J6 (1 + (J1 (tsR Size Sets Costs) : Int)) (tsC Size Sets Costs).length).length : Int)) != (1 + (J1 (tsR Size Sets Costs) : Int) + ((tsC Size Sets Costs).length : Int))) = true → ((false = true))) ∧ (((1 + (J1 (mkS 1 (tsR Size Sets Costs)) : Int) + ((J6 (1 + (J1 (tsR Size Sets Costs) : Int)) (tsC Size Sets Costs).length).length : Int)) != (1 + (J1 (tsR Size Sets Costs) : Int) + ((tsC Size Sets Costs).length : Int))) = false → (PC Try.prog 32 [.agg [.int .i64 Size, .sl (.rows Sets), .sl (.ints Costs)]] (.one (.d (.agg [.int .i64 Size, .sl (.rows Sets), .sl (.ints Costs)])))) ∧ (PC Try.prog 33 [.agg [.int .i64 Size, .sl (.rows Sets), .sl (.ints Costs)]] (.agt 3 [.d (.int .i64 (tsZ Size Sets Costs)), .mat 3 26 (tsR Size Sets Costs), .own 3 (.ints (tsC Size Sets Costs)), .d (.bool (J0 Size Sets Costs))])) ∧ ((tsR Size Sets Costs).length = (tsR Size Sets Costs).length) ∧ ((tsC Size Sets Costs).length = (tsC Size Sets Costs).length) ∧ (PC Try.prog 25 [.agg [.int .i64 (tsZ Size Sets Costs), .sl (.rows (tsR Size Sets Costs)), .sl (.ints (tsC Size Sets Costs))], .agg [.int .i64 (tsZ Size Sets Costs), .sl (.rows (tsR Size Sets Costs)), .sl (.ints (tsC Size Sets Costs))]] (.one (.d (.bool (((tsZ Size Sets Costs) == (tsZ Size Sets Costs)) && ((tsR Size Sets Costs) == (tsR Size Sets Costs)) && ((tsC Size Sets Costs) == (tsC Size Sets Costs))))))) ∧ ((!(!(((tsZ Size Sets Costs) == (tsZ Size Sets Costs)) && ((tsR Size Sets Costs) == (tsR Size Sets Costs)) && ((tsC Size Sets Costs) == (tsC Size Sets Costs))))) = true → (!(!(((tsZ Size Sets Costs) == (tsZ Size Sets Costs)) && ((tsR Size Sets Costs) == (tsR Size Sets Costs)) && ((tsC Size Sets Costs) == (tsC Size Sets Costs))))) = true) ∧ ((!(!(((tsZ Size Sets Costs) == (tsZ Size Sets Costs)) && ((tsR Size Sets Costs) == (tsR Size Sets Costs)) && ((tsC Size Sets Costs) == (tsC Size Sets Costs))))) = true → (!(!(((tsZ Size Sets Costs) == (tsZ Size Sets Costs)) && ((tsR Size Sets Costs) == (tsR Size Sets Costs)) && ((tsC Size Sets Costs) == (tsC Size Sets Costs))))) = true) ∧ (true = true) ∧ (((!(((tsZ Size Sets Costs) == (tsZ Size Sets Costs)) && ((tsR Size Sets Costs) == (tsR Size Sets Costs)) && ((tsC Size Sets Costs) == (tsC Size Sets Costs)))) = true → true = true)) ∧ (((!(((tsZ Size Sets Costs) == (tsZ Size Sets Costs)) && ((tsR Size Sets Costs) == (tsR Size Sets Costs)) && ((tsC Size Sets Costs) == (tsC Size Sets Costs)))) = false → (!(!(((tsZ Size Sets Costs) == (tsZ Size Sets Costs)) && ((tsR Size Sets Costs) == (tsR Size Sets Costs)) && ((tsC Size Sets Costs) == (tsC Size Sets Costs))))) = true)) ∧ (((l_FnExactTurnSystem_e2 Size Sets Costs) = true → ((false = true))) ∧ ((l_FnExactTurnSystem_e2 Size Sets Costs) = false → ((tsR Size Sets Costs).length = (mkS 1 (tsR Size Sets Costs)).length) ∧ ((tsC Size Sets Costs).length = (J6 (1 + (J1 (tsR Size Sets Costs) : Int)) (tsC Size Sets Costs).length).length) ∧ (PC Try.prog 29 [.agg [.int .i64 (tsZ Size Sets Costs), .sl (.rows (mkS 1 (tsR Size Sets Costs))), .sl (.ints (J6 (1 + (J1 (tsR Size Sets Costs) : Int)) (tsC Size Sets Costs).length))], .int .i64 1] (.one (.d (.int .i64 (1 + (J1 (mkS 1 (tsR Size Sets Costs)) : Int) + ((J6 (1 + (J1 (tsR Size Sets Costs) : Int)) (tsC Size Sets Costs).length).length : Int)))))) ∧ (((decide ((1 + (J1 (mkS 1 (tsR Size Sets Costs)) : Int) + ((J6 (1 + (J1 (tsR Size Sets Costs) : Int)) (tsC Size Sets Costs).length).length : Int)) < 0)) = true → ((false = true))) ∧ ((decide ((1 + (J1 (mkS 1 (tsR Size Sets Costs)) : Int) + ((J6 (1 + (J1 (tsR Size Sets Costs) : Int)) (tsC Size Sets Costs).length).length : Int)) < 0)) = false → ((((1 + (J1 (mkS 1 (tsR Size Sets Costs)) : Int) + ((J6 (1 + (J1 (tsR Size Sets Costs) : Int)) (tsC Size Sets Costs).length).length : Int)) != (1 + (J1 (tsR Size Sets Costs) : Int) + ((tsC Size Sets Costs).length : Int))) = true → ((false = true))) ∧ (((1 + (J1 (mkS 1 (tsR Size Sets Costs)) : Int) + ((J6 (1 + (J1 (tsR Size Sets Costs) : Int)) (tsC Size Sets Costs).length).length : Int)) != (1 + (J1 (tsR Size Sets Costs) : Int) + ((tsC Size Sets Costs).length : Int))) = false → ((true = true))))))))))))))))))))
set_option maxRecDepth 100000 in
theorem l_FnExactTurnSystem_vc (Size : Int) (Sets : ZR) (Costs : ZI)  (w_Sets : (Sets.length : Int) ≤ 9223372036854775807) (v_Sets : ∀ x9 ∈ Sets, (x9.length : Int) ≤ 9223372036854775807) (w_Costs : (Costs.length : Int) ≤ 9223372036854775807) : l_FnExactTurnSystem_P Size Sets Costs := by
  unfold l_FnExactTurnSystem_P l_FnExactTurnSystem_e2 l_FnExactTurnSystem_e1
  refine ⟨?_, ?_, ?_⟩
  ·refine J2I Size Sets Costs 1048576 ?_
   ·first | omega | rfl | (intro hg; simp only [nrmT] at hg; omega) | (intro g1 g2; simp [g1, g2]; done) | (intro g1; simp at g1 ⊢; simp [g1]; done) | (simp only [nrmT] at *; omega) | (simp at * <;> omega) | (simp_all <;> omega) | (simp_all; done)
  ·intro b1
   try simp only [nrmT] at b1
   exact rfl
  intro b2
  try simp only [nrmT] at b2
  refine ⟨?_, J23 Size Sets Costs, ?_, J0l Size Sets Costs, rfl, rfl, JV (tsZ Size Sets Costs) (tsR Size Sets Costs) (tsC Size Sets Costs) (tsZ Size Sets Costs) (tsR Size Sets Costs) (tsC Size Sets Costs), id, id, rfl, fun _ => rfl, ?_, ?_, ?_⟩
  ·refine JU Size Sets Costs ?_ ?_ ?_
   ·have := J9 b2; omega
   ·have h := (J9 b2).2.1
    intro xs hx
    have h := h xs hx
    omega
   ·have := J9 b2; omega
  ·refine JU Size Sets Costs ?_ ?_ ?_
   ·have := J9 b2; omega
   ·have h := (J9 b2).2.1
    intro xs hx
    have h := h xs hx
    omega
   ·have := J9 b2; omega
  ·intro h; rw [h]; rfl
  ·intro b3
   first | (exfalso; simp only [Je, J4] at b3; omega) | (exfalso; simp [Je, J4] at b3; done) | (simp at b3; done) | (simp at b3; omega) | omega | rfl | (intro hg; simp only [nrmT] at hg; omega) | (intro g1 g2; simp [g1, g2]; done) | (intro g1; simp at g1 ⊢; simp [g1]; done) | (simp only [nrmT] at *; omega) | (simp at * <;> omega) | (simp_all <;> omega) | (simp_all; done)
  intro b4
  refine ⟨rfl, ?_, JV Size Sets Costs Size Sets Costs, ?_, ?_⟩
  ·refine JU Size Sets Costs ?_ ?_ ?_
   ·have := J9 b2; omega
   ·have h := (J9 b2).2.1
    intro xs hx
    have h := h xs hx
    omega
   ·have := J9 b2; omega
  ·intro b5
   try simp only [Bool.not_eq_true', Bool.not_eq_false', Bool.not_not] at b5
   first | (exfalso; simp only [Je, J4] at b5; omega) | (exfalso; simp [Je, J4] at b5; done) | (simp at b5; done) | (simp at b5; omega) | omega | rfl | (intro hg; simp only [nrmT] at hg; omega) | (intro g1 g2; simp [g1, g2]; done) | (intro g1; simp at g1 ⊢; simp [g1]; done) | (simp only [nrmT] at *; omega) | (simp at * <;> omega) | (simp_all <;> omega) | (simp_all; done)
  intro b6
  try simp only [Bool.not_eq_true', Bool.not_eq_false', Bool.not_not] at b6
  refine ⟨?_, id, id, fun _ => rfl, fun _ => rfl, fun _ => JV (tsZ Size Sets Costs) (tsR Size Sets Costs) (tsC Size Sets Costs) (tsZ Size Sets Costs) (tsR Size Sets Costs) (tsC Size Sets Costs), id, rfl, fun _ => rfl, ?_, id, id, rfl, fun _ => rfl, ?_, ?_, ?_⟩
  ·refine J10 (Sets.map List.length) Costs.length 1 ?_ ?_ ?_
   ·first | omega | rfl | (intro hg; simp only [nrmT] at hg; omega) | (intro g1 g2; simp [g1, g2]; done) | (intro g1; simp at g1 ⊢; simp [g1]; done) | (simp only [nrmT] at *; omega) | (simp at * <;> omega) | (simp_all <;> omega) | (simp_all; done)
   ·rw [List.length_map]; have hz := J9 b2; omega
   ·have hz := J9 b2
    have hs := J3R (xss := Sets) (by omega) (fun xs hx => by have := hz.2.1 xs hx; omega)
    omega
  ·first | omega | rfl | (intro hg; simp only [nrmT] at hg; omega) | (intro g1 g2; simp [g1, g2]; done) | (intro g1; simp at g1 ⊢; simp [g1]; done) | (simp only [nrmT] at *; omega) | (simp at * <;> omega) | (simp_all <;> omega) | (simp_all; done)
  ·intro h; rw [h]; rfl
  ·intro b7
   first | (exfalso; simp only [Je, J4] at b7; omega) | (exfalso; simp [Je, J4] at b7; done) | (simp at b7; done) | (simp at b7; omega) | omega | rfl | (intro hg; simp only [nrmT] at hg; omega) | (intro g1 g2; simp [g1, g2]; done) | (intro g1; simp at g1 ⊢; simp [g1]; done) | (simp only [nrmT] at *; omega) | (simp at * <;> omega) | (simp_all <;> omega) | (simp_all; done)
  intro b8
  refine ⟨rfl, rfl, J02 _ _, J4 _ _, ?_, ?_, ?_, ?_, ?_, ?_⟩
  ·refine J0V (tsZ Size Sets Costs) (tsR Size Sets Costs) (tsC Size Sets Costs) 1 ?_ ?_
   ·first | omega | rfl | (intro hg; simp only [nrmT] at hg; omega) | (intro g1 g2; simp [g1, g2]; done) | (intro g1; simp at g1 ⊢; simp [g1]; done) | (simp only [nrmT] at *; omega) | (simp at * <;> omega) | (simp_all <;> omega) | (simp_all; done)
   ·try simp only [Je, J4]
    have hts := J2M Size Sets Costs
    omega
  ·exact (J02 _ _).symm
  ·exact (J4 _ _).symm
  ·refine J0M (tsZ Size Sets Costs) (mkS 1 (tsR Size Sets Costs)) (J6 (1 + (J1 (tsR Size Sets Costs) : Int)) (tsC Size Sets Costs).length) 1 ?_ ?_ ?_ ?_
   ·first | omega | rfl | (intro hg; simp only [nrmT] at hg; omega) | (intro g1 g2; simp [g1, g2]; done) | (intro g1; simp at g1 ⊢; simp [g1]; done) | (simp only [nrmT] at *; omega) | (simp at * <;> omega) | (simp_all <;> omega) | (simp_all; done)
   ·exact (J2V _ _).symm
   ·simp only [Je, J4]
   ·try simp only [Je, J4]
    have hts := J2M Size Sets Costs
    omega
  ·intro b9
   try simp only [nrmT] at b9
   first | (exfalso; simp only [Je, J4] at b9; omega) | (exfalso; simp [Je, J4] at b9; done) | (simp at b9; done) | (simp at b9; omega) | omega | rfl | (intro hg; simp only [nrmT] at hg; omega) | (intro g1 g2; simp [g1, g2]; done) | (intro g1; simp at g1 ⊢; simp [g1]; done) | (simp only [nrmT] at *; omega) | (simp at * <;> omega) | (simp_all <;> omega) | (simp_all; done)
  intro b10
  try simp only [nrmT] at b10
  refine ⟨?_, ?_⟩
  ·intro b11
   try simp only [nrmT] at b11
   first | (exfalso; simp only [Je, J4] at b11; omega) | (exfalso; simp [Je, J4] at b11; done) | (simp at b11; done) | (simp at b11; omega) | omega | rfl | (intro hg; simp only [nrmT] at hg; omega) | (intro g1 g2; simp [g1, g2]; done) | (intro g1; simp at g1 ⊢; simp [g1]; done) | (simp only [nrmT] at *; omega) | (simp at * <;> omega) | (simp_all <;> omega) | (simp_all; done)
  intro b12
  try simp only [nrmT] at b12
  refine ⟨?_, J0l Size Sets Costs, rfl, rfl, JV (tsZ Size Sets Costs) (tsR Size Sets Costs) (tsC Size Sets Costs) (tsZ Size Sets Costs) (tsR Size Sets Costs) (tsC Size Sets Costs), id, id, rfl, fun _ => rfl, ?_, ?_, ?_⟩
  ·refine JU Size Sets Costs ?_ ?_ ?_
   ·have := J9 b2; omega
   ·have h := (J9 b2).2.1
    intro xs hx
    have h := h xs hx
    omega
   ·have := J9 b2; omega
  ·intro h; rw [h]; rfl
  ·intro b13
   first | (exfalso; simp only [Je, J4] at b13; omega) | (exfalso; simp [Je, J4] at b13; done) | (simp at b13; done) | (simp at b13; omega) | omega | rfl | (intro hg; simp only [nrmT] at hg; omega) | (intro g1 g2; simp [g1, g2]; done) | (intro g1; simp at g1 ⊢; simp [g1]; done) | (simp only [nrmT] at *; omega) | (simp at * <;> omega) | (simp_all <;> omega) | (simp_all; done)
  intro b14
  refine ⟨?_, ?_, ?_, ?_, ?_⟩
  ·exact (J02 _ _).symm
  ·exact (J4 _ _).symm
  ·refine J0M (tsZ Size Sets Costs) (mkS 1 (tsR Size Sets Costs)) (J6 (1 + (J1 (tsR Size Sets Costs) : Int)) (tsC Size Sets Costs).length) 1 ?_ ?_ ?_ ?_
   ·first | omega | rfl | (intro hg; simp only [nrmT] at hg; omega) | (intro g1 g2; simp [g1, g2]; done) | (intro g1; simp at g1 ⊢; simp [g1]; done) | (simp only [nrmT] at *; omega) | (simp at * <;> omega) | (simp_all <;> omega) | (simp_all; done)
   ·exact (J2V _ _).symm
   ·simp only [Je, J4]
   ·try simp only [Je, J4]
    have hts := J2M Size Sets Costs
    omega
  ·intro b15
   try simp only [nrmT] at b15
   first | (exfalso; simp only [Je, J4] at b15; omega) | (exfalso; simp [Je, J4] at b15; done) | (simp at b15; done) | (simp at b15; omega) | omega | rfl | (intro hg; simp only [nrmT] at hg; omega) | (intro g1 g2; simp [g1, g2]; done) | (intro g1; simp at g1 ⊢; simp [g1]; done) | (simp only [nrmT] at *; omega) | (simp at * <;> omega) | (simp_all <;> omega) | (simp_all; done)
  intro b16
  try simp only [nrmT] at b16
  refine ⟨?_, ?_⟩
  ·intro b17
   try simp only [nrmT] at b17
   first | (exfalso; simp only [Je, J4] at b17; omega) | (exfalso; simp [Je, J4] at b17; done) | (simp at b17; done) | (simp at b17; omega) | omega | rfl | (intro hg; simp only [nrmT] at hg; omega) | (intro g1 g2; simp [g1, g2]; done) | (intro g1; simp at g1 ⊢; simp [g1]; done) | (simp only [nrmT] at *; omega) | (simp at * <;> omega) | (simp_all <;> omega) | (simp_all; done)
  intro b18
  try simp only [nrmT] at b18
  exact rfl
theorem l_FnExactTurnSystem_pc (Size : Int) (Sets : ZR) (Costs : ZI)  : PC Try.prog 5 [.agg [.int .i64 Size, .sl (.rows Sets), .sl (.ints Costs)]] (.one (.d (.bool true))) :=
  pc_wf @Try.call5 fun hw => pc_by (by kernel_rfl) Try.func5 @Try.call5 (by kernel_rfl) l_FnExactTurnSystem_C (l_FnExactTurnSystem_A Size Sets Costs) (by kernel_rfl) (l_FnExactTurnSystem_vc Size Sets Costs hw.1.2.1.1 hw.1.2.1.2 hw.1.2.2.1) (by kernel_rfl)
end Go.Proofs.Ytomnmacmlhkceaa
