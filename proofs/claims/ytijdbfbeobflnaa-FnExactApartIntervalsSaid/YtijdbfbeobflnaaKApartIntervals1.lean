/- Contracts of the functions that the law reaches. -/
import Derived.Test.YtijdbfbeobflnaaPw
import Derived.Test.YtijdbfbeobflnaaPma
import Derived.Test.YtijdbfbeobflnaaProg
import Derived.KernelRfl
set_option linter.unusedVariables false
set_option linter.unusedSimpArgs false
namespace Go.Proofs.Ytijdbfbeobflnaa
open Go

def s_l1In_C (f : FuncId) (ds : List D) : Orc := .no
def s_l1In_A (x : Int) (a : Int) (b : Int) : Ann := .none
def s_l1In_P (x : Int) (a : Int) (b : Int) : Prop :=
  ((decide (x ≥ a)) = true → (decide (x ≥ a)) = true) ∧ ((decide (x ≥ a)) = true → (decide (x ≥ a)) = true) ∧ (true = true) ∧ (((decide (x ≥ a)) = true → (decide (x ≥ a)) = true)) ∧ (((decide (x ≥ a)) = false → true = true)) ∧ (((cond (decide (x ≥ a)) (decide (x ≤ b)) false) = (inB x a b)))
theorem s_l1In_vc (x : Int) (a : Int) (b : Int)   : s_l1In_P x a b := by
  unfold s_l1In_P
  refine ⟨id, id, rfl, id, fun _ => rfl, ?_⟩
  · first | omega | rfl | (intro hg; simp only [nrmT] at hg; omega) | (intro g1 g2; simp [g1, g2]; done) | (intro g1; simp at g1 ⊢; simp [g1]; done) | (simp only [nrmT] at *; omega) | (simp at * <;> omega) | (simp_all <;> omega) | (simp_all; done) | (simp [inB]; omega) | (simp only [inB]; by_cases h : a ≤ x <;> simp_all)
theorem s_l1In_pc (x : Int) (a : Int) (b : Int)  : PC Try.prog 104 [.int .i64 x, .int .i64 a, .int .i64 b] (.one (.d (.bool (inB x a b)))) :=
  pc_wf @Try.call104 fun _ => pc_by (by kernel_rfl) Try.func104 @Try.call104 (by kernel_rfl) s_l1In_C (s_l1In_A x a b) (by kernel_rfl) (s_l1In_vc x a b) (by kernel_rfl)
def s_l1In_orc : List D → Orc := orcN [none, none, none] fun ds => match ds with
  | [.int .i64 x, .int .i64 a, .int .i64 b] => some (.one (.d (.bool (inB x a b))))
  | _ => none
def i_between_C (f : FuncId) (ds : List D) : Orc := .no
def i_between_A (x : Int) (a : Int) (b : Int) : Ann := .none
def i_between_P (x : Int) (a : Int) (b : Int) : Prop :=
  ((decide (x ≥ a)) = true → (decide (x ≥ a)) = true) ∧ ((decide (x ≥ a)) = true → (decide (x ≥ a)) = true) ∧ (true = true) ∧ (((decide (x ≥ a)) = true → (decide (x ≥ a)) = true)) ∧ (((decide (x ≥ a)) = false → true = true)) ∧ (((cond (decide (x ≥ a)) (decide (x ≤ b)) false) = (inB x a b)))
theorem i_between_vc (x : Int) (a : Int) (b : Int)   : i_between_P x a b := by
  unfold i_between_P
  refine ⟨id, id, rfl, id, fun _ => rfl, ?_⟩
  · first | omega | rfl | (intro hg; simp only [nrmT] at hg; omega) | (intro g1 g2; simp [g1, g2]; done) | (intro g1; simp at g1 ⊢; simp [g1]; done) | (simp only [nrmT] at *; omega) | (simp at * <;> omega) | (simp_all <;> omega) | (simp_all; done) | (simp [inB]; omega) | (simp only [inB]; by_cases h : a ≤ x <;> simp_all)
theorem i_between_pc (x : Int) (a : Int) (b : Int)  : PC Try.prog 107 [.int .i64 x, .int .i64 a, .int .i64 b] (.one (.d (.bool (inB x a b)))) :=
  pc_wf @Try.call107 fun _ => pc_by (by kernel_rfl) Try.func107 @Try.call107 (by kernel_rfl) i_between_C (i_between_A x a b) (by kernel_rfl) (i_between_vc x a b) (by kernel_rfl)
def i_between_orc : List D → Orc := orcN [none, none, none] fun ds => match ds with
  | [.int .i64 x, .int .i64 a, .int .i64 b] => some (.one (.d (.bool (inB x a b))))
  | _ => none
def sz1 (n : Nat) (left : Int) : Int := if left - n < 0 then -1 else left - n
theorem sz1_bound {n : Nat} {left : Int} (h : 0 ≤ sz1 n left) : sz1 n left ≤ left ∧ (n : Int) ≤ left := by
  unfold sz1 at *
  split at h <;> simp_all <;> omega
theorem len_le (m n : Nat) : decide ((m : Int) ≤ (n : Int)) = decide (m ≤ n) := by
  rw [Bool.eq_iff_iff]; simp only [decide_eq_true_eq]; omega
theorem all_end {α : Type} {p : α → Bool} {d : α} {xs : List α} {i : Int} (h2 : (xs.length : Int) ≤ i) (h2' : i ≤ (xs.length : Int)) (h3 : allTo (fun k => p (xs.getD k d)) i.toNat = true) : xs.all p = true := by
  have e : i.toNat = xs.length := by omega
  rw [e, allTo_list] at h3; exact h3
theorem all_no {α : Type} {p : α → Bool} {d : α} {xs : List α} {i : Int} (h0 : 0 ≤ i) (h : i < (xs.length : Int)) (h3 : p (xs.getD i.toNat d) = false) : xs.all p = false := by
  rw [← allTo_list (d := d)]; exact allTo_falseI h0 h h3
theorem beq_of_all {α : Type} [BEq α] [LawfulBEq α] {d : α} {xs ys : List α} (hl : xs.length = ys.length) : allTo (fun k => xs.getD k d == ys.getD k d) xs.length = (xs == ys) := by
  rw [Bool.eq_iff_iff, allTo_iff]
  simp only [beq_iff_eq]
  constructor
  · intro h
    refine List.ext_getElem hl fun k h1 h2 => ?_
    have := h k h1
    simpa [h1, h2] using this
  · intro h k _
    rw [h]
theorem len_ne {α : Type} [BEq α] [LawfulBEq α] {xs ys : List α} (h : ¬ xs.length = ys.length) : (xs == ys) = false := by
  rw [Bool.eq_false_iff]; intro h2; simp only [beq_iff_eq] at h2; exact h (by rw [h2])
abbrev l_eqIntS_JJ0 (xs : List Int) (ys : List Int) (i : Int) : Prop := (0 ≤ i) ∧ (i ≤ (xs.length : Int)) ∧ (allTo (fun k => xs.getD k 0 == ys.getD k 0) i.toNat = true) ∧ (xs.length = ys.length)
abbrev l_eqIntS_mJ0 (xs : List Int) (ys : List Int) (i : Int) : Nat := (xs.length - i).toNat
def l_eqIntS_C (f : FuncId) (ds : List D) : Orc := .no
def l_eqIntS_A (xs : List Int) (ys : List Int) : Ann := .two (.none) (.two (.none) (.two (.two (.none) (.loop (cut1 (fun (i : Int) => l_eqIntS_JJ0 xs ys i) (fun (i : Int) => [(0, .d false (.sl (.ints xs))), (1, .d false (.sl (.ints ys))), (5, .d true (.int .i64 i))]) (fun (i : Int) => [])) (fun g => l_eqIntS_mJ0 xs ys g) (fun _ => .none))) (.none)))
def l_eqIntS_P (xs : List Int) (ys : List Int) : Prop :=
  ((((xs.length : Int) != (ys.length : Int)) = true → ((false = (xs == ys)))) ∧ (((xs.length : Int) != (ys.length : Int)) = false → ((∃ i' : Int, (l_eqIntS_JJ0 xs ys i') ∧ (xs = xs) ∧ (ys = ys) ∧ ((0 : Int) = i')) ∧ (∀ i : Int, (l_eqIntS_JJ0 xs ys i) → (((decide (i < (xs.length : Int))) = true → (true = true) ∧ ((0 : Int) ≤ i) ∧ ((i : Int) < xs.length) ∧ (i.toNat < xs.length) ∧ ((0 : Int) ≤ i) ∧ ((i : Int) < ys.length) ∧ (i.toNat < ys.length) ∧ ((((xs.getD i.toNat 0) != (ys.getD i.toNat 0)) = true → ((false = (xs == ys)))) ∧ (((xs.getD i.toNat 0) != (ys.getD i.toNat 0)) = false → (-9223372036854775808 ≤ (i + 1) ∧ (i + 1) ≤ 9223372036854775807) ∧ (∃ i' : Int, (l_eqIntS_JJ0 xs ys i') ∧ (l_eqIntS_mJ0 xs ys i' < l_eqIntS_mJ0 xs ys i) ∧ (xs = xs) ∧ (ys = ys) ∧ ((i + 1) = i'))))) ∧ ((decide (i < (xs.length : Int))) = false → ((true = (xs == ys)))))))))
theorem l_eqIntS_vc (xs : List Int) (ys : List Int)  (w_xs : (xs.length : Int) ≤ 9223372036854775807) (w_ys : (ys.length : Int) ≤ 9223372036854775807) : l_eqIntS_P xs ys := by
  unfold l_eqIntS_P
  refine ⟨?_, ?_⟩
  · intro b1
    try simp only [nrmT] at b1
    exact (len_ne (by omega)).symm
  · intro b2
    try simp only [nrmT] at b2
    refine ⟨?_, ?_⟩
    · refine ⟨0, ?_⟩
      refine ⟨?_, rfl, rfl, rfl⟩
      · refine ⟨?_, ?_, ?_, ?_⟩
        · first | omega | rfl | (intro hg; simp only [nrmT] at hg; omega) | (intro g1 g2; simp [g1, g2]; done) | (intro g1; simp at g1 ⊢; simp [g1]; done) | (simp only [nrmT] at *; omega) | (simp at * <;> omega) | (simp_all <;> omega) | (simp_all; done)
        · first | omega | rfl | (intro hg; simp only [nrmT] at hg; omega) | (intro g1 g2; simp [g1, g2]; done) | (intro g1; simp at g1 ⊢; simp [g1]; done) | (simp only [nrmT] at *; omega) | (simp at * <;> omega) | (simp_all <;> omega) | (simp_all; done)
        · first | omega | rfl | (intro hg; simp only [nrmT] at hg; omega) | (intro g1 g2; simp [g1, g2]; done) | (intro g1; simp at g1 ⊢; simp [g1]; done) | (simp only [nrmT] at *; omega) | (simp at * <;> omega) | (simp_all <;> omega) | (simp_all; done)
        · first | omega | rfl | (intro hg; simp only [nrmT] at hg; omega) | (intro g1 g2; simp [g1, g2]; done) | (intro g1; simp at g1 ⊢; simp [g1]; done) | (simp only [nrmT] at *; omega) | (simp at * <;> omega) | (simp_all <;> omega) | (simp_all; done)
    · intro i hJ
      obtain ⟨h1, h2, h3, h4⟩ := hJ
      refine ⟨?_, ?_⟩
      · intro b3
        try simp only [nrmT] at b3
        refine ⟨rfl, ?_, ?_, ?_, ?_, ?_, ?_, ?_, ?_⟩
        · first | omega | rfl | (intro hg; simp only [nrmT] at hg; omega) | (intro g1 g2; simp [g1, g2]; done) | (intro g1; simp at g1 ⊢; simp [g1]; done) | (simp only [nrmT] at *; omega) | (simp at * <;> omega) | (simp_all <;> omega) | (simp_all; done)
        · first | omega | rfl | (intro hg; simp only [nrmT] at hg; omega) | (intro g1 g2; simp [g1, g2]; done) | (intro g1; simp at g1 ⊢; simp [g1]; done) | (simp only [nrmT] at *; omega) | (simp at * <;> omega) | (simp_all <;> omega) | (simp_all; done)
        · first | omega | rfl | (intro hg; simp only [nrmT] at hg; omega) | (intro g1 g2; simp [g1, g2]; done) | (intro g1; simp at g1 ⊢; simp [g1]; done) | (simp only [nrmT] at *; omega) | (simp at * <;> omega) | (simp_all <;> omega) | (simp_all; done)
        · first | omega | rfl | (intro hg; simp only [nrmT] at hg; omega) | (intro g1 g2; simp [g1, g2]; done) | (intro g1; simp at g1 ⊢; simp [g1]; done) | (simp only [nrmT] at *; omega) | (simp at * <;> omega) | (simp_all <;> omega) | (simp_all; done)
        · first | omega | rfl | (intro hg; simp only [nrmT] at hg; omega) | (intro g1 g2; simp [g1, g2]; done) | (intro g1; simp at g1 ⊢; simp [g1]; done) | (simp only [nrmT] at *; omega) | (simp at * <;> omega) | (simp_all <;> omega) | (simp_all; done)
        · first | omega | rfl | (intro hg; simp only [nrmT] at hg; omega) | (intro g1 g2; simp [g1, g2]; done) | (intro g1; simp at g1 ⊢; simp [g1]; done) | (simp only [nrmT] at *; omega) | (simp at * <;> omega) | (simp_all <;> omega) | (simp_all; done)
        · intro b4
          try simp only [nrmT] at b4
          rw [← beq_of_all (d := 0) h4]; exact (allTo_falseI h1 (by omega) (by simpa using b4)).symm
        · intro b5
          try simp only [nrmT] at b5
          refine ⟨?_, ?_⟩
          · first | omega | rfl | (intro hg; simp only [nrmT] at hg; omega) | (intro g1 g2; simp [g1, g2]; done) | (intro g1; simp at g1 ⊢; simp [g1]; done) | (simp only [nrmT] at *; omega) | (simp at * <;> omega) | (simp_all <;> omega) | (simp_all; done)
          · refine ⟨(i + 1), ?_⟩
            refine ⟨?_, ?_, rfl, rfl, rfl⟩
            · refine ⟨?_, ?_, ?_, ?_⟩
              · first | omega | rfl | (intro hg; simp only [nrmT] at hg; omega) | (intro g1 g2; simp [g1, g2]; done) | (intro g1; simp at g1 ⊢; simp [g1]; done) | (simp only [nrmT] at *; omega) | (simp at * <;> omega) | (simp_all <;> omega) | (simp_all; done)
              · first | omega | rfl | (intro hg; simp only [nrmT] at hg; omega) | (intro g1 g2; simp [g1, g2]; done) | (intro g1; simp at g1 ⊢; simp [g1]; done) | (simp only [nrmT] at *; omega) | (simp at * <;> omega) | (simp_all <;> omega) | (simp_all; done)
              · exact allTo_step h1 h3 (by simpa using b5)
              · first | omega | rfl | (intro hg; simp only [nrmT] at hg; omega) | (intro g1 g2; simp [g1, g2]; done) | (intro g1; simp at g1 ⊢; simp [g1]; done) | (simp only [nrmT] at *; omega) | (simp at * <;> omega) | (simp_all <;> omega) | (simp_all; done)
            · first | (show _ < _; omega) | (simp only [l_eqIntS_mJ0]; omega) | (simp only [l_eqIntS_mJ0] at *; simp at *; omega)
      · intro b6
        try simp only [nrmT] at b6
        rw [← beq_of_all (d := 0) h4, ← h3]; congr 1; omega
theorem l_eqIntS_pc (xs : List Int) (ys : List Int)  : PC Try.prog 32 [.sl (.ints xs), .sl (.ints ys)] (.one (.d (.bool (xs == ys)))) :=
  pc_wf @Try.call32 fun hw => pc_by (by kernel_rfl) Try.func32 @Try.call32 (by kernel_rfl) l_eqIntS_C (l_eqIntS_A xs ys) (by kernel_rfl) (l_eqIntS_vc xs ys hw.1 hw.2.1) (by kernel_rfl)
def l_eqIntS_orc : List D → Orc := orcN [some .ints, some .ints] fun ds => match ds with
  | [.sl (.ints xs), .sl (.ints ys)] => some (.one (.d (.bool (xs == ys))))
  | _ => none
/-- Marks from k on. -/
def marks (k : Int) (n : Nat) : List Int := (List.range n).map fun (i : Nat) => k + (i : Int)
def markTo (k : Int) (xs : List Int) (g : Nat) : List Int := marks k g ++ xs.drop g
theorem marks_len (k : Int) (n : Nat) : (marks k n).length = n := by simp [marks]
theorem markTo_zero (k : Int) (xs : List Int) : markTo k xs 0 = xs := by simp [markTo, marks]
theorem markTo_all (k : Int) (xs : List Int) : markTo k xs xs.length = marks k xs.length := by simp [markTo]
theorem markTo_len (k : Int) (xs : List Int) (g : Nat) (h : g ≤ xs.length) : (markTo k xs g).length = xs.length := by simp [markTo, marks_len]; omega
theorem markTo_step (k : Int) (xs : List Int) (g : Nat) (h : g < xs.length) : (markTo k xs g).set g (k + (g : Int)) = markTo k xs (g + 1) := by
  apply List.ext_getElem?
  intro j
  simp only [markTo, marks, List.getElem?_set, List.getElem?_append, List.length_map, List.length_range, List.getElem?_map, List.getElem?_drop, List.length_append, List.length_drop]
  by_cases h1 : g = j
  · subst h1
    simp [h]
    omega
  · by_cases h2 : j < g
    · simp [h1, h2, show j < g + 1 by omega]
    · simp [h1, h2, show ¬ j < g + 1 by omega]
      congr 1; omega
def laws_markIntS_w_C (f : FuncId) (ms : List MV) : Option Int := none
def laws_markIntS_w_A (xs : List Int) (k : Int) : MAnn := .two (.none) (.two (.two (.none) (.loop xs.length (fun g => [(0, .row xs.length), (1, .int (k + (g : Int))), (5, .int (g : Int))]) (fun g => (markTo k xs g)) (fun g => .none))) (.none))
def laws_markIntS_w_P (xs : List Int) (k : Int) : Prop :=
  ((((xs : List Int) = (markTo k xs (0 : Nat))) ∧ ((xs.length : Nat) = xs.length) ∧ ((k : Int) = (k + ((0 : Nat) : Int))) ∧ ((0 : Int) = ((0 : Nat) : Int))) ∧ (∀ g : Nat, g ≤ xs.length → (((decide ((g : Int) < (xs.length : Int))) = true → ((0 : Int) ≤ (g : Int)) ∧ (((g : Int) : Int) < (xs.length : Int)) ∧ ((g : Int).toNat < (markTo k xs g).length) ∧ (-9223372036854775808 ≤ ((k + (g : Int)) + 1) ∧ ((k + (g : Int)) + 1) ≤ 9223372036854775807) ∧ (-9223372036854775808 ≤ ((g : Int) + 1) ∧ ((g : Int) + 1) ≤ 9223372036854775807) ∧ ((g + 1 ≤ xs.length) ∧ ((((markTo k xs g).set ((g : Int).toNat) (k + (g : Int))) : List Int) = (markTo k xs (g + 1 : Nat))) ∧ ((xs.length : Nat) = xs.length) ∧ ((((k + (g : Int)) + 1) : Int) = (k + ((g + 1 : Nat) : Int))) ∧ ((((g : Int) + 1) : Int) = ((g + 1 : Nat) : Int)))) ∧ ((decide ((g : Int) < (xs.length : Int))) = false → (((((k + (g : Int)) : Int) = k + (xs.length : Int))) ∧ ((((markTo k xs g) : List Int) = (marks k xs.length))))))))
theorem laws_markIntS_w_vc (xs : List Int) (k : Int) (hk : 0 ≤ k) (hn : k + (xs.length : Int) ≤ 9223372036854775807) : laws_markIntS_w_P xs k := by
  unfold laws_markIntS_w_P
  refine ⟨?_, ?_⟩
  · refine ⟨?_, ?_⟩
    · exact (markTo_zero k xs).symm
    refine ⟨?_, ?_⟩
    · exact rfl
    refine ⟨?_, ?_⟩
    · first | omega | rfl | (simp; done) | (simp <;> omega)
    first | omega | rfl | (simp; done) | (simp <;> omega)
  intro g hg
  refine ⟨?_, ?_⟩
  · intro b1
    simp only [nrmT] at b1
    refine ⟨?_, ?_⟩
    · first | omega | rfl | (simp; done) | (simp <;> omega)
    refine ⟨?_, ?_⟩
    · first | omega | rfl | (simp; done) | (simp <;> omega)
    refine ⟨?_, ?_⟩
    · rw [markTo_len _ _ _ (by omega)]; omega
    refine ⟨?_, ?_⟩
    · first | omega | rfl | (simp; done) | (simp <;> omega)
    refine ⟨?_, ?_⟩
    · first | omega | rfl | (simp; done) | (simp <;> omega)
    refine ⟨?_, ?_⟩
    · first | omega | rfl | (simp; done) | (simp <;> omega)
    refine ⟨?_, ?_⟩
    · exact markTo_step k xs g (by omega)
    refine ⟨?_, ?_⟩
    · exact rfl
    refine ⟨?_, ?_⟩
    · first | omega | rfl | (simp; done) | (simp <;> omega)
    first | omega | rfl | (simp; done) | (simp <;> omega)
  · intro b2
    simp only [nrmT] at b2
    refine ⟨?_, ?_⟩
    · first | omega | rfl | (simp; done) | (simp <;> omega)
    rw [show g = xs.length by omega]; exact markTo_all k xs
theorem laws_markIntS_w_pw (xs : List Int) (k : Int) (hk : 0 ≤ k) (hn : k + (xs.length : Int) ≤ 9223372036854775807) : PW Try.prog 35 3 xs (marks k xs.length) k (k + (xs.length : Int)) :=
  pw_by Try.func35 @Try.call35 (by kernel_rfl) laws_markIntS_w_C (laws_markIntS_w_A xs k) (by kernel_rfl) (Nat.le_of_eq (marks_len _ _)) (laws_markIntS_w_vc xs k hk hn) (by kernel_rfl)
def laws_markIntA2S_g_C (f : FuncId) (ms : List MV) : Option Int := none
def laws_markIntA2S_g_A (n : Nat) (k : Int) : MAnn := .two (.none) (.two (.two (.none) (.loop n (fun g => [(0, .shp (.pairs n)), (1, .int (k + (g : Int) * 2)), (5, .int (g : Int))]) (fun g => []) (fun g => .two (.none) (.two (.two (.none) (.loop 2 (fun g2 => [(0, .shp (.pairs n)), (1, .int (k + (g : Int) * 2 + (g2 : Int))), (5, .int (g : Int)), (6, .int (g2 : Int))]) (fun g2 => []) (fun g2 => .none))) (.none))))) (.none))
def laws_markIntA2S_g_P (n : Nat) (k : Int) : Prop :=
  (((([] : List Int) = []) ∧ ((.pairs n : Sh) = .pairs n) ∧ ((k : Int) = (k + ((0 : Nat) : Int) * 2)) ∧ ((0 : Int) = ((0 : Nat) : Int))) ∧ (∀ g : Nat, g ≤ n → (((decide ((g : Int) < ((n : Nat) : Int))) = true → (((([] : List Int) = []) ∧ ((.pairs n : Sh) = .pairs n) ∧ (((k + (g : Int) * 2) : Int) = (k + (g : Int) * 2 + ((0 : Nat) : Int))) ∧ (((g : Int) : Int) = (g : Int)) ∧ ((0 : Int) = ((0 : Nat) : Int))) ∧ (∀ g2 : Nat, g2 ≤ 2 → (((decide ((g2 : Int) < 2)) = true → ((0 : Int) ≤ (g : Int)) ∧ (((g : Int) : Int) < ((n : Nat) : Int)) ∧ ((0 : Int) ≤ (g2 : Int)) ∧ (((g2 : Int) : Int) < 2) ∧ (-9223372036854775808 ≤ ((k + (g : Int) * 2 + (g2 : Int)) + 1) ∧ ((k + (g : Int) * 2 + (g2 : Int)) + 1) ≤ 9223372036854775807) ∧ (-9223372036854775808 ≤ ((g2 : Int) + 1) ∧ ((g2 : Int) + 1) ≤ 9223372036854775807) ∧ ((g2 + 1 ≤ 2) ∧ (([] : List Int) = []) ∧ ((.pairs n : Sh) = .pairs n) ∧ ((((k + (g : Int) * 2 + (g2 : Int)) + 1) : Int) = (k + (g : Int) * 2 + ((g2 + 1 : Nat) : Int))) ∧ (((g : Int) : Int) = (g : Int)) ∧ ((((g2 : Int) + 1) : Int) = ((g2 + 1 : Nat) : Int)))) ∧ ((decide ((g2 : Int) < 2)) = false → (-9223372036854775808 ≤ ((g : Int) + 1) ∧ ((g : Int) + 1) ≤ 9223372036854775807) ∧ ((g + 1 ≤ n) ∧ (([] : List Int) = []) ∧ ((.pairs n : Sh) = .pairs n) ∧ (((k + (g : Int) * 2 + (g2 : Int)) : Int) = (k + ((g + 1 : Nat) : Int) * 2)) ∧ ((((g : Int) + 1) : Int) = ((g + 1 : Nat) : Int)))))))) ∧ ((decide ((g : Int) < ((n : Nat) : Int))) = false → (((((k + (g : Int) * 2) : Int) = k + (n : Int) * 2)) ∧ ((([] : List Int) = [])))))))
theorem laws_markIntA2S_g_vc (n : Nat) (k : Int) (hk : 0 ≤ k) (hn : k + (n : Int) * 2 ≤ 9223372036854775807) : laws_markIntA2S_g_P n k := by
  unfold laws_markIntA2S_g_P
  refine ⟨?_, ?_⟩
  · refine ⟨?_, ?_⟩
    · exact rfl
    refine ⟨?_, ?_⟩
    · exact rfl
    refine ⟨?_, ?_⟩
    · first | omega | rfl | (simp; done) | (simp <;> omega)
    first | omega | rfl | (simp; done) | (simp <;> omega)
  intro g hg
  refine ⟨?_, ?_⟩
  · intro b1
    simp only [nrmT] at b1
    refine ⟨?_, ?_⟩
    · refine ⟨?_, ?_⟩
      · exact rfl
      refine ⟨?_, ?_⟩
      · exact rfl
      refine ⟨?_, ?_⟩
      · first | omega | rfl | (simp; done) | (simp <;> omega)
      refine ⟨?_, ?_⟩
      · exact rfl
      first | omega | rfl | (simp; done) | (simp <;> omega)
    intro g2 hg2
    refine ⟨?_, ?_⟩
    · intro b2
      simp only [nrmT] at b2
      refine ⟨?_, ?_⟩
      · first | omega | rfl | (simp; done) | (simp <;> omega)
      refine ⟨?_, ?_⟩
      · first | omega | rfl | (simp; done) | (simp <;> omega)
      refine ⟨?_, ?_⟩
      · first | omega | rfl | (simp; done) | (simp <;> omega)
      refine ⟨?_, ?_⟩
      · first | omega | rfl | (simp; done) | (simp <;> omega)
      refine ⟨?_, ?_⟩
      · first | omega | rfl | (simp; done) | (simp <;> omega)
      refine ⟨?_, ?_⟩
      · first | omega | rfl | (simp; done) | (simp <;> omega)
      refine ⟨?_, ?_⟩
      · first | omega | rfl | (simp; done) | (simp <;> omega)
      refine ⟨?_, ?_⟩
      · exact rfl
      refine ⟨?_, ?_⟩
      · exact rfl
      refine ⟨?_, ?_⟩
      · first | omega | rfl | (simp; done) | (simp <;> omega)
      refine ⟨?_, ?_⟩
      · exact rfl
      first | omega | rfl | (simp; done) | (simp <;> omega)
    · intro b3
      simp only [nrmT] at b3
      refine ⟨?_, ?_⟩
      · first | omega | rfl | (simp; done) | (simp <;> omega)
      refine ⟨?_, ?_⟩
      · first | omega | rfl | (simp; done) | (simp <;> omega)
      refine ⟨?_, ?_⟩
      · exact rfl
      refine ⟨?_, ?_⟩
      · exact rfl
      refine ⟨?_, ?_⟩
      · first | omega | rfl | (simp; done) | (simp <;> omega)
      first | omega | rfl | (simp; done) | (simp <;> omega)
  · intro b4
    simp only [nrmT] at b4
    refine ⟨?_, ?_⟩
    · first | omega | rfl | (simp; done) | (simp <;> omega)
    exact rfl
theorem laws_markIntA2S_g_pg (n : Nat) (k : Int) (hk : 0 ≤ k) (hn : k + (n : Int) * 2 ≤ 9223372036854775807) : PG Try.prog 34 [.shp (.pairs n), .int k] (k + (n : Int) * 2) :=
  pg_by Try.func34 @Try.call34 (by kernel_rfl) laws_markIntA2S_g_C (laws_markIntA2S_g_A n k) (by kernel_rfl) (laws_markIntA2S_g_vc n k hk hn) (by kernel_rfl)
theorem marks_getD (k : Int) (n i : Nat) (h : i < n) : (marks k n).getD i 0 = k + (i : Int) := by
  simp [marks, h]
abbrev l_heldIntS_JJ0 (xs : List Int) (k : Int) (k2 : Int) (i : Int) : Prop := (0 ≤ i) ∧ (i ≤ (xs.length : Int)) ∧ (k2 = k + i)
abbrev l_heldIntS_mJ0 (xs : List Int) (k : Int) (k2 : Int) (i : Int) : Nat := (xs.length - i).toNat
def l_heldIntS_C (f : FuncId) (ds : List D) : Orc := .no
def l_heldIntS_A (xs : List Int) (k : Int) : Ann := .two (.none) (.two (.two (.none) (.loop (cut2 (fun (k2 : Int) (i : Int) => l_heldIntS_JJ0 xs k k2 i) (fun (k2 : Int) (i : Int) => [(0, .d false (.sl (.ints xs))), (1, .d true (.int .i64 k2)), (5, .d true (.int .i64 i))]) (fun (k2 : Int) (i : Int) => [])) (fun g => l_heldIntS_mJ0 xs k g.1 g.2) (fun _ => .none))) (.none))
def l_heldIntS_P (xs : List Int) (k : Int) : Prop :=
  ((∃ k2' : Int, ∃ i' : Int, (l_heldIntS_JJ0 xs k k2' i') ∧ (xs = xs) ∧ (k = k2') ∧ ((0 : Int) = i')) ∧ (∀ k2 : Int, ∀ i : Int, (l_heldIntS_JJ0 xs k k2 i) → (((decide (i < (xs.length : Int))) = true → ((0 : Int) ≤ i) ∧ ((i : Int) < xs.length) ∧ (i.toNat < xs.length) ∧ ((((xs.getD i.toNat 0) != k2) = true → ((((-1) : Int) = (k + (xs.length : Int))))) ∧ (((xs.getD i.toNat 0) != k2) = false → (-9223372036854775808 ≤ (k2 + 1) ∧ (k2 + 1) ≤ 9223372036854775807) ∧ (-9223372036854775808 ≤ (i + 1) ∧ (i + 1) ≤ 9223372036854775807) ∧ (∃ k2' : Int, ∃ i' : Int, (l_heldIntS_JJ0 xs k k2' i') ∧ (l_heldIntS_mJ0 xs k k2' i' < l_heldIntS_mJ0 xs k k2 i) ∧ (xs = xs) ∧ ((k2 + 1) = k2') ∧ ((i + 1) = i'))))) ∧ ((decide (i < (xs.length : Int))) = false → ((k2 = (k + (xs.length : Int))))))))
theorem l_heldIntS_vc (xs : List Int) (k : Int) (hk : 0 ≤ k) (hx : xs = marks k xs.length) (hn : k + (xs.length : Int) ≤ 9223372036854775807) (w_xs : (xs.length : Int) ≤ 9223372036854775807) : l_heldIntS_P xs k := by
  unfold l_heldIntS_P
  refine ⟨?_, ?_⟩
  · refine ⟨k, 0, ?_⟩
    refine ⟨?_, rfl, rfl, rfl⟩
    · refine ⟨?_, ?_, ?_⟩
      · first | omega | rfl | (intro hg; simp only [nrmT] at hg; omega) | (intro g1 g2; simp [g1, g2]; done) | (intro g1; simp at g1 ⊢; simp [g1]; done) | (simp only [nrmT] at *; omega) | (simp at * <;> omega) | (simp_all <;> omega) | (simp_all; done)
      · first | omega | rfl | (intro hg; simp only [nrmT] at hg; omega) | (intro g1 g2; simp [g1, g2]; done) | (intro g1; simp at g1 ⊢; simp [g1]; done) | (simp only [nrmT] at *; omega) | (simp at * <;> omega) | (simp_all <;> omega) | (simp_all; done)
      · first | omega | rfl | (intro hg; simp only [nrmT] at hg; omega) | (intro g1 g2; simp [g1, g2]; done) | (intro g1; simp at g1 ⊢; simp [g1]; done) | (simp only [nrmT] at *; omega) | (simp at * <;> omega) | (simp_all <;> omega) | (simp_all; done)
  · intro k2 i hJ
    obtain ⟨h1, h2, h3⟩ := hJ
    refine ⟨?_, ?_⟩
    · intro b1
      try simp only [nrmT] at b1
      refine ⟨?_, ?_, ?_, ?_, ?_⟩
      · first | omega | rfl | (intro hg; simp only [nrmT] at hg; omega) | (intro g1 g2; simp [g1, g2]; done) | (intro g1; simp at g1 ⊢; simp [g1]; done) | (simp only [nrmT] at *; omega) | (simp at * <;> omega) | (simp_all <;> omega) | (simp_all; done)
      · first | omega | rfl | (intro hg; simp only [nrmT] at hg; omega) | (intro g1 g2; simp [g1, g2]; done) | (intro g1; simp at g1 ⊢; simp [g1]; done) | (simp only [nrmT] at *; omega) | (simp at * <;> omega) | (simp_all <;> omega) | (simp_all; done)
      · first | omega | rfl | (intro hg; simp only [nrmT] at hg; omega) | (intro g1 g2; simp [g1, g2]; done) | (intro g1; simp at g1 ⊢; simp [g1]; done) | (simp only [nrmT] at *; omega) | (simp at * <;> omega) | (simp_all <;> omega) | (simp_all; done)
      · intro b2
        try simp only [nrmT] at b2
        exfalso
        have h9 : xs.getD i.toNat 0 = k + (i.toNat : Int) := by
          rw [hx]; exact marks_getD k _ _ (by omega)
        omega
      · intro b3
        try simp only [nrmT] at b3
        refine ⟨?_, ?_, ?_⟩
        · first | omega | rfl | (intro hg; simp only [nrmT] at hg; omega) | (intro g1 g2; simp [g1, g2]; done) | (intro g1; simp at g1 ⊢; simp [g1]; done) | (simp only [nrmT] at *; omega) | (simp at * <;> omega) | (simp_all <;> omega) | (simp_all; done)
        · first | omega | rfl | (intro hg; simp only [nrmT] at hg; omega) | (intro g1 g2; simp [g1, g2]; done) | (intro g1; simp at g1 ⊢; simp [g1]; done) | (simp only [nrmT] at *; omega) | (simp at * <;> omega) | (simp_all <;> omega) | (simp_all; done)
        · refine ⟨(k2 + 1), (i + 1), ?_⟩
          refine ⟨?_, ?_, rfl, rfl, rfl⟩
          · refine ⟨?_, ?_, ?_⟩
            · first | omega | rfl | (intro hg; simp only [nrmT] at hg; omega) | (intro g1 g2; simp [g1, g2]; done) | (intro g1; simp at g1 ⊢; simp [g1]; done) | (simp only [nrmT] at *; omega) | (simp at * <;> omega) | (simp_all <;> omega) | (simp_all; done)
            · first | omega | rfl | (intro hg; simp only [nrmT] at hg; omega) | (intro g1 g2; simp [g1, g2]; done) | (intro g1; simp at g1 ⊢; simp [g1]; done) | (simp only [nrmT] at *; omega) | (simp at * <;> omega) | (simp_all <;> omega) | (simp_all; done)
            · first | omega | rfl | (intro hg; simp only [nrmT] at hg; omega) | (intro g1 g2; simp [g1, g2]; done) | (intro g1; simp at g1 ⊢; simp [g1]; done) | (simp only [nrmT] at *; omega) | (simp at * <;> omega) | (simp_all <;> omega) | (simp_all; done)
          · first | (show _ < _; omega) | (simp only [l_heldIntS_mJ0]; omega) | (simp only [l_heldIntS_mJ0] at *; simp at *; omega)
    · intro b4
      try simp only [nrmT] at b4
      first | omega | rfl | (intro hg; simp only [nrmT] at hg; omega) | (intro g1 g2; simp [g1, g2]; done) | (intro g1; simp at g1 ⊢; simp [g1]; done) | (simp only [nrmT] at *; omega) | (simp at * <;> omega) | (simp_all <;> omega) | (simp_all; done)
theorem l_heldIntS_pc (xs : List Int) (k : Int) (hk : 0 ≤ k) (hx : xs = marks k xs.length) (hn : k + (xs.length : Int) ≤ 9223372036854775807) : PC Try.prog 36 [.sl (.ints xs), .int .i64 k] (.one (.d (.int .i64 (k + (xs.length : Int))))) :=
  pc_wf @Try.call36 fun hw => pc_by (by kernel_rfl) Try.func36 @Try.call36 (by kernel_rfl) l_heldIntS_C (l_heldIntS_A xs k) (by kernel_rfl) (l_heldIntS_vc xs k hk hx hn hw.1) (by kernel_rfl)
def l_heldIntS_orc : List D → Orc := orcN [some .ints, none] fun ds => match ds with
  | [.sl (.ints xs), .int .i64 k] => some (.one (.d (.int .i64 (k + (xs.length : Int)))))
  | _ => none
def ivBad (x : Int × Int) : Bool := decide (x.1 < 0) || decide (x.1 > x.2) || decide (x.2 > 99)
def goodIvs (list : List (Int × Int)) : Bool := decide (list.length ≤ 12) && list.all (fun x => !(ivBad x))
theorem goodIvs_len {list : List (Int × Int)} (h : goodIvs list = true) : list.length ≤ 12 := by
  simp only [goodIvs, Bool.and_eq_true, decide_eq_true_eq] at h
  exact h.1
theorem goodIvs_at {list : List (Int × Int)} (h : goodIvs list = true) {k : Nat} (hk : k < list.length) : 0 ≤ (list.getD k (0, 0)).1 ∧ (list.getD k (0, 0)).1 ≤ (list.getD k (0, 0)).2 ∧ (list.getD k (0, 0)).2 ≤ 99 := by
  simp only [goodIvs, Bool.and_eq_true, decide_eq_true_eq] at h
  have h2 := List.all_eq_true.1 h.2 _ (getD_mem (d := (0, 0)) hk)
  simp only [ivBad, Bool.not_eq_true', Bool.or_eq_false_iff, decide_eq_false_iff_not] at h2
  omega
def stabbed (a b : Int) (points : List Int) : Bool := points.any (fun p => inB p a b)
def nextF (list : List (Int × Int)) (points : List Int) (b : Int) (i : Nat) : Int :=
  if (!(stabbed (list.getD i (0, 0)).1 (list.getD i (0, 0)).2 points) && (decide (b < 0) || decide ((list.getD i (0, 0)).2 < (list.getD b.toNat (0, 0)).2))) = true then (i : Int) else b
def nextTo (list : List (Int × Int)) (points : List Int) (k : Nat) : Int := foldTo (nextF list points) (-1) k
def nextIv (list : List (Int × Int)) (points : List Int) : Int := nextTo list points list.length
def openAt (list : List (Int × Int)) (points : List Int) (i : Nat) : Bool := !(stabbed (list.getD i (0, 0)).1 (list.getD i (0, 0)).2 points)
theorem nextTo_succ (list : List (Int × Int)) (points : List Int) (k : Nat) : nextTo list points (k + 1) = nextF list points (nextTo list points k) k := rfl
theorem nextTo_facts (list : List (Int × Int)) (points : List Int) : ∀ k, (-1 ≤ nextTo list points k ∧ nextTo list points k < k ∨ nextTo list points k = -1) ∧ (0 ≤ nextTo list points k → openAt list points (nextTo list points k).toNat = true) ∧ (nextTo list points k < 0 → ∀ j, j < k → openAt list points j = false)
  | 0 => ⟨.inr rfl, fun h => by simp [nextTo, foldTo] at h, fun _ j hj => by omega⟩
  | k + 1 => by
    obtain ⟨h1, h2, h3⟩ := nextTo_facts list points k
    rw [nextTo_succ]
    unfold nextF
    split
    · rename_i h
      refine ⟨.inl (by omega), fun _ => ?_, fun h => by omega⟩
      rw [Bool.and_eq_true] at h
      rw [Int.toNat_natCast]
      exact h.1
    · rename_i h
      refine ⟨by omega, h2, fun hlt j hj => ?_⟩
      by_cases e : j = k
      · subst e
        unfold openAt
        cases hs : stabbed (list.getD j (0, 0)).1 (list.getD j (0, 0)).2 points with
        | true => rfl
        | false => rw [hs, decide_eq_true hlt] at h; simp at h
      · exact h3 hlt j (by omega)
def unst (list : List (Int × Int)) (points : List Int) : Nat := (members (openAt list points) list.length).length
theorem members_sub {p q : Nat → Bool} : ∀ n, (∀ k, k < n → q k = true → p k = true) → (members q n).length ≤ (members p n).length
  | 0, _ => by simp [members]
  | n + 1, h => by
    have ih := members_sub n fun k hk => h k (by omega)
    rw [members_succ, members_succ, List.length_append, List.length_append]
    by_cases hq : q n = true
    · rw [if_pos hq, if_pos (h n (by omega) hq)]; omega
    · rw [if_neg hq]; simp only [List.length_nil]; omega
theorem members_less {p q : Nat → Bool} : ∀ n, (∀ k, k < n → q k = true → p k = true) → (∃ k, k < n ∧ p k = true ∧ q k = false) → (members q n).length < (members p n).length
  | 0, _, h => by obtain ⟨k, hk, _⟩ := h; omega
  | n + 1, h, ⟨k, hk, h1, h2⟩ => by
    rw [members_succ, members_succ, List.length_append, List.length_append]
    by_cases e : k = n
    · subst e
      have ih := members_sub k fun j hj => h j (by omega)
      rw [if_pos h1, h2]; simp; omega
    · have ih := members_less n (fun j hj => h j (by omega)) ⟨k, by omega, h1, h2⟩
      by_cases hq : q n = true
      · rw [if_pos hq, if_pos (h n (by omega) hq)]; omega
      · rw [if_neg hq]; simp only [List.length_nil]; omega
theorem nextIv_facts (list : List (Int × Int)) (points : List Int) : -1 ≤ nextIv list points ∧ nextIv list points < list.length := by
  have := (nextTo_facts list points list.length).1
  unfold nextIv; omega
theorem unst_step {list : List (Int × Int)} (hg : goodIvs list = true) {points : List Int} (h : 0 ≤ nextIv list points) : unst list (points ++ [(list.getD (nextIv list points).toNat (0, 0)).2]) < unst list points := by
  have h1 := nextIv_facts list points
  have h2 := (nextTo_facts list points list.length).2.1 h
  have h3 := goodIvs_at hg (k := (nextIv list points).toNat) (by omega)
  refine members_less _ (fun k hk hq => ?_) ⟨(nextIv list points).toNat, by omega, h2, ?_⟩
  · unfold openAt stabbed at hq ⊢
    rw [List.any_append] at hq
    revert hq
    cases points.any (fun p => inB p (list.getD k (0, 0)).1 (list.getD k (0, 0)).2) <;> simp
  · unfold openAt stabbed
    rw [List.any_append]
    have : inB (list.getD (nextIv list points).toNat (0, 0)).2 (list.getD (nextIv list points).toNat (0, 0)).1 (list.getD (nextIv list points).toNat (0, 0)).2 = true := decide_eq_true (by omega)
    simp only [List.any_cons, this, Bool.true_or, Bool.or_true, Bool.not_true]
def stabF (list : List (Int × Int)) : Nat → List Int → List Int → List Int × List Int
  | 0, p, f => (p, f)
  | n + 1, p, f => if nextIv list p < 0 then (p, f) else stabF list n (p ++ [(list.getD (nextIv list p).toNat (0, 0)).2]) (f ++ [nextIv list p])
theorem nextIv_stop {list : List (Int × Int)} {p : List Int} (h : unst list p = 0) : nextIv list p < 0 := by
  by_cases e : nextIv list p < 0
  · exact e
  · have h1 := nextIv_facts list p
    have h2 := (nextTo_facts list p list.length).2.1 (by unfold nextIv at *; omega)
    have h3 : nextIv list p ∈ members (openAt list p) list.length := mem_members.2 ⟨by omega, by omega, h2⟩
    have h4 : members (openAt list p) list.length = [] := List.eq_nil_of_length_eq_zero h
    rw [h4] at h3; cases h3
theorem stabF_stable {list : List (Int × Int)} (hg : goodIvs list = true) : ∀ n m p f, unst list p ≤ n → unst list p ≤ m → stabF list n p f = stabF list m p f
  | 0, 0, _, _, _, _ => rfl
  | 0, m + 1, p, f, h1, _ => by
    have := nextIv_stop (list := list) (p := p) (by omega)
    simp [stabF, this]
  | n + 1, 0, p, f, _, h2 => by
    have := nextIv_stop (list := list) (p := p) (by omega)
    simp [stabF, this]
  | n + 1, m + 1, p, f, h1, h2 => by
    by_cases h : nextIv list p < 0
    · simp [stabF, h]
    · have h3 := unst_step hg (points := p) (by omega)
      simp only [stabF, if_neg h]
      exact stabF_stable hg n m _ _ (by omega) (by omega)
def stabs (list : List (Int × Int)) (p f : List Int) : List Int × List Int := stabF list (unst list p) p f
theorem stabs_stop {list : List (Int × Int)} {p f : List Int} (h : nextIv list p < 0) : stabs list p f = (p, f) := by
  unfold stabs
  cases unst list p <;> simp [stabF, h]
theorem stabs_step {list : List (Int × Int)} (hg : goodIvs list = true) {p f : List Int} (h : ¬ nextIv list p < 0) : stabs list (p ++ [(list.getD (nextIv list p).toNat (0, 0)).2]) (f ++ [nextIv list p]) = stabs list p f := by
  have h3 := unst_step hg (points := p) (by omega)
  have e : stabs list p f = stabF list (unst list p - 1) (p ++ [(list.getD (nextIv list p).toNat (0, 0)).2]) (f ++ [nextIv list p]) := by
    unfold stabs
    rw [show unst list p = (unst list p - 1) + 1 by omega]
    simp only [stabF, if_neg h, Nat.add_sub_cancel]
  rw [e]
  exact stabF_stable hg _ _ _ _ (Nat.le_refl _) (by omega)
theorem unst_le (list : List (Int × Int)) (p : List Int) : unst list p ≤ list.length := members_len_le _ _
theorem stabF_len {list : List (Int × Int)} : ∀ n p f, (stabF list n p f).1.length ≤ p.length + n ∧ (stabF list n p f).2.length ≤ f.length + n
  | 0, _, _ => ⟨Nat.le_refl _, Nat.le_refl _⟩
  | n + 1, p, f => by
    unfold stabF
    split
    · simp
    · have := stabF_len (list := list) n (p ++ [(list.getD (nextIv list p).toNat (0, 0)).2]) (f ++ [nextIv list p])
      simp only [List.length_append, List.length_cons, List.length_nil] at this
      omega
def stabB (list : List (Int × Int)) : List Int := if goodIvs list = true then (stabs list [] []).2 else []
theorem stabB_len {list : List (Int × Int)} : (stabB list).length ≤ 12 := by
  unfold stabB stabs
  split
  · rename_i h
    have := stabF_len (list := list) (unst list []) [] []
    have := unst_le list []
    have := goodIvs_len h
    simp only [List.length_nil] at *
    omega
  · simp
theorem any_all_not {α : Type} (xs : List α) (p : α → Bool) : (!(xs.any p)) = xs.all (fun x => !(p x)) := by
  induction xs with
  | nil => rfl
  | cons x r ih => simp [← ih]
theorem cond_or3 : ∀ a b c : Bool, cond (cond a true b) true c = (a || b || c) := by decide
theorem cond_and_or : ∀ a b c : Bool, cond a (cond b true c) false = (a && (b || c)) := by decide
def i_areIntervals_1_C (f : FuncId) (ds : List D) : Orc := .no
def i_areIntervals_1_A (a : Int) (b : Int) : Ann := .none
def i_areIntervals_1_P (a : Int) (b : Int) : Prop :=
  ((0 : Int) ≤ 0) ∧ ((0 : Int) < 2) ∧ (((!(decide (a < 0))) = true → (0 : Int) ≤ 0)) ∧ (((!(decide (a < 0))) = true → (0 : Int) < 2)) ∧ ((!(decide (a < 0))) = true → (!(decide (a < 0))) = true) ∧ (((!(decide (a < 0))) = true → (0 : Int) ≤ 1)) ∧ (((!(decide (a < 0))) = true → (1 : Int) < 2)) ∧ ((!(decide (a < 0))) = true → (!(decide (a < 0))) = true) ∧ ((!(decide (a < 0))) = true → (!(decide (a < 0))) = true) ∧ ((!(decide (a < 0))) = true → (!(decide (a < 0))) = true) ∧ (true = true) ∧ (((decide (a < 0)) = true → true = true)) ∧ (((decide (a < 0)) = false → (!(decide (a < 0))) = true)) ∧ (((!(cond (decide (a < 0)) true (decide (a > b)))) = true → (0 : Int) ≤ 1)) ∧ (((!(cond (decide (a < 0)) true (decide (a > b)))) = true → (1 : Int) < 2)) ∧ ((!(cond (decide (a < 0)) true (decide (a > b)))) = true → (!(cond (decide (a < 0)) true (decide (a > b)))) = true) ∧ ((!(cond (decide (a < 0)) true (decide (a > b)))) = true → (!(cond (decide (a < 0)) true (decide (a > b)))) = true) ∧ (true = true) ∧ (((cond (decide (a < 0)) true (decide (a > b))) = true → true = true)) ∧ (((cond (decide (a < 0)) true (decide (a > b))) = false → (!(cond (decide (a < 0)) true (decide (a > b)))) = true)) ∧ (((cond (cond (decide (a < 0)) true (decide (a > b))) true (decide (b > 99))) = (ivBad (a, b))))
theorem i_areIntervals_1_vc (a : Int) (b : Int)   : i_areIntervals_1_P a b := by
  unfold i_areIntervals_1_P
  refine ⟨by decide, by decide, fun _ => by decide, fun _ => by decide, id, fun _ => by decide, fun _ => by decide, id, id, id, rfl, fun _ => rfl, ?_, fun _ => by decide, fun _ => by decide, id, id, rfl, fun _ => rfl, ?_, ?_⟩
  · first | omega | rfl | (intro hg; simp only [nrmT] at hg; omega) | (intro g1 g2; simp [g1, g2]; done) | (intro g1; simp at g1 ⊢; simp [g1]; done) | (simp only [nrmT] at *; omega) | (simp at * <;> omega) | (simp_all <;> omega) | (simp_all; done)
  · first | omega | rfl | (intro hg; simp only [nrmT] at hg; omega) | (intro g1 g2; simp [g1, g2]; done) | (intro g1; simp at g1 ⊢; simp [g1]; done) | (simp only [nrmT] at *; omega) | (simp at * <;> omega) | (simp_all <;> omega) | (simp_all; done)
  · exact cond_or3 _ _ _
theorem i_areIntervals_1_pc (a : Int) (b : Int)  : PC Try.prog 156 [.agg [.int .i64 a, .int .i64 b]] (.one (.d (.bool (ivBad (a, b))))) :=
  pc_wf @Try.call156 fun _ => pc_by (by kernel_rfl) Try.func156 @Try.call156 (by kernel_rfl) i_areIntervals_1_C (i_areIntervals_1_A a b) (by kernel_rfl) (i_areIntervals_1_vc a b) (by kernel_rfl)
def i_areIntervals_1_orc : List D → Orc := orcN [none] fun ds => match ds with
  | [.agg [.int .i64 a, .int .i64 b]] => some (.one (.d (.bool (ivBad (a, b)))))
  | _ => none
abbrev slices_IndexFunc_2_int_2_int_aI_JJ0 (xs : List (Int × Int)) (i : Int) : Prop := (0 ≤ i) ∧ (i ≤ (xs.length : Int)) ∧ (∀ k, k < i.toNat → (ivBad) (xs.getD k (0, 0)) = false)
abbrev slices_IndexFunc_2_int_2_int_aI_mJ0 (xs : List (Int × Int)) (i : Int) : Nat := (xs.length - i).toNat
def slices_IndexFunc_2_int_2_int_aI_C (f : FuncId) (ds : List D) : Orc := bif Nat.beq f 156 then i_areIntervals_1_orc ds else .no
def slices_IndexFunc_2_int_2_int_aI_A (xs : List (Int × Int)) : Ann := .two (.none) (.two (.two (.none) (.loop (cut1 (fun (i : Int) => slices_IndexFunc_2_int_2_int_aI_JJ0 xs i) (fun (i : Int) => [(0, .d false (.sl (.pairs xs))), (1, .d false (.fn 156 [])), (7, .d true (.int .i64 (xs.length : Int))), (8, .d true (.int .i64 i))]) (fun (i : Int) => [])) (fun g => slices_IndexFunc_2_int_2_int_aI_mJ0 xs g) (fun _ => .none))) (.none))
def slices_IndexFunc_2_int_2_int_aI_P (xs : List (Int × Int)) : Prop :=
  ((∃ i' : Int, (slices_IndexFunc_2_int_2_int_aI_JJ0 xs i') ∧ (xs = xs) ∧ ((.fn 156 [] : D) = (.fn 156 [] : D)) ∧ ((xs.length : Int) = (xs.length : Int)) ∧ ((0 : Int) = i')) ∧ (∀ i : Int, (slices_IndexFunc_2_int_2_int_aI_JJ0 xs i) → (((decide (i < (xs.length : Int))) = true → ((0 : Int) ≤ i) ∧ ((i : Int) < xs.length) ∧ (i.toNat < xs.length) ∧ (PC Try.prog 156 [.agg [.int .i64 ((xs.getD i.toNat (0, 0)).1), .int .i64 ((xs.getD i.toNat (0, 0)).2)]] (.one (.d (.bool (ivBad (((xs.getD i.toNat (0, 0)).1), ((xs.getD i.toNat (0, 0)).2))))))) ∧ (((ivBad (((xs.getD i.toNat (0, 0)).1), ((xs.getD i.toNat (0, 0)).2))) = true → ((i = (idxI (ivBad) xs)))) ∧ ((ivBad (((xs.getD i.toNat (0, 0)).1), ((xs.getD i.toNat (0, 0)).2))) = false → (-9223372036854775808 ≤ (i + 1) ∧ (i + 1) ≤ 9223372036854775807) ∧ (∃ i' : Int, (slices_IndexFunc_2_int_2_int_aI_JJ0 xs i') ∧ (slices_IndexFunc_2_int_2_int_aI_mJ0 xs i' < slices_IndexFunc_2_int_2_int_aI_mJ0 xs i) ∧ (xs = xs) ∧ ((.fn 156 [] : D) = (.fn 156 [] : D)) ∧ ((xs.length : Int) = (xs.length : Int)) ∧ ((i + 1) = i'))))) ∧ ((decide (i < (xs.length : Int))) = false → ((((-1) : Int) = (idxI (ivBad) xs)))))))
theorem slices_IndexFunc_2_int_2_int_aI_vc (xs : List (Int × Int))  (w_xs : (xs.length : Int) ≤ 9223372036854775807) : slices_IndexFunc_2_int_2_int_aI_P xs := by
  unfold slices_IndexFunc_2_int_2_int_aI_P
  refine ⟨?_, ?_⟩
  · refine ⟨0, ?_⟩
    refine ⟨?_, rfl, rfl, rfl, rfl⟩
    · refine ⟨?_, ?_, ?_⟩
      · first | omega | rfl | (intro hg; simp only [nrmT] at hg; omega) | (intro g1 g2; simp [g1, g2]; done) | (intro g1; simp at g1 ⊢; simp [g1]; done) | (simp only [nrmT] at *; omega) | (simp at * <;> omega) | (simp_all <;> omega) | (simp_all; done)
      · first | omega | rfl | (intro hg; simp only [nrmT] at hg; omega) | (intro g1 g2; simp [g1, g2]; done) | (intro g1; simp at g1 ⊢; simp [g1]; done) | (simp only [nrmT] at *; omega) | (simp at * <;> omega) | (simp_all <;> omega) | (simp_all; done)
      · first | omega | rfl | (intro hg; simp only [nrmT] at hg; omega) | (intro g1 g2; simp [g1, g2]; done) | (intro g1; simp at g1 ⊢; simp [g1]; done) | (simp only [nrmT] at *; omega) | (simp at * <;> omega) | (simp_all <;> omega) | (simp_all; done)
  · intro i hJ
    obtain ⟨h1, h2, h3⟩ := hJ
    refine ⟨?_, ?_⟩
    · intro b1
      try simp only [nrmT] at b1
      refine ⟨?_, ?_, ?_, i_areIntervals_1_pc ((xs.getD i.toNat (0, 0)).1) ((xs.getD i.toNat (0, 0)).2), ?_, ?_⟩
      · first | omega | rfl | (intro hg; simp only [nrmT] at hg; omega) | (intro g1 g2; simp [g1, g2]; done) | (intro g1; simp at g1 ⊢; simp [g1]; done) | (simp only [nrmT] at *; omega) | (simp at * <;> omega) | (simp_all <;> omega) | (simp_all; done)
      · first | omega | rfl | (intro hg; simp only [nrmT] at hg; omega) | (intro g1 g2; simp [g1, g2]; done) | (intro g1; simp at g1 ⊢; simp [g1]; done) | (simp only [nrmT] at *; omega) | (simp at * <;> omega) | (simp_all <;> omega) | (simp_all; done)
      · first | omega | rfl | (intro hg; simp only [nrmT] at hg; omega) | (intro g1 g2; simp [g1, g2]; done) | (intro g1; simp at g1 ⊢; simp [g1]; done) | (simp only [nrmT] at *; omega) | (simp at * <;> omega) | (simp_all <;> omega) | (simp_all; done)
      · intro b2
        try simp only [nrmT] at b2
        exact idx_found (p := ivBad) h1 b1 h3 (by simpa using b2)
      · intro b3
        try simp only [nrmT] at b3
        refine ⟨?_, ?_⟩
        · first | omega | rfl | (intro hg; simp only [nrmT] at hg; omega) | (intro g1 g2; simp [g1, g2]; done) | (intro g1; simp at g1 ⊢; simp [g1]; done) | (simp only [nrmT] at *; omega) | (simp at * <;> omega) | (simp_all <;> omega) | (simp_all; done)
        · refine ⟨(i + 1), ?_⟩
          refine ⟨?_, ?_, rfl, rfl, rfl, rfl⟩
          · refine ⟨?_, ?_, ?_⟩
            · first | omega | rfl | (intro hg; simp only [nrmT] at hg; omega) | (intro g1 g2; simp [g1, g2]; done) | (intro g1; simp at g1 ⊢; simp [g1]; done) | (simp only [nrmT] at *; omega) | (simp at * <;> omega) | (simp_all <;> omega) | (simp_all; done)
            · first | omega | rfl | (intro hg; simp only [nrmT] at hg; omega) | (intro g1 g2; simp [g1, g2]; done) | (intro g1; simp at g1 ⊢; simp [g1]; done) | (simp only [nrmT] at *; omega) | (simp at * <;> omega) | (simp_all <;> omega) | (simp_all; done)
            · exact idx_step (p := ivBad) h1 h3 (by simpa using b3)
          · first | (show _ < _; omega) | (simp only [slices_IndexFunc_2_int_2_int_aI_mJ0]; omega) | (simp only [slices_IndexFunc_2_int_2_int_aI_mJ0] at *; simp at *; omega)
    · intro b4
      try simp only [nrmT] at b4
      exact (idx_none (by omega) h3).symm
theorem slices_IndexFunc_2_int_2_int_aI_pc (xs : List (Int × Int))  : PC Try.prog 198 [.sl (.pairs xs), .fn 156 []] (.one (.d (.int .i64 (idxI (ivBad) xs)))) :=
  pc_wf @Try.call198 fun hw => pc_by (by kernel_rfl) Try.func198 @Try.call198 (by kernel_rfl) slices_IndexFunc_2_int_2_int_aI_C (slices_IndexFunc_2_int_2_int_aI_A xs) (by kernel_rfl) (slices_IndexFunc_2_int_2_int_aI_vc xs hw.1) (by kernel_rfl)
def slices_IndexFunc_2_int_2_int_aI_orc : List D → Orc := orcN [some .pairs, none] fun ds => match ds with
  | [.sl (.pairs xs), .fn f0 []] => bif Nat.beq f0 156 then some (.one (.d (.int .i64 (idxI (ivBad) xs)))) else none
  | _ => none
def slices_ContainsFunc_2_int_2_int_aI_C (f : FuncId) (ds : List D) : Orc := bif Nat.beq f 198 then slices_IndexFunc_2_int_2_int_aI_orc ds else .no
def slices_ContainsFunc_2_int_2_int_aI_A (xs : List (Int × Int)) : Ann := .none
def slices_ContainsFunc_2_int_2_int_aI_P (xs : List (Int × Int)) : Prop :=
  (PC Try.prog 198 [.sl (.pairs xs), .fn 156 []] (.one (.d (.int .i64 (idxI (ivBad) xs))))) ∧ (((decide ((idxI (ivBad) xs) ≥ 0)) = (xs.any (ivBad))))
theorem slices_ContainsFunc_2_int_2_int_aI_vc (xs : List (Int × Int))  (w_xs : (xs.length : Int) ≤ 9223372036854775807) : slices_ContainsFunc_2_int_2_int_aI_P xs := by
  unfold slices_ContainsFunc_2_int_2_int_aI_P
  refine ⟨slices_IndexFunc_2_int_2_int_aI_pc xs, ?_⟩
  · exact idx_any _ _
theorem slices_ContainsFunc_2_int_2_int_aI_pc (xs : List (Int × Int))  : PC Try.prog 155 [.sl (.pairs xs), .fn 156 []] (.one (.d (.bool (xs.any (ivBad))))) :=
  pc_wf @Try.call155 fun hw => pc_by (by kernel_rfl) Try.func155 @Try.call155 (by kernel_rfl) slices_ContainsFunc_2_int_2_int_aI_C (slices_ContainsFunc_2_int_2_int_aI_A xs) (by kernel_rfl) (slices_ContainsFunc_2_int_2_int_aI_vc xs hw.1) (by kernel_rfl)
def slices_ContainsFunc_2_int_2_int_aI_orc : List D → Orc := orcN [some .pairs, none] fun ds => match ds with
  | [.sl (.pairs xs), .fn f0 []] => bif Nat.beq f0 156 then some (.one (.d (.bool (xs.any (ivBad))))) else none
  | _ => none
def i_areIntervals_C (f : FuncId) (ds : List D) : Orc := bif Nat.beq f 155 then slices_ContainsFunc_2_int_2_int_aI_orc ds else .no
def i_areIntervals_A (list : List (Int × Int)) : Ann := .none
def i_areIntervals_P (list : List (Int × Int)) : Prop :=
  ((decide ((list.length : Int) ≤ 12)) = true → (decide ((list.length : Int) ≤ 12)) = true) ∧ ((decide ((list.length : Int) ≤ 12)) = true → PC Try.prog 155 [.sl (.pairs list), .fn 156 []] (.one (.d (.bool (list.any (ivBad)))))) ∧ ((decide ((list.length : Int) ≤ 12)) = true → (decide ((list.length : Int) ≤ 12)) = true) ∧ (true = true) ∧ (((decide ((list.length : Int) ≤ 12)) = true → (decide ((list.length : Int) ≤ 12)) = true)) ∧ (((decide ((list.length : Int) ≤ 12)) = false → true = true)) ∧ (((cond (decide ((list.length : Int) ≤ 12)) (!(list.any (ivBad))) false) = (goodIvs list)))
theorem i_areIntervals_vc (list : List (Int × Int))  (w_list : (list.length : Int) ≤ 9223372036854775807) : i_areIntervals_P list := by
  unfold i_areIntervals_P
  refine ⟨id, fun _ => slices_ContainsFunc_2_int_2_int_aI_pc list, id, rfl, id, fun _ => rfl, ?_⟩
  · rw [any_all_not, show decide ((list.length : Int) ≤ 12) = decide (list.length ≤ 12) from len_le _ 12]
    unfold goodIvs
    cases decide (list.length ≤ 12) <;> rfl
theorem i_areIntervals_pc (list : List (Int × Int))  : PC Try.prog 87 [.sl (.pairs list)] (.one (.d (.bool (goodIvs list)))) :=
  pc_wf @Try.call87 fun hw => pc_by (by kernel_rfl) Try.func87 @Try.call87 (by kernel_rfl) i_areIntervals_C (i_areIntervals_A list) (by kernel_rfl) (i_areIntervals_vc list hw.1) (by kernel_rfl)
def i_areIntervals_orc : List D → Orc := orcN [some .pairs] fun ds => match ds with
  | [.sl (.pairs list)] => some (.one (.d (.bool (goodIvs list))))
  | _ => none
abbrev s_l6Intervals_JJ0 (list : List (Int × Int)) (i : Int) : Prop := (0 ≤ i) ∧ (i ≤ (list.length : Int)) ∧ (allTo (fun k => !(ivBad (list.getD k (0, 0)))) i.toNat = true)
abbrev s_l6Intervals_mJ0 (list : List (Int × Int)) (i : Int) : Nat := (list.length - i).toNat
def s_l6Intervals_C (f : FuncId) (ds : List D) : Orc := .no
def s_l6Intervals_A (list : List (Int × Int)) : Ann := .two (.none) (.two (.two (.none) (.loop (cut1 (fun (i : Int) => s_l6Intervals_JJ0 list i) (fun (i : Int) => [(0, .d false (.sl (.pairs list))), (3, .d true (.int .i64 i))]) (fun (i : Int) => [])) (fun g => s_l6Intervals_mJ0 list g) (fun _ => .none))) (.none))
def s_l6Intervals_P (list : List (Int × Int)) : Prop :=
  ((∃ i' : Int, (s_l6Intervals_JJ0 list i') ∧ (list = list) ∧ ((0 : Int) = i')) ∧ (∀ i : Int, (s_l6Intervals_JJ0 list i) → (((decide (i < (list.length : Int))) = true → ((0 : Int) ≤ i) ∧ ((i : Int) < list.length) ∧ (i.toNat < list.length) ∧ ((0 : Int) ≤ 0) ∧ ((0 : Int) < 2) ∧ (((!(decide ((list.getD i.toNat (0, 0)).1 < 0))) = true → (0 : Int) ≤ 0)) ∧ (((!(decide ((list.getD i.toNat (0, 0)).1 < 0))) = true → (0 : Int) < 2)) ∧ ((!(decide ((list.getD i.toNat (0, 0)).1 < 0))) = true → (!(decide ((list.getD i.toNat (0, 0)).1 < 0))) = true) ∧ (((!(decide ((list.getD i.toNat (0, 0)).1 < 0))) = true → (0 : Int) ≤ 1)) ∧ (((!(decide ((list.getD i.toNat (0, 0)).1 < 0))) = true → (1 : Int) < 2)) ∧ ((!(decide ((list.getD i.toNat (0, 0)).1 < 0))) = true → (!(decide ((list.getD i.toNat (0, 0)).1 < 0))) = true) ∧ ((!(decide ((list.getD i.toNat (0, 0)).1 < 0))) = true → (!(decide ((list.getD i.toNat (0, 0)).1 < 0))) = true) ∧ ((!(decide ((list.getD i.toNat (0, 0)).1 < 0))) = true → (!(decide ((list.getD i.toNat (0, 0)).1 < 0))) = true) ∧ (true = true) ∧ (((decide ((list.getD i.toNat (0, 0)).1 < 0)) = true → true = true)) ∧ (((decide ((list.getD i.toNat (0, 0)).1 < 0)) = false → (!(decide ((list.getD i.toNat (0, 0)).1 < 0))) = true)) ∧ (((!(cond (decide ((list.getD i.toNat (0, 0)).1 < 0)) true (decide ((list.getD i.toNat (0, 0)).1 > (list.getD i.toNat (0, 0)).2)))) = true → (0 : Int) ≤ 1)) ∧ (((!(cond (decide ((list.getD i.toNat (0, 0)).1 < 0)) true (decide ((list.getD i.toNat (0, 0)).1 > (list.getD i.toNat (0, 0)).2)))) = true → (1 : Int) < 2)) ∧ ((!(cond (decide ((list.getD i.toNat (0, 0)).1 < 0)) true (decide ((list.getD i.toNat (0, 0)).1 > (list.getD i.toNat (0, 0)).2)))) = true → (!(cond (decide ((list.getD i.toNat (0, 0)).1 < 0)) true (decide ((list.getD i.toNat (0, 0)).1 > (list.getD i.toNat (0, 0)).2)))) = true) ∧ ((!(cond (decide ((list.getD i.toNat (0, 0)).1 < 0)) true (decide ((list.getD i.toNat (0, 0)).1 > (list.getD i.toNat (0, 0)).2)))) = true → (!(cond (decide ((list.getD i.toNat (0, 0)).1 < 0)) true (decide ((list.getD i.toNat (0, 0)).1 > (list.getD i.toNat (0, 0)).2)))) = true) ∧ (true = true) ∧ (((cond (decide ((list.getD i.toNat (0, 0)).1 < 0)) true (decide ((list.getD i.toNat (0, 0)).1 > (list.getD i.toNat (0, 0)).2))) = true → true = true)) ∧ (((cond (decide ((list.getD i.toNat (0, 0)).1 < 0)) true (decide ((list.getD i.toNat (0, 0)).1 > (list.getD i.toNat (0, 0)).2))) = false → (!(cond (decide ((list.getD i.toNat (0, 0)).1 < 0)) true (decide ((list.getD i.toNat (0, 0)).1 > (list.getD i.toNat (0, 0)).2)))) = true)) ∧ (((cond (cond (decide ((list.getD i.toNat (0, 0)).1 < 0)) true (decide ((list.getD i.toNat (0, 0)).1 > (list.getD i.toNat (0, 0)).2))) true (decide ((list.getD i.toNat (0, 0)).2 > 99))) = true → ((false = (goodIvs list)))) ∧ ((cond (cond (decide ((list.getD i.toNat (0, 0)).1 < 0)) true (decide ((list.getD i.toNat (0, 0)).1 > (list.getD i.toNat (0, 0)).2))) true (decide ((list.getD i.toNat (0, 0)).2 > 99))) = false → (-9223372036854775808 ≤ (i + 1) ∧ (i + 1) ≤ 9223372036854775807) ∧ (∃ i' : Int, (s_l6Intervals_JJ0 list i') ∧ (s_l6Intervals_mJ0 list i' < s_l6Intervals_mJ0 list i) ∧ (list = list) ∧ ((i + 1) = i'))))) ∧ ((decide (i < (list.length : Int))) = false → (((decide ((list.length : Int) ≤ 12)) = (goodIvs list)))))))
theorem s_l6Intervals_vc (list : List (Int × Int))  (w_list : (list.length : Int) ≤ 9223372036854775807) : s_l6Intervals_P list := by
  unfold s_l6Intervals_P
  refine ⟨?_, ?_⟩
  · refine ⟨0, ?_⟩
    refine ⟨?_, rfl, rfl⟩
    · refine ⟨?_, ?_, ?_⟩
      · first | omega | rfl | (intro hg; simp only [nrmT] at hg; omega) | (intro g1 g2; simp [g1, g2]; done) | (intro g1; simp at g1 ⊢; simp [g1]; done) | (simp only [nrmT] at *; omega) | (simp at * <;> omega) | (simp_all <;> omega) | (simp_all; done)
      · first | omega | rfl | (intro hg; simp only [nrmT] at hg; omega) | (intro g1 g2; simp [g1, g2]; done) | (intro g1; simp at g1 ⊢; simp [g1]; done) | (simp only [nrmT] at *; omega) | (simp at * <;> omega) | (simp_all <;> omega) | (simp_all; done)
      · first | omega | rfl | (intro hg; simp only [nrmT] at hg; omega) | (intro g1 g2; simp [g1, g2]; done) | (intro g1; simp at g1 ⊢; simp [g1]; done) | (simp only [nrmT] at *; omega) | (simp at * <;> omega) | (simp_all <;> omega) | (simp_all; done)
  · intro i hJ
    obtain ⟨h1, h2, h3⟩ := hJ
    refine ⟨?_, ?_⟩
    · intro b1
      try simp only [nrmT] at b1
      refine ⟨?_, ?_, ?_, by decide, by decide, fun _ => by decide, fun _ => by decide, id, fun _ => by decide, fun _ => by decide, id, id, id, rfl, fun _ => rfl, ?_, fun _ => by decide, fun _ => by decide, id, id, rfl, fun _ => rfl, ?_, ?_, ?_⟩
      · first | omega | rfl | (intro hg; simp only [nrmT] at hg; omega) | (intro g1 g2; simp [g1, g2]; done) | (intro g1; simp at g1 ⊢; simp [g1]; done) | (simp only [nrmT] at *; omega) | (simp at * <;> omega) | (simp_all <;> omega) | (simp_all; done)
      · first | omega | rfl | (intro hg; simp only [nrmT] at hg; omega) | (intro g1 g2; simp [g1, g2]; done) | (intro g1; simp at g1 ⊢; simp [g1]; done) | (simp only [nrmT] at *; omega) | (simp at * <;> omega) | (simp_all <;> omega) | (simp_all; done)
      · first | omega | rfl | (intro hg; simp only [nrmT] at hg; omega) | (intro g1 g2; simp [g1, g2]; done) | (intro g1; simp at g1 ⊢; simp [g1]; done) | (simp only [nrmT] at *; omega) | (simp at * <;> omega) | (simp_all <;> omega) | (simp_all; done)
      · first | omega | rfl | (intro hg; simp only [nrmT] at hg; omega) | (intro g1 g2; simp [g1, g2]; done) | (intro g1; simp at g1 ⊢; simp [g1]; done) | (simp only [nrmT] at *; omega) | (simp at * <;> omega) | (simp_all <;> omega) | (simp_all; done)
      · first | omega | rfl | (intro hg; simp only [nrmT] at hg; omega) | (intro g1 g2; simp [g1, g2]; done) | (intro g1; simp at g1 ⊢; simp [g1]; done) | (simp only [nrmT] at *; omega) | (simp at * <;> omega) | (simp_all <;> omega) | (simp_all; done)
      · intro b2
        rw [cond_or3] at b2
        have e : ivBad (list.getD i.toNat (0, 0)) = true := b2
        unfold goodIvs
        rw [all_no (p := fun x => !(ivBad x)) (d := (0, 0)) h1 (by omega) (by rw [e]; rfl), Bool.and_false]
      · intro b3
        refine ⟨?_, ?_⟩
        · first | omega | rfl | (intro hg; simp only [nrmT] at hg; omega) | (intro g1 g2; simp [g1, g2]; done) | (intro g1; simp at g1 ⊢; simp [g1]; done) | (simp only [nrmT] at *; omega) | (simp at * <;> omega) | (simp_all <;> omega) | (simp_all; done)
        · refine ⟨(i + 1), ?_⟩
          refine ⟨?_, ?_, rfl, rfl⟩
          · refine ⟨?_, ?_, ?_⟩
            · first | omega | rfl | (intro hg; simp only [nrmT] at hg; omega) | (intro g1 g2; simp [g1, g2]; done) | (intro g1; simp at g1 ⊢; simp [g1]; done) | (simp only [nrmT] at *; omega) | (simp at * <;> omega) | (simp_all <;> omega) | (simp_all; done)
            · first | omega | rfl | (intro hg; simp only [nrmT] at hg; omega) | (intro g1 g2; simp [g1, g2]; done) | (intro g1; simp at g1 ⊢; simp [g1]; done) | (simp only [nrmT] at *; omega) | (simp at * <;> omega) | (simp_all <;> omega) | (simp_all; done)
            · rw [cond_or3] at b3
              have e : ivBad (list.getD i.toNat (0, 0)) = false := b3
              exact allTo_step h1 h3 (by rw [e]; rfl)
          · first | (show _ < _; omega) | (simp only [s_l6Intervals_mJ0]; omega) | (simp only [s_l6Intervals_mJ0] at *; simp at *; omega)
    · intro b4
      try simp only [nrmT] at b4
      unfold goodIvs
      rw [all_end (p := fun x => !(ivBad x)) (d := (0, 0)) (by omega) h2 h3, Bool.and_true]
      exact len_le _ 12
theorem s_l6Intervals_pc (list : List (Int × Int))  : PC Try.prog 89 [.sl (.pairs list)] (.one (.d (.bool (goodIvs list)))) :=
  pc_wf @Try.call89 fun hw => pc_by (by kernel_rfl) Try.func89 @Try.call89 (by kernel_rfl) s_l6Intervals_C (s_l6Intervals_A list) (by kernel_rfl) (s_l6Intervals_vc list hw.1) (by kernel_rfl)
def s_l6Intervals_orc : List D → Orc := orcN [some .pairs] fun ds => match ds with
  | [.sl (.pairs list)] => some (.one (.d (.bool (goodIvs list))))
  | _ => none
def i_isStabbed_1_C (f : FuncId) (ds : List D) : Orc := bif Nat.beq f 107 then i_between_orc ds else .no
def i_isStabbed_1_A (p : Int) (a : Int) (b : Int) : Ann := .none
def i_isStabbed_1_P (p : Int) (a : Int) (b : Int) : Prop :=
  ((0 : Int) ≤ 0) ∧ ((0 : Int) < 2) ∧ ((0 : Int) ≤ 1) ∧ ((1 : Int) < 2) ∧ (PC Try.prog 107 [.int .i64 p, .int .i64 a, .int .i64 b] (.one (.d (.bool (inB p a b))))) ∧ (((inB p a b) = (inB p a b)))
theorem i_isStabbed_1_vc (p : Int) (a : Int) (b : Int)   : i_isStabbed_1_P p a b := by
  unfold i_isStabbed_1_P
  refine ⟨by decide, by decide, by decide, by decide, i_between_pc p a b, rfl⟩
theorem i_isStabbed_1_pc (p : Int) (a : Int) (b : Int)  : PC Try.prog 199 [.int .i64 p, .bx [.int .i64 a, .int .i64 b] 0] (.one (.d (.bool (inB p a b)))) :=
  pc_wf @Try.call199 fun _ => pc_by (by kernel_rfl) Try.func199 @Try.call199 (by kernel_rfl) i_isStabbed_1_C (i_isStabbed_1_A p a b) (by kernel_rfl) (i_isStabbed_1_vc p a b) (by kernel_rfl)
def i_isStabbed_1_orc : List D → Orc := orcN [none, none] fun ds => match ds with
  | [.int .i64 p, .bx [.int .i64 a, .int .i64 b] 0] => some (.one (.d (.bool (inB p a b))))
  | _ => none
abbrev slices_IndexFunc_int_int_iT_JJ0 (xs : List Int) (a : Int) (b : Int) (i : Int) : Prop := (0 ≤ i) ∧ (i ≤ (xs.length : Int)) ∧ (∀ k, k < i.toNat → (fun p => inB p a b) (xs.getD k 0) = false)
abbrev slices_IndexFunc_int_int_iT_mJ0 (xs : List Int) (a : Int) (b : Int) (i : Int) : Nat := (xs.length - i).toNat
def slices_IndexFunc_int_int_iT_C (f : FuncId) (ds : List D) : Orc := bif Nat.beq f 199 then i_isStabbed_1_orc ds else .no
def slices_IndexFunc_int_int_iT_A (xs : List Int) (a : Int) (b : Int) : Ann := .two (.none) (.two (.two (.none) (.loop (cut1 (fun (i : Int) => slices_IndexFunc_int_int_iT_JJ0 xs a b i) (fun (i : Int) => [(0, .d false (.sl (.ints xs))), (1, .d false (.fn 199 [.bx [.int .i64 a, .int .i64 b] 0])), (7, .d true (.int .i64 (xs.length : Int))), (8, .d true (.int .i64 i))]) (fun (i : Int) => [])) (fun g => slices_IndexFunc_int_int_iT_mJ0 xs a b g) (fun _ => .none))) (.none))
def slices_IndexFunc_int_int_iT_P (xs : List Int) (a : Int) (b : Int) : Prop :=
  ((∃ i' : Int, (slices_IndexFunc_int_int_iT_JJ0 xs a b i') ∧ (xs = xs) ∧ ((.fn 199 [.bx [.int .i64 a, .int .i64 b] 0] : D) = (.fn 199 [.bx [.int .i64 a, .int .i64 b] 0] : D)) ∧ ((xs.length : Int) = (xs.length : Int)) ∧ ((0 : Int) = i')) ∧ (∀ i : Int, (slices_IndexFunc_int_int_iT_JJ0 xs a b i) → (((decide (i < (xs.length : Int))) = true → ((0 : Int) ≤ i) ∧ ((i : Int) < xs.length) ∧ (i.toNat < xs.length) ∧ (PC Try.prog 199 [.int .i64 (xs.getD i.toNat 0), .bx [.int .i64 a, .int .i64 b] 0] (.one (.d (.bool (inB (xs.getD i.toNat 0) a b))))) ∧ (((inB (xs.getD i.toNat 0) a b) = true → ((i = (idxI (fun p => inB p a b) xs)))) ∧ ((inB (xs.getD i.toNat 0) a b) = false → (-9223372036854775808 ≤ (i + 1) ∧ (i + 1) ≤ 9223372036854775807) ∧ (∃ i' : Int, (slices_IndexFunc_int_int_iT_JJ0 xs a b i') ∧ (slices_IndexFunc_int_int_iT_mJ0 xs a b i' < slices_IndexFunc_int_int_iT_mJ0 xs a b i) ∧ (xs = xs) ∧ ((.fn 199 [.bx [.int .i64 a, .int .i64 b] 0] : D) = (.fn 199 [.bx [.int .i64 a, .int .i64 b] 0] : D)) ∧ ((xs.length : Int) = (xs.length : Int)) ∧ ((i + 1) = i'))))) ∧ ((decide (i < (xs.length : Int))) = false → ((((-1) : Int) = (idxI (fun p => inB p a b) xs)))))))
theorem slices_IndexFunc_int_int_iT_vc (xs : List Int) (a : Int) (b : Int)  (w_xs : (xs.length : Int) ≤ 9223372036854775807) : slices_IndexFunc_int_int_iT_P xs a b := by
  unfold slices_IndexFunc_int_int_iT_P
  refine ⟨?_, ?_⟩
  · refine ⟨0, ?_⟩
    refine ⟨?_, rfl, rfl, rfl, rfl⟩
    · refine ⟨?_, ?_, ?_⟩
      · first | omega | rfl | (intro hg; simp only [nrmT] at hg; omega) | (intro g1 g2; simp [g1, g2]; done) | (intro g1; simp at g1 ⊢; simp [g1]; done) | (simp only [nrmT] at *; omega) | (simp at * <;> omega) | (simp_all <;> omega) | (simp_all; done)
      · first | omega | rfl | (intro hg; simp only [nrmT] at hg; omega) | (intro g1 g2; simp [g1, g2]; done) | (intro g1; simp at g1 ⊢; simp [g1]; done) | (simp only [nrmT] at *; omega) | (simp at * <;> omega) | (simp_all <;> omega) | (simp_all; done)
      · first | omega | rfl | (intro hg; simp only [nrmT] at hg; omega) | (intro g1 g2; simp [g1, g2]; done) | (intro g1; simp at g1 ⊢; simp [g1]; done) | (simp only [nrmT] at *; omega) | (simp at * <;> omega) | (simp_all <;> omega) | (simp_all; done)
  · intro i hJ
    obtain ⟨h1, h2, h3⟩ := hJ
    refine ⟨?_, ?_⟩
    · intro b1
      try simp only [nrmT] at b1
      refine ⟨?_, ?_, ?_, i_isStabbed_1_pc (xs.getD i.toNat 0) a b, ?_, ?_⟩
      · first | omega | rfl | (intro hg; simp only [nrmT] at hg; omega) | (intro g1 g2; simp [g1, g2]; done) | (intro g1; simp at g1 ⊢; simp [g1]; done) | (simp only [nrmT] at *; omega) | (simp at * <;> omega) | (simp_all <;> omega) | (simp_all; done)
      · first | omega | rfl | (intro hg; simp only [nrmT] at hg; omega) | (intro g1 g2; simp [g1, g2]; done) | (intro g1; simp at g1 ⊢; simp [g1]; done) | (simp only [nrmT] at *; omega) | (simp at * <;> omega) | (simp_all <;> omega) | (simp_all; done)
      · first | omega | rfl | (intro hg; simp only [nrmT] at hg; omega) | (intro g1 g2; simp [g1, g2]; done) | (intro g1; simp at g1 ⊢; simp [g1]; done) | (simp only [nrmT] at *; omega) | (simp at * <;> omega) | (simp_all <;> omega) | (simp_all; done)
      · intro b2
        try simp only [nrmT] at b2
        exact idx_found (p := fun p => inB p a b) h1 b1 h3 (by simpa using b2)
      · intro b3
        try simp only [nrmT] at b3
        refine ⟨?_, ?_⟩
        · first | omega | rfl | (intro hg; simp only [nrmT] at hg; omega) | (intro g1 g2; simp [g1, g2]; done) | (intro g1; simp at g1 ⊢; simp [g1]; done) | (simp only [nrmT] at *; omega) | (simp at * <;> omega) | (simp_all <;> omega) | (simp_all; done)
        · refine ⟨(i + 1), ?_⟩
          refine ⟨?_, ?_, rfl, rfl, rfl, rfl⟩
          · refine ⟨?_, ?_, ?_⟩
            · first | omega | rfl | (intro hg; simp only [nrmT] at hg; omega) | (intro g1 g2; simp [g1, g2]; done) | (intro g1; simp at g1 ⊢; simp [g1]; done) | (simp only [nrmT] at *; omega) | (simp at * <;> omega) | (simp_all <;> omega) | (simp_all; done)
            · first | omega | rfl | (intro hg; simp only [nrmT] at hg; omega) | (intro g1 g2; simp [g1, g2]; done) | (intro g1; simp at g1 ⊢; simp [g1]; done) | (simp only [nrmT] at *; omega) | (simp at * <;> omega) | (simp_all <;> omega) | (simp_all; done)
            · exact idx_step (p := fun p => inB p a b) h1 h3 (by simpa using b3)
          · first | (show _ < _; omega) | (simp only [slices_IndexFunc_int_int_iT_mJ0]; omega) | (simp only [slices_IndexFunc_int_int_iT_mJ0] at *; simp at *; omega)
    · intro b4
      try simp only [nrmT] at b4
      exact (idx_none (by omega) h3).symm
theorem slices_IndexFunc_int_int_iT_pc (xs : List Int) (a : Int) (b : Int)  : PC Try.prog 164 [.sl (.ints xs), .fn 199 [.bx [.int .i64 a, .int .i64 b] 0]] (.one (.d (.int .i64 (idxI (fun p => inB p a b) xs)))) :=
  pc_wf @Try.call164 fun hw => pc_by (by kernel_rfl) Try.func164 @Try.call164 (by kernel_rfl) slices_IndexFunc_int_int_iT_C (slices_IndexFunc_int_int_iT_A xs a b) (by kernel_rfl) (slices_IndexFunc_int_int_iT_vc xs a b hw.1) (by kernel_rfl)
def slices_IndexFunc_int_int_iT_orc : List D → Orc := orcN [some .ints, none] fun ds => match ds with
  | [.sl (.ints xs), .fn f0 [.bx [.int .i64 a, .int .i64 b] 0]] => bif Nat.beq f0 199 then some (.one (.d (.int .i64 (idxI (fun p => inB p a b) xs)))) else none
  | _ => none
def slices_ContainsFunc_int_int_iT_C (f : FuncId) (ds : List D) : Orc := bif Nat.beq f 164 then slices_IndexFunc_int_int_iT_orc ds else .no
def slices_ContainsFunc_int_int_iT_A (xs : List Int) (a : Int) (b : Int) : Ann := .none
def slices_ContainsFunc_int_int_iT_P (xs : List Int) (a : Int) (b : Int) : Prop :=
  (PC Try.prog 164 [.sl (.ints xs), .fn 199 [.bx [.int .i64 a, .int .i64 b] 0]] (.one (.d (.int .i64 (idxI (fun p => inB p a b) xs))))) ∧ (((decide ((idxI (fun p => inB p a b) xs) ≥ 0)) = (xs.any (fun p => inB p a b))))
theorem slices_ContainsFunc_int_int_iT_vc (xs : List Int) (a : Int) (b : Int)  (w_xs : (xs.length : Int) ≤ 9223372036854775807) : slices_ContainsFunc_int_int_iT_P xs a b := by
  unfold slices_ContainsFunc_int_int_iT_P
  refine ⟨slices_IndexFunc_int_int_iT_pc xs a b, ?_⟩
  · exact idx_any _ _
theorem slices_ContainsFunc_int_int_iT_pc (xs : List Int) (a : Int) (b : Int)  : PC Try.prog 96 [.sl (.ints xs), .fn 199 [.bx [.int .i64 a, .int .i64 b] 0]] (.one (.d (.bool (xs.any (fun p => inB p a b))))) :=
  pc_wf @Try.call96 fun hw => pc_by (by kernel_rfl) Try.func96 @Try.call96 (by kernel_rfl) slices_ContainsFunc_int_int_iT_C (slices_ContainsFunc_int_int_iT_A xs a b) (by kernel_rfl) (slices_ContainsFunc_int_int_iT_vc xs a b hw.1) (by kernel_rfl)
def slices_ContainsFunc_int_int_iT_orc : List D → Orc := orcN [some .ints, none] fun ds => match ds with
  | [.sl (.ints xs), .fn f0 [.bx [.int .i64 a, .int .i64 b] 0]] => bif Nat.beq f0 199 then some (.one (.d (.bool (xs.any (fun p => inB p a b))))) else none
  | _ => none
def i_isStabbed_C (f : FuncId) (ds : List D) : Orc := bif Nat.beq f 96 then slices_ContainsFunc_int_int_iT_orc ds else .no
def i_isStabbed_A (a : Int) (b : Int) (points : List Int) : Ann := .none
def i_isStabbed_P (a : Int) (b : Int) (points : List Int) : Prop :=
  (PC Try.prog 96 [.sl (.ints points), .fn 199 [.bx [.int .i64 a, .int .i64 b] 0]] (.one (.d (.bool (points.any (fun p => inB p a b)))))) ∧ (((points.any (fun p => inB p a b)) = (stabbed a b points)))
theorem i_isStabbed_vc (a : Int) (b : Int) (points : List Int)  (w_points : (points.length : Int) ≤ 9223372036854775807) : i_isStabbed_P a b points := by
  unfold i_isStabbed_P
  refine ⟨slices_ContainsFunc_int_int_iT_pc points a b, ?_⟩
  · first | omega | rfl | (intro hg; simp only [nrmT] at hg; omega) | (intro g1 g2; simp [g1, g2]; done) | (intro g1; simp at g1 ⊢; simp [g1]; done) | (simp only [nrmT] at *; omega) | (simp at * <;> omega) | (simp_all <;> omega) | (simp_all; done)
theorem i_isStabbed_pc (a : Int) (b : Int) (points : List Int)  : PC Try.prog 157 [.agg [.int .i64 a, .int .i64 b], .sl (.ints points)] (.one (.d (.bool (stabbed a b points)))) :=
  pc_wf @Try.call157 fun hw => pc_by (by kernel_rfl) Try.func157 @Try.call157 (by kernel_rfl) i_isStabbed_C (i_isStabbed_A a b points) (by kernel_rfl) (i_isStabbed_vc a b points hw.2.1) (by kernel_rfl)
def i_isStabbed_orc : List D → Orc := orcN [none, some .ints] fun ds => match ds with
  | [.agg [.int .i64 a, .int .i64 b], .sl (.ints points)] => some (.one (.d (.bool (stabbed a b points))))
  | _ => none
abbrev s_l6Stabbed_JJ0 (a : Int) (b : Int) (points : List Int) (i : Int) : Prop := (0 ≤ i) ∧ (i ≤ (points.length : Int)) ∧ (allTo (fun k => !(inB (points.getD k 0) a b)) i.toNat = true)
abbrev s_l6Stabbed_mJ0 (a : Int) (b : Int) (points : List Int) (i : Int) : Nat := (points.length - i).toNat
def s_l6Stabbed_C (f : FuncId) (ds : List D) : Orc := bif Nat.beq f 104 then s_l1In_orc ds else .no
def s_l6Stabbed_A (a : Int) (b : Int) (points : List Int) : Ann := .two (.none) (.two (.two (.none) (.loop (cut1 (fun (i : Int) => s_l6Stabbed_JJ0 a b points i) (fun (i : Int) => [(1, .d false (.sl (.ints points))), (2, .ptr 2 0), (5, .d true (.int .i64 i))]) (fun (i : Int) => [(2, .box 30 [.d false (.int .i64 a), .d false (.int .i64 b)])])) (fun g => s_l6Stabbed_mJ0 a b points g) (fun _ => .none))) (.none))
def s_l6Stabbed_P (a : Int) (b : Int) (points : List Int) : Prop :=
  ((∃ i' : Int, (s_l6Stabbed_JJ0 a b points i') ∧ (points = points) ∧ ((0 : Int) = i') ∧ (a = a) ∧ (b = b)) ∧ (∀ i : Int, (s_l6Stabbed_JJ0 a b points i) → (((decide (i < (points.length : Int))) = true → (true = true) ∧ ((0 : Int) ≤ i) ∧ ((i : Int) < points.length) ∧ (i.toNat < points.length) ∧ ((0 : Int) ≤ 0) ∧ ((0 : Int) < 2) ∧ ((0 : Int) ≤ 1) ∧ ((1 : Int) < 2) ∧ (PC Try.prog 104 [.int .i64 (points.getD i.toNat 0), .int .i64 a, .int .i64 b] (.one (.d (.bool (inB (points.getD i.toNat 0) a b))))) ∧ (((inB (points.getD i.toNat 0) a b) = true → ((true = (stabbed a b points)))) ∧ ((inB (points.getD i.toNat 0) a b) = false → (-9223372036854775808 ≤ (i + 1) ∧ (i + 1) ≤ 9223372036854775807) ∧ (∃ i' : Int, (s_l6Stabbed_JJ0 a b points i') ∧ (s_l6Stabbed_mJ0 a b points i' < s_l6Stabbed_mJ0 a b points i) ∧ (points = points) ∧ ((i + 1) = i') ∧ (a = a) ∧ (b = b))))) ∧ ((decide (i < (points.length : Int))) = false → ((false = (stabbed a b points)))))))
theorem s_l6Stabbed_vc (a : Int) (b : Int) (points : List Int)  (w_points : (points.length : Int) ≤ 9223372036854775807) : s_l6Stabbed_P a b points := by
  unfold s_l6Stabbed_P
  refine ⟨?_, ?_⟩
  · refine ⟨0, ?_⟩
    refine ⟨?_, rfl, rfl, rfl, rfl⟩
    · refine ⟨?_, ?_, ?_⟩
      · first | omega | rfl | (intro hg; simp only [nrmT] at hg; omega) | (intro g1 g2; simp [g1, g2]; done) | (intro g1; simp at g1 ⊢; simp [g1]; done) | (simp only [nrmT] at *; omega) | (simp at * <;> omega) | (simp_all <;> omega) | (simp_all; done)
      · first | omega | rfl | (intro hg; simp only [nrmT] at hg; omega) | (intro g1 g2; simp [g1, g2]; done) | (intro g1; simp at g1 ⊢; simp [g1]; done) | (simp only [nrmT] at *; omega) | (simp at * <;> omega) | (simp_all <;> omega) | (simp_all; done)
      · first | omega | rfl | (intro hg; simp only [nrmT] at hg; omega) | (intro g1 g2; simp [g1, g2]; done) | (intro g1; simp at g1 ⊢; simp [g1]; done) | (simp only [nrmT] at *; omega) | (simp at * <;> omega) | (simp_all <;> omega) | (simp_all; done)
  · intro i hJ
    obtain ⟨h1, h2, h3⟩ := hJ
    refine ⟨?_, ?_⟩
    · intro b1
      try simp only [nrmT] at b1
      refine ⟨rfl, ?_, ?_, ?_, by decide, by decide, by decide, by decide, s_l1In_pc (points.getD i.toNat 0) a b, ?_, ?_⟩
      · first | omega | rfl | (intro hg; simp only [nrmT] at hg; omega) | (intro g1 g2; simp [g1, g2]; done) | (intro g1; simp at g1 ⊢; simp [g1]; done) | (simp only [nrmT] at *; omega) | (simp at * <;> omega) | (simp_all <;> omega) | (simp_all; done)
      · first | omega | rfl | (intro hg; simp only [nrmT] at hg; omega) | (intro g1 g2; simp [g1, g2]; done) | (intro g1; simp at g1 ⊢; simp [g1]; done) | (simp only [nrmT] at *; omega) | (simp at * <;> omega) | (simp_all <;> omega) | (simp_all; done)
      · first | omega | rfl | (intro hg; simp only [nrmT] at hg; omega) | (intro g1 g2; simp [g1, g2]; done) | (intro g1; simp at g1 ⊢; simp [g1]; done) | (simp only [nrmT] at *; omega) | (simp at * <;> omega) | (simp_all <;> omega) | (simp_all; done)
      · intro b2
        try simp only [nrmT] at b2
        exact (List.any_eq_true.2 ⟨_, getD_memI (d := 0) h1 (by omega), b2⟩).symm
      · intro b3
        try simp only [nrmT] at b3
        refine ⟨?_, ?_⟩
        · first | omega | rfl | (intro hg; simp only [nrmT] at hg; omega) | (intro g1 g2; simp [g1, g2]; done) | (intro g1; simp at g1 ⊢; simp [g1]; done) | (simp only [nrmT] at *; omega) | (simp at * <;> omega) | (simp_all <;> omega) | (simp_all; done)
        · refine ⟨(i + 1), ?_⟩
          refine ⟨?_, ?_, rfl, rfl, rfl, rfl⟩
          · refine ⟨?_, ?_, ?_⟩
            · first | omega | rfl | (intro hg; simp only [nrmT] at hg; omega) | (intro g1 g2; simp [g1, g2]; done) | (intro g1; simp at g1 ⊢; simp [g1]; done) | (simp only [nrmT] at *; omega) | (simp at * <;> omega) | (simp_all <;> omega) | (simp_all; done)
            · first | omega | rfl | (intro hg; simp only [nrmT] at hg; omega) | (intro g1 g2; simp [g1, g2]; done) | (intro g1; simp at g1 ⊢; simp [g1]; done) | (simp only [nrmT] at *; omega) | (simp at * <;> omega) | (simp_all <;> omega) | (simp_all; done)
            · exact allTo_step h1 h3 (by simpa using b3)
          · first | (show _ < _; omega) | (simp only [s_l6Stabbed_mJ0]; omega) | (simp only [s_l6Stabbed_mJ0] at *; simp at *; omega)
    · intro b4
      try simp only [nrmT] at b4
      have h := all_end (p := fun p => !(inB p a b)) (d := 0) (by omega) h2 h3
      rw [← any_all_not] at h
      unfold stabbed
      cases hs : points.any fun p => inB p a b with
      | false => rfl
      | true => rw [hs] at h; cases h
theorem s_l6Stabbed_pc (a : Int) (b : Int) (points : List Int)  : PC Try.prog 158 [.agg [.int .i64 a, .int .i64 b], .sl (.ints points)] (.one (.d (.bool (stabbed a b points)))) :=
  pc_wf @Try.call158 fun hw => pc_by (by kernel_rfl) Try.func158 @Try.call158 (by kernel_rfl) s_l6Stabbed_C (s_l6Stabbed_A a b points) (by kernel_rfl) (s_l6Stabbed_vc a b points hw.2.1) (by kernel_rfl)
def s_l6Stabbed_orc : List D → Orc := orcN [none, some .ints] fun ds => match ds with
  | [.agg [.int .i64 a, .int .i64 b], .sl (.ints points)] => some (.one (.d (.bool (stabbed a b points))))
  | _ => none
abbrev i_stab_JJ0 (list : List (Int × Int)) (points : List Int) (fs : List Int) : Prop := (stabs list points fs = stabs list [] []) ∧ (points.length + unst list points ≤ list.length) ∧ (fs.length = points.length)
abbrev i_stab_mJ0 (list : List (Int × Int)) (points : List Int) (fs : List Int) : Nat := unst list points
abbrev i_stab_JJ1 (list : List (Int × Int)) (points : List Int) (fs : List Int) (best : Int) (i : Int) : Prop := (0 ≤ i) ∧ (i ≤ (list.length : Int)) ∧ (best = nextTo list points i.toNat)
abbrev i_stab_mJ1 (list : List (Int × Int)) (points : List Int) (fs : List Int) (best : Int) (i : Int) : Nat := (list.length - i).toNat
def i_stab_C (f : FuncId) (ds : List D) : Orc := bif Nat.beq f 157 then i_isStabbed_orc ds else .no
def i_stab_A (list : List (Int × Int)) : Ann := .two (.none) (.two (.none) (.loop (cut2 (fun (points : List Int) (fs : List Int) => i_stab_JJ0 list points fs) (fun (points : List Int) (fs : List Int) => [(0, .d false (.sl (.pairs list))), (4, .own 1000000 points.length), (5, .own 1000001 fs.length)]) (fun (points : List Int) (fs : List Int) => [(1000000, .arr true 3 (.ints points)), (1000001, .arr true 3 (.ints fs))])) (fun g => i_stab_mJ0 list g.1 g.2) (fun g => (fun (points : List Int) (fs : List Int) => .two (.none) (.two (.two (.none) (.loop (cut2 (fun (best : Int) (i : Int) => i_stab_JJ1 list points fs best i) (fun (best : Int) (i : Int) => [(0, .d false (.sl (.pairs list))), (4, .own 1000000 points.length), (5, .own 1000001 fs.length), (6, .d true (.int .i64 best)), (11, .d false (.sl (.pairs list))), (12, .d true (.int .i64 (list.length : Int))), (13, .d true (.int .i64 i))]) (fun (best : Int) (i : Int) => [(1000000, .arr true 3 (.ints points)), (1000001, .arr true 3 (.ints fs))])) (fun g => i_stab_mJ1 list points fs g.1 g.2) (fun _ => .none))) (.none))) (g.1) (g.2))))
def i_stab_P (list : List (Int × Int)) : Prop :=
  ((∃ points' : List Int, ∃ fs' : List Int, (i_stab_JJ0 list points' fs') ∧ (list = list) ∧ ((0 : Nat) = points'.length) ∧ ((0 : Nat) = fs'.length) ∧ ([] = points') ∧ ([] = fs')) ∧ (∀ points : List Int, ∀ fs : List Int, (i_stab_JJ0 list points fs) → ((∃ best' : Int, ∃ i' : Int, (i_stab_JJ1 list points fs best' i') ∧ (list = list) ∧ (points.length = points.length) ∧ (fs.length = fs.length) ∧ (((-1) : Int) = best') ∧ (list = list) ∧ ((list.length : Int) = (list.length : Int)) ∧ ((0 : Int) = i') ∧ (points = points) ∧ (fs = fs)) ∧ (∀ best : Int, ∀ i : Int, (i_stab_JJ1 list points fs best i) → (((decide (i < (list.length : Int))) = true → ((0 : Int) ≤ i) ∧ ((i : Int) < list.length) ∧ (i.toNat < list.length) ∧ (true = true) ∧ (points.length = points.length) ∧ (PC Try.prog 157 [.agg [.int .i64 ((list.getD i.toNat (0, 0)).1), .int .i64 ((list.getD i.toNat (0, 0)).2)], .sl (.ints points)] (.one (.d (.bool (stabbed ((list.getD i.toNat (0, 0)).1) ((list.getD i.toNat (0, 0)).2) points))))) ∧ ((!(stabbed ((list.getD i.toNat (0, 0)).1) ((list.getD i.toNat (0, 0)).2) points)) = true → (!(stabbed ((list.getD i.toNat (0, 0)).1) ((list.getD i.toNat (0, 0)).2) points)) = true) ∧ ((!(stabbed ((list.getD i.toNat (0, 0)).1) ((list.getD i.toNat (0, 0)).2) points)) = true → (!(stabbed ((list.getD i.toNat (0, 0)).1) ((list.getD i.toNat (0, 0)).2) points)) = true) ∧ ((((!(stabbed ((list.getD i.toNat (0, 0)).1) ((list.getD i.toNat (0, 0)).2) points)) && (!(decide (best < 0)))) = true → (0 : Int) ≤ 1)) ∧ ((((!(stabbed ((list.getD i.toNat (0, 0)).1) ((list.getD i.toNat (0, 0)).2) points)) && (!(decide (best < 0)))) = true → (1 : Int) < 2)) ∧ (((!(stabbed ((list.getD i.toNat (0, 0)).1) ((list.getD i.toNat (0, 0)).2) points)) && (!(decide (best < 0)))) = true → ((!(stabbed ((list.getD i.toNat (0, 0)).1) ((list.getD i.toNat (0, 0)).2) points)) && (!(decide (best < 0)))) = true) ∧ (((!(stabbed ((list.getD i.toNat (0, 0)).1) ((list.getD i.toNat (0, 0)).2) points)) && (!(decide (best < 0)))) = true → ((!(stabbed ((list.getD i.toNat (0, 0)).1) ((list.getD i.toNat (0, 0)).2) points)) && (!(decide (best < 0)))) = true) ∧ (((!(stabbed ((list.getD i.toNat (0, 0)).1) ((list.getD i.toNat (0, 0)).2) points)) && (!(decide (best < 0)))) = true → ((!(stabbed ((list.getD i.toNat (0, 0)).1) ((list.getD i.toNat (0, 0)).2) points)) && (!(decide (best < 0)))) = true) ∧ ((((!(stabbed ((list.getD i.toNat (0, 0)).1) ((list.getD i.toNat (0, 0)).2) points)) && (!(decide (best < 0)))) = true → (0 : Int) ≤ best)) ∧ ((((!(stabbed ((list.getD i.toNat (0, 0)).1) ((list.getD i.toNat (0, 0)).2) points)) && (!(decide (best < 0)))) = true → (best : Int) < list.length)) ∧ (((!(stabbed ((list.getD i.toNat (0, 0)).1) ((list.getD i.toNat (0, 0)).2) points)) && (!(decide (best < 0)))) = true → ((!(stabbed ((list.getD i.toNat (0, 0)).1) ((list.getD i.toNat (0, 0)).2) points)) && (!(decide (best < 0)))) = true) ∧ ((((!(stabbed ((list.getD i.toNat (0, 0)).1) ((list.getD i.toNat (0, 0)).2) points)) && (!(decide (best < 0)))) = true → (0 : Int) ≤ 1)) ∧ ((((!(stabbed ((list.getD i.toNat (0, 0)).1) ((list.getD i.toNat (0, 0)).2) points)) && (!(decide (best < 0)))) = true → (1 : Int) < 2)) ∧ (((!(stabbed ((list.getD i.toNat (0, 0)).1) ((list.getD i.toNat (0, 0)).2) points)) && (!(decide (best < 0)))) = true → ((!(stabbed ((list.getD i.toNat (0, 0)).1) ((list.getD i.toNat (0, 0)).2) points)) && (!(decide (best < 0)))) = true) ∧ ((((!(stabbed ((list.getD i.toNat (0, 0)).1) ((list.getD i.toNat (0, 0)).2) points)) && (!(decide (best < 0)))) = true → best.toNat < list.length)) ∧ (((!(stabbed ((list.getD i.toNat (0, 0)).1) ((list.getD i.toNat (0, 0)).2) points)) && (!(decide (best < 0)))) = true → ((!(stabbed ((list.getD i.toNat (0, 0)).1) ((list.getD i.toNat (0, 0)).2) points)) && (!(decide (best < 0)))) = true) ∧ (((!(stabbed ((list.getD i.toNat (0, 0)).1) ((list.getD i.toNat (0, 0)).2) points)) && (!(decide (best < 0)))) = true → ((!(stabbed ((list.getD i.toNat (0, 0)).1) ((list.getD i.toNat (0, 0)).2) points)) && (!(decide (best < 0)))) = true) ∧ (((!(stabbed ((list.getD i.toNat (0, 0)).1) ((list.getD i.toNat (0, 0)).2) points)) = true → (!(stabbed ((list.getD i.toNat (0, 0)).1) ((list.getD i.toNat (0, 0)).2) points)) = true)) ∧ (((!(stabbed ((list.getD i.toNat (0, 0)).1) ((list.getD i.toNat (0, 0)).2) points)) = true → (decide (best < 0)) = true → true = true)) ∧ (((!(stabbed ((list.getD i.toNat (0, 0)).1) ((list.getD i.toNat (0, 0)).2) points)) = true → (decide (best < 0)) = false → ((!(stabbed ((list.getD i.toNat (0, 0)).1) ((list.getD i.toNat (0, 0)).2) points)) && (!(decide (best < 0)))) = true)) ∧ (true = true) ∧ (((!(stabbed ((list.getD i.toNat (0, 0)).1) ((list.getD i.toNat (0, 0)).2) points)) = true → (!(stabbed ((list.getD i.toNat (0, 0)).1) ((list.getD i.toNat (0, 0)).2) points)) = true)) ∧ (((!(stabbed ((list.getD i.toNat (0, 0)).1) ((list.getD i.toNat (0, 0)).2) points)) = false → true = true)) ∧ (((cond (!(stabbed ((list.getD i.toNat (0, 0)).1) ((list.getD i.toNat (0, 0)).2) points)) (cond (decide (best < 0)) true (decide ((list.getD i.toNat (0, 0)).2 < (list.getD best.toNat (0, 0)).2))) false) = true → (-9223372036854775808 ≤ (i + 1) ∧ (i + 1) ≤ 9223372036854775807) ∧ (∃ best' : Int, ∃ i' : Int, (i_stab_JJ1 list points fs best' i') ∧ (i_stab_mJ1 list points fs best' i' < i_stab_mJ1 list points fs best i) ∧ (list = list) ∧ (points.length = points.length) ∧ (fs.length = fs.length) ∧ (i = best') ∧ (list = list) ∧ ((list.length : Int) = (list.length : Int)) ∧ ((i + 1) = i') ∧ (points = points) ∧ (fs = fs))) ∧ ((cond (!(stabbed ((list.getD i.toNat (0, 0)).1) ((list.getD i.toNat (0, 0)).2) points)) (cond (decide (best < 0)) true (decide ((list.getD i.toNat (0, 0)).2 < (list.getD best.toNat (0, 0)).2))) false) = false → (-9223372036854775808 ≤ (i + 1) ∧ (i + 1) ≤ 9223372036854775807) ∧ (∃ best' : Int, ∃ i' : Int, (i_stab_JJ1 list points fs best' i') ∧ (i_stab_mJ1 list points fs best' i' < i_stab_mJ1 list points fs best i) ∧ (list = list) ∧ (points.length = points.length) ∧ (fs.length = fs.length) ∧ (best = best') ∧ (list = list) ∧ ((list.length : Int) = (list.length : Int)) ∧ ((i + 1) = i') ∧ (points = points) ∧ (fs = fs))))) ∧ ((decide (i < (list.length : Int))) = false → (((decide (best < 0)) = true → ((points.length = points.length) ∧ ((points : List Int) = (stabs list [] []).1) ∧ (fs.length = fs.length) ∧ ((fs : List Int) = (stabs list [] []).2))) ∧ ((decide (best < 0)) = false → ((0 : Int) ≤ best) ∧ ((best : Int) < list.length) ∧ ((0 : Int) ≤ 1) ∧ ((1 : Int) < 2) ∧ (best.toNat < list.length) ∧ (points.length = points.length) ∧ ((1 : Nat) = 1) ∧ ((points.length + 1) * 8 ≤ 140737488355328) ∧ (fs.length = fs.length) ∧ ((1 : Nat) = 1) ∧ ((fs.length + 1) * 8 ≤ 140737488355328) ∧ (∃ points' : List Int, ∃ fs' : List Int, (i_stab_JJ0 list points' fs') ∧ (i_stab_mJ0 list points' fs' < i_stab_mJ0 list points fs) ∧ (list = list) ∧ ((points.length + 1) = points'.length) ∧ ((fs.length + 1) = fs'.length) ∧ ((points ++ [(list.getD best.toNat (0, 0)).2]) = points') ∧ ((fs ++ [best]) = fs'))))))))))
theorem i_stab_vc (list : List (Int × Int)) (hg : goodIvs list = true) (w_list : (list.length : Int) ≤ 9223372036854775807) : i_stab_P list := by
  unfold i_stab_P
  refine ⟨?_, ?_⟩
  · refine ⟨([]), ([]), ?_⟩
    refine ⟨?_, rfl, rfl, rfl, ?_, ?_⟩
    · refine ⟨?_, ?_, ?_⟩
      · first | omega | rfl | (intro hg; simp only [nrmT] at hg; omega) | (intro g1 g2; simp [g1, g2]; done) | (intro g1; simp at g1 ⊢; simp [g1]; done) | (simp only [nrmT] at *; omega) | (simp at * <;> omega) | (simp_all <;> omega) | (simp_all; done)
      · have := unst_le list []
        simp only [List.length_nil]; omega
      · first | omega | rfl | (intro hg; simp only [nrmT] at hg; omega) | (intro g1 g2; simp [g1, g2]; done) | (intro g1; simp at g1 ⊢; simp [g1]; done) | (simp only [nrmT] at *; omega) | (simp at * <;> omega) | (simp_all <;> omega) | (simp_all; done)
    · first | omega | rfl | (intro hg; simp only [nrmT] at hg; omega) | (intro g1 g2; simp [g1, g2]; done) | (intro g1; simp at g1 ⊢; simp [g1]; done) | (simp only [nrmT] at *; omega) | (simp at * <;> omega) | (simp_all <;> omega) | (simp_all; done)
    · first | omega | rfl | (intro hg; simp only [nrmT] at hg; omega) | (intro g1 g2; simp [g1, g2]; done) | (intro g1; simp at g1 ⊢; simp [g1]; done) | (simp only [nrmT] at *; omega) | (simp at * <;> omega) | (simp_all <;> omega) | (simp_all; done)
  · intro points fs hJ
    obtain ⟨h1, h2, h3⟩ := hJ
    refine ⟨?_, ?_⟩
    · refine ⟨(-1), 0, ?_⟩
      refine ⟨?_, rfl, rfl, rfl, rfl, rfl, rfl, rfl, rfl, rfl⟩
      · refine ⟨?_, ?_, ?_⟩
        · first | omega | rfl | (intro hg; simp only [nrmT] at hg; omega) | (intro g1 g2; simp [g1, g2]; done) | (intro g1; simp at g1 ⊢; simp [g1]; done) | (simp only [nrmT] at *; omega) | (simp at * <;> omega) | (simp_all <;> omega) | (simp_all; done)
        · first | omega | rfl | (intro hg; simp only [nrmT] at hg; omega) | (intro g1 g2; simp [g1, g2]; done) | (intro g1; simp at g1 ⊢; simp [g1]; done) | (simp only [nrmT] at *; omega) | (simp at * <;> omega) | (simp_all <;> omega) | (simp_all; done)
        · first | omega | rfl | (intro hg; simp only [nrmT] at hg; omega) | (intro g1 g2; simp [g1, g2]; done) | (intro g1; simp at g1 ⊢; simp [g1]; done) | (simp only [nrmT] at *; omega) | (simp at * <;> omega) | (simp_all <;> omega) | (simp_all; done)
    · intro best i hJ
      obtain ⟨h4, h5, h6⟩ := hJ
      refine ⟨?_, ?_⟩
      · intro b1
        try simp only [nrmT] at b1
        refine ⟨?_, ?_, ?_, rfl, rfl, i_isStabbed_pc ((list.getD i.toNat (0, 0)).1) ((list.getD i.toNat (0, 0)).2) points, id, id, fun _ => by decide, fun _ => by decide, id, id, id, ?_, ?_, id, fun _ => by decide, fun _ => by decide, id, ?_, id, id, id, fun _ _ => rfl, ?_, rfl, id, fun _ => rfl, ?_, ?_⟩
        · first | omega | rfl | (intro hg; simp only [nrmT] at hg; omega) | (intro g1 g2; simp [g1, g2]; done) | (intro g1; simp at g1 ⊢; simp [g1]; done) | (simp only [nrmT] at *; omega) | (simp at * <;> omega) | (simp_all <;> omega) | (simp_all; done)
        · first | omega | rfl | (intro hg; simp only [nrmT] at hg; omega) | (intro g1 g2; simp [g1, g2]; done) | (intro g1; simp at g1 ⊢; simp [g1]; done) | (simp only [nrmT] at *; omega) | (simp at * <;> omega) | (simp_all <;> omega) | (simp_all; done)
        · first | omega | rfl | (intro hg; simp only [nrmT] at hg; omega) | (intro g1 g2; simp [g1, g2]; done) | (intro g1; simp at g1 ⊢; simp [g1]; done) | (simp only [nrmT] at *; omega) | (simp at * <;> omega) | (simp_all <;> omega) | (simp_all; done)
        · first | omega | rfl | (intro hg; simp only [nrmT] at hg; omega) | (intro g1 g2; simp [g1, g2]; done) | (intro g1; simp at g1 ⊢; simp [g1]; done) | (simp only [nrmT] at *; omega) | (simp at * <;> omega) | (simp_all <;> omega) | (simp_all; done)
        · first | (intro _; have := (nextTo_facts list points i.toNat).1; omega) | (have := (nextTo_facts list points i.toNat).1; omega)
        · first | (intro _; have := (nextTo_facts list points i.toNat).1; omega) | (have := (nextTo_facts list points i.toNat).1; omega)
        · first | omega | rfl | (intro hg; simp only [nrmT] at hg; omega) | (intro g1 g2; simp [g1, g2]; done) | (intro g1; simp at g1 ⊢; simp [g1]; done) | (simp only [nrmT] at *; omega) | (simp at * <;> omega) | (simp_all <;> omega) | (simp_all; done)
        · intro b2
          refine ⟨?_, ?_⟩
          · first | omega | rfl | (intro hg; simp only [nrmT] at hg; omega) | (intro g1 g2; simp [g1, g2]; done) | (intro g1; simp at g1 ⊢; simp [g1]; done) | (simp only [nrmT] at *; omega) | (simp at * <;> omega) | (simp_all <;> omega) | (simp_all; done)
          · refine ⟨i, (i + 1), ?_⟩
            refine ⟨?_, ?_, rfl, rfl, rfl, rfl, rfl, rfl, rfl, rfl, rfl⟩
            · refine ⟨?_, ?_, ?_⟩
              · first | omega | rfl | (intro hg; simp only [nrmT] at hg; omega) | (intro g1 g2; simp [g1, g2]; done) | (intro g1; simp at g1 ⊢; simp [g1]; done) | (simp only [nrmT] at *; omega) | (simp at * <;> omega) | (simp_all <;> omega) | (simp_all; done)
              · first | omega | rfl | (intro hg; simp only [nrmT] at hg; omega) | (intro g1 g2; simp [g1, g2]; done) | (intro g1; simp at g1 ⊢; simp [g1]; done) | (simp only [nrmT] at *; omega) | (simp at * <;> omega) | (simp_all <;> omega) | (simp_all; done)
              · rw [cond_and_or] at b2
                rw [show (i + 1).toNat = i.toNat + 1 by omega, nextTo_succ, ← h6]
                unfold nextF
                rw [if_pos b2]; omega
            · first | (show _ < _; omega) | (simp only [i_stab_mJ1]; omega) | (simp only [i_stab_mJ1] at *; simp at *; omega)
        · intro b3
          refine ⟨?_, ?_⟩
          · first | omega | rfl | (intro hg; simp only [nrmT] at hg; omega) | (intro g1 g2; simp [g1, g2]; done) | (intro g1; simp at g1 ⊢; simp [g1]; done) | (simp only [nrmT] at *; omega) | (simp at * <;> omega) | (simp_all <;> omega) | (simp_all; done)
          · refine ⟨best, (i + 1), ?_⟩
            refine ⟨?_, ?_, rfl, rfl, rfl, rfl, rfl, rfl, rfl, rfl, rfl⟩
            · refine ⟨?_, ?_, ?_⟩
              · first | omega | rfl | (intro hg; simp only [nrmT] at hg; omega) | (intro g1 g2; simp [g1, g2]; done) | (intro g1; simp at g1 ⊢; simp [g1]; done) | (simp only [nrmT] at *; omega) | (simp at * <;> omega) | (simp_all <;> omega) | (simp_all; done)
              · first | omega | rfl | (intro hg; simp only [nrmT] at hg; omega) | (intro g1 g2; simp [g1, g2]; done) | (intro g1; simp at g1 ⊢; simp [g1]; done) | (simp only [nrmT] at *; omega) | (simp at * <;> omega) | (simp_all <;> omega) | (simp_all; done)
              · rw [cond_and_or] at b3
                rw [show (i + 1).toNat = i.toNat + 1 by omega, nextTo_succ, ← h6]
                unfold nextF
                rw [if_neg (by rw [b3]; decide)]
            · first | (show _ < _; omega) | (simp only [i_stab_mJ1]; omega) | (simp only [i_stab_mJ1] at *; simp at *; omega)
      · intro b4
        try simp only [nrmT] at b4
        refine ⟨?_, ?_⟩
        · intro b5
          try simp only [nrmT] at b5
          refine ⟨rfl, ?_, rfl, ?_⟩
          · have eb : best = nextIv list points := by unfold nextIv; rw [h6, show i.toNat = list.length by omega]
            rw [← h1, stabs_stop (by rw [← eb]; omega)]
          · have eb : best = nextIv list points := by unfold nextIv; rw [h6, show i.toNat = list.length by omega]
            rw [← h1, stabs_stop (by rw [← eb]; omega)]
        · intro b6
          try simp only [nrmT] at b6
          refine ⟨?_, ?_, by decide, by decide, ?_, rfl, rfl, ?_, rfl, rfl, ?_, ?_⟩
          · first | omega | rfl | (intro hg; simp only [nrmT] at hg; omega) | (intro g1 g2; simp [g1, g2]; done) | (intro g1; simp at g1 ⊢; simp [g1]; done) | (simp only [nrmT] at *; omega) | (simp at * <;> omega) | (simp_all <;> omega) | (simp_all; done)
          · first | (intro _; have := (nextTo_facts list points i.toNat).1; omega) | (have := (nextTo_facts list points i.toNat).1; omega)
          · first | (intro _; have := (nextTo_facts list points i.toNat).1; omega) | (have := (nextTo_facts list points i.toNat).1; omega)
          · have := goodIvs_len hg
            omega
          · have := goodIvs_len hg
            omega
          · refine ⟨(points ++ [(list.getD best.toNat (0, 0)).2]), (fs ++ [best]), ?_⟩
            refine ⟨?_, ?_, rfl, ?_, ?_, rfl, rfl⟩
            · refine ⟨?_, ?_, ?_⟩
              · have eb : best = nextIv list points := by unfold nextIv; rw [h6, show i.toNat = list.length by omega]
                rw [← h1, eb]
                exact stabs_step hg (by rw [← eb]; omega)
              · have eb : best = nextIv list points := by unfold nextIv; rw [h6, show i.toNat = list.length by omega]
                have := unst_step hg (points := points) (by rw [← eb]; omega)
                rw [eb]
                simp only [List.length_append, List.length_cons, List.length_nil]
                omega
              · simp [h3]
            · have eb : best = nextIv list points := by unfold nextIv; rw [h6, show i.toNat = list.length by omega]
              have := unst_step hg (points := points) (by rw [← eb]; omega)
              show unst list _ < unst list points
              rw [eb]; exact this
            · simp
            · simp
theorem i_stab_pc (list : List (Int × Int)) (hg : goodIvs list = true) : PC Try.prog 88 [.sl (.pairs list)] (.tup [.own 3 (.ints ((stabs list [] []).1)), .own 3 (.ints ((stabs list [] []).2))]) :=
  pc_wf @Try.call88 fun hw => pc_by (by kernel_rfl) Try.func88 @Try.call88 (by kernel_rfl) i_stab_C (i_stab_A list) (by kernel_rfl) (i_stab_vc list hg hw.1) (by kernel_rfl)
def i_stab_orc : List D → Orc := orcN [some .pairs] fun ds => match ds with
  | [.sl (.pairs list)] => some (.tup [.own 3 (.ints ((stabs list [] []).1)), .own 3 (.ints ((stabs list [] []).2))])
  | _ => none
abbrev s_l6Points_JJ0 (list : List (Int × Int)) (points : List Int) (fs : List Int) : Prop := (stabs list points fs = stabs list [] []) ∧ (points.length + unst list points ≤ list.length) ∧ (fs.length = points.length)
abbrev s_l6Points_mJ0 (list : List (Int × Int)) (points : List Int) (fs : List Int) : Nat := unst list points
abbrev s_l6Points_JJ1 (list : List (Int × Int)) (points : List Int) (fs : List Int) (best : Int) (i : Int) : Prop := (0 ≤ i) ∧ (i ≤ (list.length : Int)) ∧ (best = nextTo list points i.toNat)
abbrev s_l6Points_mJ1 (list : List (Int × Int)) (points : List Int) (fs : List Int) (best : Int) (i : Int) : Nat := (list.length - i).toNat
def s_l6Points_C (f : FuncId) (ds : List D) : Orc := bif Nat.beq f 158 then s_l6Stabbed_orc ds else .no
def s_l6Points_A (list : List (Int × Int)) : Ann := .two (.none) (.two (.none) (.loop (cut2 (fun (points : List Int) (fs : List Int) => s_l6Points_JJ0 list points fs) (fun (points : List Int) (fs : List Int) => [(0, .d false (.sl (.pairs list))), (4, .own 1000000 points.length), (5, .own 1000001 fs.length)]) (fun (points : List Int) (fs : List Int) => [(1000000, .arr true 3 (.ints points)), (1000001, .arr true 3 (.ints fs))])) (fun g => s_l6Points_mJ0 list g.1 g.2) (fun g => (fun (points : List Int) (fs : List Int) => .two (.none) (.two (.two (.none) (.loop (cut2 (fun (best : Int) (i : Int) => s_l6Points_JJ1 list points fs best i) (fun (best : Int) (i : Int) => [(0, .d false (.sl (.pairs list))), (4, .own 1000000 points.length), (5, .own 1000001 fs.length), (6, .d true (.int .i64 best)), (7, .d true (.int .i64 i))]) (fun (best : Int) (i : Int) => [(1000000, .arr true 3 (.ints points)), (1000001, .arr true 3 (.ints fs))])) (fun g => s_l6Points_mJ1 list points fs g.1 g.2) (fun _ => .none))) (.none))) (g.1) (g.2))))
def s_l6Points_P (list : List (Int × Int)) : Prop :=
  ((∃ points' : List Int, ∃ fs' : List Int, (s_l6Points_JJ0 list points' fs') ∧ (list = list) ∧ ((0 : Nat) = points'.length) ∧ ((0 : Nat) = fs'.length) ∧ ([] = points') ∧ ([] = fs')) ∧ (∀ points : List Int, ∀ fs : List Int, (s_l6Points_JJ0 list points fs) → ((∃ best' : Int, ∃ i' : Int, (s_l6Points_JJ1 list points fs best' i') ∧ (list = list) ∧ (points.length = points.length) ∧ (fs.length = fs.length) ∧ (((-1) : Int) = best') ∧ ((0 : Int) = i') ∧ (points = points) ∧ (fs = fs)) ∧ (∀ best : Int, ∀ i : Int, (s_l6Points_JJ1 list points fs best i) → (((decide (i < (list.length : Int))) = true → (true = true) ∧ ((0 : Int) ≤ i) ∧ ((i : Int) < list.length) ∧ (i.toNat < list.length) ∧ (points.length = points.length) ∧ (PC Try.prog 158 [.agg [.int .i64 ((list.getD i.toNat (0, 0)).1), .int .i64 ((list.getD i.toNat (0, 0)).2)], .sl (.ints points)] (.one (.d (.bool (stabbed ((list.getD i.toNat (0, 0)).1) ((list.getD i.toNat (0, 0)).2) points))))) ∧ ((!(stabbed ((list.getD i.toNat (0, 0)).1) ((list.getD i.toNat (0, 0)).2) points)) = true → (!(stabbed ((list.getD i.toNat (0, 0)).1) ((list.getD i.toNat (0, 0)).2) points)) = true) ∧ ((!(stabbed ((list.getD i.toNat (0, 0)).1) ((list.getD i.toNat (0, 0)).2) points)) = true → (!(stabbed ((list.getD i.toNat (0, 0)).1) ((list.getD i.toNat (0, 0)).2) points)) = true) ∧ (((!(stabbed ((list.getD i.toNat (0, 0)).1) ((list.getD i.toNat (0, 0)).2) points)) && (!(decide (best < 0)))) = true → ((!(stabbed ((list.getD i.toNat (0, 0)).1) ((list.getD i.toNat (0, 0)).2) points)) && (!(decide (best < 0)))) = true) ∧ (((!(stabbed ((list.getD i.toNat (0, 0)).1) ((list.getD i.toNat (0, 0)).2) points)) && (!(decide (best < 0)))) = true → ((!(stabbed ((list.getD i.toNat (0, 0)).1) ((list.getD i.toNat (0, 0)).2) points)) && (!(decide (best < 0)))) = true) ∧ ((((!(stabbed ((list.getD i.toNat (0, 0)).1) ((list.getD i.toNat (0, 0)).2) points)) && (!(decide (best < 0)))) = true → (0 : Int) ≤ i)) ∧ ((((!(stabbed ((list.getD i.toNat (0, 0)).1) ((list.getD i.toNat (0, 0)).2) points)) && (!(decide (best < 0)))) = true → (i : Int) < list.length)) ∧ (((!(stabbed ((list.getD i.toNat (0, 0)).1) ((list.getD i.toNat (0, 0)).2) points)) && (!(decide (best < 0)))) = true → ((!(stabbed ((list.getD i.toNat (0, 0)).1) ((list.getD i.toNat (0, 0)).2) points)) && (!(decide (best < 0)))) = true) ∧ ((((!(stabbed ((list.getD i.toNat (0, 0)).1) ((list.getD i.toNat (0, 0)).2) points)) && (!(decide (best < 0)))) = true → (0 : Int) ≤ 1)) ∧ ((((!(stabbed ((list.getD i.toNat (0, 0)).1) ((list.getD i.toNat (0, 0)).2) points)) && (!(decide (best < 0)))) = true → (1 : Int) < 2)) ∧ (((!(stabbed ((list.getD i.toNat (0, 0)).1) ((list.getD i.toNat (0, 0)).2) points)) && (!(decide (best < 0)))) = true → ((!(stabbed ((list.getD i.toNat (0, 0)).1) ((list.getD i.toNat (0, 0)).2) points)) && (!(decide (best < 0)))) = true) ∧ ((((!(stabbed ((list.getD i.toNat (0, 0)).1) ((list.getD i.toNat (0, 0)).2) points)) && (!(decide (best < 0)))) = true → i.toNat < list.length)) ∧ (((!(stabbed ((list.getD i.toNat (0, 0)).1) ((list.getD i.toNat (0, 0)).2) points)) && (!(decide (best < 0)))) = true → ((!(stabbed ((list.getD i.toNat (0, 0)).1) ((list.getD i.toNat (0, 0)).2) points)) && (!(decide (best < 0)))) = true) ∧ (((!(stabbed ((list.getD i.toNat (0, 0)).1) ((list.getD i.toNat (0, 0)).2) points)) && (!(decide (best < 0)))) = true → ((!(stabbed ((list.getD i.toNat (0, 0)).1) ((list.getD i.toNat (0, 0)).2) points)) && (!(decide (best < 0)))) = true) ∧ ((((!(stabbed ((list.getD i.toNat (0, 0)).1) ((list.getD i.toNat (0, 0)).2) points)) && (!(decide (best < 0)))) = true → (0 : Int) ≤ best)) ∧ ((((!(stabbed ((list.getD i.toNat (0, 0)).1) ((list.getD i.toNat (0, 0)).2) points)) && (!(decide (best < 0)))) = true → (best : Int) < list.length)) ∧ (((!(stabbed ((list.getD i.toNat (0, 0)).1) ((list.getD i.toNat (0, 0)).2) points)) && (!(decide (best < 0)))) = true → ((!(stabbed ((list.getD i.toNat (0, 0)).1) ((list.getD i.toNat (0, 0)).2) points)) && (!(decide (best < 0)))) = true) ∧ ((((!(stabbed ((list.getD i.toNat (0, 0)).1) ((list.getD i.toNat (0, 0)).2) points)) && (!(decide (best < 0)))) = true → (0 : Int) ≤ 1)) ∧ ((((!(stabbed ((list.getD i.toNat (0, 0)).1) ((list.getD i.toNat (0, 0)).2) points)) && (!(decide (best < 0)))) = true → (1 : Int) < 2)) ∧ (((!(stabbed ((list.getD i.toNat (0, 0)).1) ((list.getD i.toNat (0, 0)).2) points)) && (!(decide (best < 0)))) = true → ((!(stabbed ((list.getD i.toNat (0, 0)).1) ((list.getD i.toNat (0, 0)).2) points)) && (!(decide (best < 0)))) = true) ∧ ((((!(stabbed ((list.getD i.toNat (0, 0)).1) ((list.getD i.toNat (0, 0)).2) points)) && (!(decide (best < 0)))) = true → best.toNat < list.length)) ∧ (((!(stabbed ((list.getD i.toNat (0, 0)).1) ((list.getD i.toNat (0, 0)).2) points)) && (!(decide (best < 0)))) = true → ((!(stabbed ((list.getD i.toNat (0, 0)).1) ((list.getD i.toNat (0, 0)).2) points)) && (!(decide (best < 0)))) = true) ∧ (((!(stabbed ((list.getD i.toNat (0, 0)).1) ((list.getD i.toNat (0, 0)).2) points)) && (!(decide (best < 0)))) = true → ((!(stabbed ((list.getD i.toNat (0, 0)).1) ((list.getD i.toNat (0, 0)).2) points)) && (!(decide (best < 0)))) = true) ∧ (((!(stabbed ((list.getD i.toNat (0, 0)).1) ((list.getD i.toNat (0, 0)).2) points)) = true → (!(stabbed ((list.getD i.toNat (0, 0)).1) ((list.getD i.toNat (0, 0)).2) points)) = true)) ∧ (((!(stabbed ((list.getD i.toNat (0, 0)).1) ((list.getD i.toNat (0, 0)).2) points)) = true → (decide (best < 0)) = true → true = true)) ∧ (((!(stabbed ((list.getD i.toNat (0, 0)).1) ((list.getD i.toNat (0, 0)).2) points)) = true → (decide (best < 0)) = false → ((!(stabbed ((list.getD i.toNat (0, 0)).1) ((list.getD i.toNat (0, 0)).2) points)) && (!(decide (best < 0)))) = true)) ∧ (true = true) ∧ (((!(stabbed ((list.getD i.toNat (0, 0)).1) ((list.getD i.toNat (0, 0)).2) points)) = true → (!(stabbed ((list.getD i.toNat (0, 0)).1) ((list.getD i.toNat (0, 0)).2) points)) = true)) ∧ (((!(stabbed ((list.getD i.toNat (0, 0)).1) ((list.getD i.toNat (0, 0)).2) points)) = false → true = true)) ∧ (((cond (!(stabbed ((list.getD i.toNat (0, 0)).1) ((list.getD i.toNat (0, 0)).2) points)) (cond (decide (best < 0)) true (decide ((list.getD i.toNat (0, 0)).2 < (list.getD best.toNat (0, 0)).2))) false) = true → (-9223372036854775808 ≤ (i + 1) ∧ (i + 1) ≤ 9223372036854775807) ∧ (∃ best' : Int, ∃ i' : Int, (s_l6Points_JJ1 list points fs best' i') ∧ (s_l6Points_mJ1 list points fs best' i' < s_l6Points_mJ1 list points fs best i) ∧ (list = list) ∧ (points.length = points.length) ∧ (fs.length = fs.length) ∧ (i = best') ∧ ((i + 1) = i') ∧ (points = points) ∧ (fs = fs))) ∧ ((cond (!(stabbed ((list.getD i.toNat (0, 0)).1) ((list.getD i.toNat (0, 0)).2) points)) (cond (decide (best < 0)) true (decide ((list.getD i.toNat (0, 0)).2 < (list.getD best.toNat (0, 0)).2))) false) = false → (-9223372036854775808 ≤ (i + 1) ∧ (i + 1) ≤ 9223372036854775807) ∧ (∃ best' : Int, ∃ i' : Int, (s_l6Points_JJ1 list points fs best' i') ∧ (s_l6Points_mJ1 list points fs best' i' < s_l6Points_mJ1 list points fs best i) ∧ (list = list) ∧ (points.length = points.length) ∧ (fs.length = fs.length) ∧ (best = best') ∧ ((i + 1) = i') ∧ (points = points) ∧ (fs = fs))))) ∧ ((decide (i < (list.length : Int))) = false → (((decide (best < 0)) = true → ((points.length = points.length) ∧ ((points : List Int) = (stabs list [] []).1) ∧ (fs.length = fs.length) ∧ ((fs : List Int) = (stabs list [] []).2))) ∧ ((decide (best < 0)) = false → ((0 : Int) ≤ best) ∧ ((best : Int) < list.length) ∧ ((0 : Int) ≤ 1) ∧ ((1 : Int) < 2) ∧ (best.toNat < list.length) ∧ (points.length = points.length) ∧ ((1 : Nat) = 1) ∧ ((points.length + 1) * 8 ≤ 140737488355328) ∧ (fs.length = fs.length) ∧ ((1 : Nat) = 1) ∧ ((fs.length + 1) * 8 ≤ 140737488355328) ∧ (∃ points' : List Int, ∃ fs' : List Int, (s_l6Points_JJ0 list points' fs') ∧ (s_l6Points_mJ0 list points' fs' < s_l6Points_mJ0 list points fs) ∧ (list = list) ∧ ((points.length + 1) = points'.length) ∧ ((fs.length + 1) = fs'.length) ∧ ((points ++ [(list.getD best.toNat (0, 0)).2]) = points') ∧ ((fs ++ [best]) = fs'))))))))))
theorem s_l6Points_vc (list : List (Int × Int)) (hg : goodIvs list = true) (w_list : (list.length : Int) ≤ 9223372036854775807) : s_l6Points_P list := by
  unfold s_l6Points_P
  refine ⟨?_, ?_⟩
  · refine ⟨([]), ([]), ?_⟩
    refine ⟨?_, rfl, rfl, rfl, ?_, ?_⟩
    · refine ⟨?_, ?_, ?_⟩
      · first | omega | rfl | (intro hg; simp only [nrmT] at hg; omega) | (intro g1 g2; simp [g1, g2]; done) | (intro g1; simp at g1 ⊢; simp [g1]; done) | (simp only [nrmT] at *; omega) | (simp at * <;> omega) | (simp_all <;> omega) | (simp_all; done)
      · have := unst_le list []
        simp only [List.length_nil]; omega
      · first | omega | rfl | (intro hg; simp only [nrmT] at hg; omega) | (intro g1 g2; simp [g1, g2]; done) | (intro g1; simp at g1 ⊢; simp [g1]; done) | (simp only [nrmT] at *; omega) | (simp at * <;> omega) | (simp_all <;> omega) | (simp_all; done)
    · first | omega | rfl | (intro hg; simp only [nrmT] at hg; omega) | (intro g1 g2; simp [g1, g2]; done) | (intro g1; simp at g1 ⊢; simp [g1]; done) | (simp only [nrmT] at *; omega) | (simp at * <;> omega) | (simp_all <;> omega) | (simp_all; done)
    · first | omega | rfl | (intro hg; simp only [nrmT] at hg; omega) | (intro g1 g2; simp [g1, g2]; done) | (intro g1; simp at g1 ⊢; simp [g1]; done) | (simp only [nrmT] at *; omega) | (simp at * <;> omega) | (simp_all <;> omega) | (simp_all; done)
  · intro points fs hJ
    obtain ⟨h1, h2, h3⟩ := hJ
    refine ⟨?_, ?_⟩
    · refine ⟨(-1), 0, ?_⟩
      refine ⟨?_, rfl, rfl, rfl, rfl, rfl, rfl, rfl⟩
      · refine ⟨?_, ?_, ?_⟩
        · first | omega | rfl | (intro hg; simp only [nrmT] at hg; omega) | (intro g1 g2; simp [g1, g2]; done) | (intro g1; simp at g1 ⊢; simp [g1]; done) | (simp only [nrmT] at *; omega) | (simp at * <;> omega) | (simp_all <;> omega) | (simp_all; done)
        · first | omega | rfl | (intro hg; simp only [nrmT] at hg; omega) | (intro g1 g2; simp [g1, g2]; done) | (intro g1; simp at g1 ⊢; simp [g1]; done) | (simp only [nrmT] at *; omega) | (simp at * <;> omega) | (simp_all <;> omega) | (simp_all; done)
        · first | omega | rfl | (intro hg; simp only [nrmT] at hg; omega) | (intro g1 g2; simp [g1, g2]; done) | (intro g1; simp at g1 ⊢; simp [g1]; done) | (simp only [nrmT] at *; omega) | (simp at * <;> omega) | (simp_all <;> omega) | (simp_all; done)
    · intro best i hJ
      obtain ⟨h4, h5, h6⟩ := hJ
      refine ⟨?_, ?_⟩
      · intro b1
        try simp only [nrmT] at b1
        refine ⟨rfl, ?_, ?_, ?_, rfl, s_l6Stabbed_pc ((list.getD i.toNat (0, 0)).1) ((list.getD i.toNat (0, 0)).2) points, id, id, id, id, ?_, ?_, id, fun _ => by decide, fun _ => by decide, id, ?_, id, id, ?_, ?_, id, fun _ => by decide, fun _ => by decide, id, ?_, id, id, id, fun _ _ => rfl, ?_, rfl, id, fun _ => rfl, ?_, ?_⟩
        · first | omega | rfl | (intro hg; simp only [nrmT] at hg; omega) | (intro g1 g2; simp [g1, g2]; done) | (intro g1; simp at g1 ⊢; simp [g1]; done) | (simp only [nrmT] at *; omega) | (simp at * <;> omega) | (simp_all <;> omega) | (simp_all; done)
        · first | omega | rfl | (intro hg; simp only [nrmT] at hg; omega) | (intro g1 g2; simp [g1, g2]; done) | (intro g1; simp at g1 ⊢; simp [g1]; done) | (simp only [nrmT] at *; omega) | (simp at * <;> omega) | (simp_all <;> omega) | (simp_all; done)
        · first | omega | rfl | (intro hg; simp only [nrmT] at hg; omega) | (intro g1 g2; simp [g1, g2]; done) | (intro g1; simp at g1 ⊢; simp [g1]; done) | (simp only [nrmT] at *; omega) | (simp at * <;> omega) | (simp_all <;> omega) | (simp_all; done)
        · intro _; omega
        · intro _; omega
        · intro _; omega
        · first | omega | rfl | (intro hg; simp only [nrmT] at hg; omega) | (intro g1 g2; simp [g1, g2]; done) | (intro g1; simp at g1 ⊢; simp [g1]; done) | (simp only [nrmT] at *; omega) | (simp at * <;> omega) | (simp_all <;> omega) | (simp_all; done)
        · first | (intro _; have := (nextTo_facts list points i.toNat).1; omega) | (have := (nextTo_facts list points i.toNat).1; omega)
        · first | (intro _; have := (nextTo_facts list points i.toNat).1; omega) | (have := (nextTo_facts list points i.toNat).1; omega)
        · first | omega | rfl | (intro hg; simp only [nrmT] at hg; omega) | (intro g1 g2; simp [g1, g2]; done) | (intro g1; simp at g1 ⊢; simp [g1]; done) | (simp only [nrmT] at *; omega) | (simp at * <;> omega) | (simp_all <;> omega) | (simp_all; done)
        · intro b2
          refine ⟨?_, ?_⟩
          · first | omega | rfl | (intro hg; simp only [nrmT] at hg; omega) | (intro g1 g2; simp [g1, g2]; done) | (intro g1; simp at g1 ⊢; simp [g1]; done) | (simp only [nrmT] at *; omega) | (simp at * <;> omega) | (simp_all <;> omega) | (simp_all; done)
          · refine ⟨i, (i + 1), ?_⟩
            refine ⟨?_, ?_, rfl, rfl, rfl, rfl, rfl, rfl, rfl⟩
            · refine ⟨?_, ?_, ?_⟩
              · first | omega | rfl | (intro hg; simp only [nrmT] at hg; omega) | (intro g1 g2; simp [g1, g2]; done) | (intro g1; simp at g1 ⊢; simp [g1]; done) | (simp only [nrmT] at *; omega) | (simp at * <;> omega) | (simp_all <;> omega) | (simp_all; done)
              · first | omega | rfl | (intro hg; simp only [nrmT] at hg; omega) | (intro g1 g2; simp [g1, g2]; done) | (intro g1; simp at g1 ⊢; simp [g1]; done) | (simp only [nrmT] at *; omega) | (simp at * <;> omega) | (simp_all <;> omega) | (simp_all; done)
              · rw [cond_and_or] at b2
                rw [show (i + 1).toNat = i.toNat + 1 by omega, nextTo_succ, ← h6]
                unfold nextF
                rw [if_pos b2]; omega
            · first | (show _ < _; omega) | (simp only [s_l6Points_mJ1]; omega) | (simp only [s_l6Points_mJ1] at *; simp at *; omega)
        · intro b3
          refine ⟨?_, ?_⟩
          · first | omega | rfl | (intro hg; simp only [nrmT] at hg; omega) | (intro g1 g2; simp [g1, g2]; done) | (intro g1; simp at g1 ⊢; simp [g1]; done) | (simp only [nrmT] at *; omega) | (simp at * <;> omega) | (simp_all <;> omega) | (simp_all; done)
          · refine ⟨best, (i + 1), ?_⟩
            refine ⟨?_, ?_, rfl, rfl, rfl, rfl, rfl, rfl, rfl⟩
            · refine ⟨?_, ?_, ?_⟩
              · first | omega | rfl | (intro hg; simp only [nrmT] at hg; omega) | (intro g1 g2; simp [g1, g2]; done) | (intro g1; simp at g1 ⊢; simp [g1]; done) | (simp only [nrmT] at *; omega) | (simp at * <;> omega) | (simp_all <;> omega) | (simp_all; done)
              · first | omega | rfl | (intro hg; simp only [nrmT] at hg; omega) | (intro g1 g2; simp [g1, g2]; done) | (intro g1; simp at g1 ⊢; simp [g1]; done) | (simp only [nrmT] at *; omega) | (simp at * <;> omega) | (simp_all <;> omega) | (simp_all; done)
              · rw [cond_and_or] at b3
                rw [show (i + 1).toNat = i.toNat + 1 by omega, nextTo_succ, ← h6]
                unfold nextF
                rw [if_neg (by rw [b3]; decide)]
            · first | (show _ < _; omega) | (simp only [s_l6Points_mJ1]; omega) | (simp only [s_l6Points_mJ1] at *; simp at *; omega)
      · intro b4
        try simp only [nrmT] at b4
        refine ⟨?_, ?_⟩
        · intro b5
          try simp only [nrmT] at b5
          refine ⟨rfl, ?_, rfl, ?_⟩
          · have eb : best = nextIv list points := by unfold nextIv; rw [h6, show i.toNat = list.length by omega]
            rw [← h1, stabs_stop (by rw [← eb]; omega)]
          · have eb : best = nextIv list points := by unfold nextIv; rw [h6, show i.toNat = list.length by omega]
            rw [← h1, stabs_stop (by rw [← eb]; omega)]
        · intro b6
          try simp only [nrmT] at b6
          refine ⟨?_, ?_, by decide, by decide, ?_, rfl, rfl, ?_, rfl, rfl, ?_, ?_⟩
          · first | omega | rfl | (intro hg; simp only [nrmT] at hg; omega) | (intro g1 g2; simp [g1, g2]; done) | (intro g1; simp at g1 ⊢; simp [g1]; done) | (simp only [nrmT] at *; omega) | (simp at * <;> omega) | (simp_all <;> omega) | (simp_all; done)
          · first | (intro _; have := (nextTo_facts list points i.toNat).1; omega) | (have := (nextTo_facts list points i.toNat).1; omega)
          · first | (intro _; have := (nextTo_facts list points i.toNat).1; omega) | (have := (nextTo_facts list points i.toNat).1; omega)
          · have := goodIvs_len hg
            omega
          · have := goodIvs_len hg
            omega
          · refine ⟨(points ++ [(list.getD best.toNat (0, 0)).2]), (fs ++ [best]), ?_⟩
            refine ⟨?_, ?_, rfl, ?_, ?_, rfl, rfl⟩
            · refine ⟨?_, ?_, ?_⟩
              · have eb : best = nextIv list points := by unfold nextIv; rw [h6, show i.toNat = list.length by omega]
                rw [← h1, eb]
                exact stabs_step hg (by rw [← eb]; omega)
              · have eb : best = nextIv list points := by unfold nextIv; rw [h6, show i.toNat = list.length by omega]
                have := unst_step hg (points := points) (by rw [← eb]; omega)
                rw [eb]
                simp only [List.length_append, List.length_cons, List.length_nil]
                omega
              · simp [h3]
            · have eb : best = nextIv list points := by unfold nextIv; rw [h6, show i.toNat = list.length by omega]
              have := unst_step hg (points := points) (by rw [← eb]; omega)
              show unst list _ < unst list points
              rw [eb]; exact this
            · simp
            · simp
theorem s_l6Points_pc (list : List (Int × Int)) (hg : goodIvs list = true) : PC Try.prog 90 [.sl (.pairs list)] (.tup [.own 3 (.ints ((stabs list [] []).1)), .own 3 (.ints ((stabs list [] []).2))]) :=
  pc_wf @Try.call90 fun hw => pc_by (by kernel_rfl) Try.func90 @Try.call90 (by kernel_rfl) s_l6Points_C (s_l6Points_A list) (by kernel_rfl) (s_l6Points_vc list hg hw.1) (by kernel_rfl)
def s_l6Points_orc : List D → Orc := orcN [some .pairs] fun ds => match ds with
  | [.sl (.pairs list)] => some (.tup [.own 3 (.ints ((stabs list [] []).1)), .own 3 (.ints ((stabs list [] []).2))])
  | _ => none
def i_ApartIntervals_C (f : FuncId) (ds : List D) : Orc := bif Nat.beq f 87 then i_areIntervals_orc ds else bif Nat.beq f 88 then i_stab_orc ds else .no
def i_ApartIntervals_A (list : List (Int × Int)) : Ann := .none
def i_ApartIntervals_P (list : List (Int × Int)) : Prop :=
  (PC Try.prog 87 [.sl (.pairs list)] (.one (.d (.bool (goodIvs list))))) ∧ (((!(goodIvs list)) = true → (((stabB list).length = 0) ∧ (false = (goodIvs list)))) ∧ ((!(goodIvs list)) = false → (PC Try.prog 88 [.sl (.pairs list)] (.tup [.own 3 (.ints ((stabs list [] []).1)), .own 3 (.ints ((stabs list [] []).2))])) ∧ ((((stabs list [] []).2).length = ((stabs list [] []).2).length) ∧ (((stabs list [] []).2 : List Int) = stabB list) ∧ (true = (goodIvs list)))))
theorem i_ApartIntervals_vc (list : List (Int × Int))  (w_list : (list.length : Int) ≤ 9223372036854775807) : i_ApartIntervals_P list := by
  unfold i_ApartIntervals_P
  refine ⟨i_areIntervals_pc list, ?_, ?_⟩
  · intro b1
    try simp only [nrmT] at b1
    refine ⟨?_, ?_⟩
    · unfold stabB; rw [b1]; rfl
    · rw [b1]
  · intro b2
    try simp only [nrmT] at b2
    refine ⟨?_, rfl, ?_, ?_⟩
    · refine i_stab_pc list ?_
      · exact b2
    · unfold stabB; rw [if_pos b2]
    · rw [b2]
theorem i_ApartIntervals_pc (list : List (Int × Int))  : PC Try.prog 28 [.sl (.pairs list)] (.tup [.own 3 (.ints (stabB list)), .d (.bool (goodIvs list))]) :=
  pc_wf @Try.call28 fun hw => pc_by (by kernel_rfl) Try.func28 @Try.call28 (by kernel_rfl) i_ApartIntervals_C (i_ApartIntervals_A list) (by kernel_rfl) (i_ApartIntervals_vc list hw.1) (by kernel_rfl)
def i_ApartIntervals_orc : List D → Orc := orcN [some .pairs] fun ds => match ds with
  | [.sl (.pairs list)] => some (.tup [.own 3 (.ints (stabB list)), .d (.bool (goodIvs list))])
  | _ => none
def s_ApartIntervals_C (f : FuncId) (ds : List D) : Orc := bif Nat.beq f 89 then s_l6Intervals_orc ds else bif Nat.beq f 90 then s_l6Points_orc ds else .no
def s_ApartIntervals_A (list : List (Int × Int)) : Ann := .none
def s_ApartIntervals_P (list : List (Int × Int)) : Prop :=
  (PC Try.prog 89 [.sl (.pairs list)] (.one (.d (.bool (goodIvs list))))) ∧ (((!(goodIvs list)) = true → (((0 : Nat) = 0) ∧ (([] : List Int) = (stabB list)) ∧ (false = (goodIvs list)))) ∧ ((!(goodIvs list)) = false → (PC Try.prog 90 [.sl (.pairs list)] (.tup [.own 3 (.ints ((stabs list [] []).1)), .own 3 (.ints ((stabs list [] []).2))])) ∧ ((((stabs list [] []).2).length = ((stabs list [] []).2).length) ∧ (((stabs list [] []).2 : List Int) = (stabB list)) ∧ (true = (goodIvs list)))))
theorem s_ApartIntervals_vc (list : List (Int × Int))  (w_list : (list.length : Int) ≤ 9223372036854775807) : s_ApartIntervals_P list := by
  unfold s_ApartIntervals_P
  refine ⟨s_l6Intervals_pc list, ?_, ?_⟩
  · intro b1
    try simp only [nrmT] at b1
    refine ⟨rfl, ?_, ?_⟩
    · unfold stabB; rw [b1]; rfl
    · rw [b1]
  · intro b2
    try simp only [nrmT] at b2
    refine ⟨?_, rfl, ?_, ?_⟩
    · refine s_l6Points_pc list ?_
      · exact b2
    · unfold stabB; rw [if_pos b2]
    · rw [b2]
theorem s_ApartIntervals_pc (list : List (Int × Int))  : PC Try.prog 29 [.sl (.pairs list)] (.tup [.d (.sl (.ints (stabB list))), .d (.bool (goodIvs list))]) :=
  pc_wf @Try.call29 fun hw => pc_by (by kernel_rfl) Try.func29 @Try.call29 (by kernel_rfl) s_ApartIntervals_C (s_ApartIntervals_A list) (by kernel_rfl) (s_ApartIntervals_vc list hw.1) (by kernel_rfl)
def s_ApartIntervals_orc : List D → Orc := orcN [some .pairs] fun ds => match ds with
  | [.sl (.pairs list)] => some (.tup [.d (.sl (.ints (stabB list))), .d (.bool (goodIvs list))])
  | _ => none
def l_toIntA2_C (f : FuncId) (ds : List D) : Orc := .no
def l_toIntA2_A (a : Int) (b : Int) : Ann := .two (.none) (.two (.none) (.two (.two (.none) (.unr (.two (.two (.none) (.goT (.none))) (.none)) (.unr (.two (.two (.none) (.goT (.none))) (.none)) (.unr (.two (.two (.none) (.goF (.none))) (.none)) (.none))))) (.none)))
def l_toIntA2_P (a : Int) (b : Int) : Prop :=
  (true = true) ∧ ((0 : Int) ≤ 0) ∧ ((0 : Int) < 2) ∧ ((0 : Int) ≤ 0) ∧ ((0 : Int) < 2) ∧ (-9223372036854775808 ≤ (1 : Int) ∧ (1 : Int) ≤ 9223372036854775807) ∧ (true = true) ∧ ((0 : Int) ≤ 1) ∧ ((1 : Int) < 2) ∧ ((0 : Int) ≤ 1) ∧ ((1 : Int) < 2) ∧ (-9223372036854775808 ≤ (2 : Int) ∧ (2 : Int) ≤ 9223372036854775807) ∧ (false = false) ∧ (((.agg [.int .i64 a, .int .i64 b] : D) = .agg [.int .i64 a, .int .i64 b]))
theorem l_toIntA2_vc (a : Int) (b : Int)   : l_toIntA2_P a b := by
  unfold l_toIntA2_P
  refine ⟨rfl, by decide, by decide, by decide, by decide, ?_, rfl, by decide, by decide, by decide, by decide, ?_, rfl, rfl⟩
  · first | omega | rfl | (intro hg; simp only [nrmT] at hg; omega) | (intro g1 g2; simp [g1, g2]; done) | (intro g1; simp at g1 ⊢; simp [g1]; done) | (simp only [nrmT] at *; omega) | (simp at * <;> omega) | (simp_all <;> omega) | (simp_all; done)
  · first | omega | rfl | (intro hg; simp only [nrmT] at hg; omega) | (intro g1 g2; simp [g1, g2]; done) | (intro g1; simp at g1 ⊢; simp [g1]; done) | (simp only [nrmT] at *; omega) | (simp at * <;> omega) | (simp_all <;> omega) | (simp_all; done)
theorem l_toIntA2_pc (a : Int) (b : Int)  : PC Try.prog 91 [.agg [.int .i64 a, .int .i64 b]] (.one (.d (.agg [.int .i64 a, .int .i64 b]))) :=
  pc_wf @Try.call91 fun _ => pc_by (by kernel_rfl) Try.func91 @Try.call91 (by kernel_rfl) l_toIntA2_C (l_toIntA2_A a b) (by kernel_rfl) (l_toIntA2_vc a b) (by kernel_rfl)
def l_toIntA2_orc : List D → Orc := orcN [none] fun ds => match ds with
  | [.agg [.int .i64 a, .int .i64 b]] => some (.one (.d (.agg [.int .i64 a, .int .i64 b])))
  | _ => none
abbrev l_toIntA2S_JJ0 (xs : List (Int × Int)) (out : List (Int × Int)) (i : Int) : Prop := (0 ≤ i) ∧ (i ≤ (xs.length : Int)) ∧ (out = xs.take i.toNat ++ (List.replicate xs.length (0, 0)).drop i.toNat)
abbrev l_toIntA2S_mJ0 (xs : List (Int × Int)) (out : List (Int × Int)) (i : Int) : Nat := (xs.length - i).toNat
def l_toIntA2S_C (f : FuncId) (ds : List D) : Orc := bif Nat.beq f 91 then l_toIntA2_orc ds else .no
def l_toIntA2S_A (xs : List (Int × Int)) : Ann := .two (.none) (.two (.none) (.two (.two (.none) (.loop (cut2 (fun (out : List (Int × Int)) (i : Int) => l_toIntA2S_JJ0 xs out i) (fun (out : List (Int × Int)) (i : Int) => [(0, .d false (.sl (.pairs xs))), (3, .own 7 out.length), (4, .d true (.int .i64 i))]) (fun (out : List (Int × Int)) (i : Int) => [(7, .arr true 30 (.pairs out))])) (fun g => l_toIntA2S_mJ0 xs g.1 g.2) (fun _ => .none))) (.none)))
def l_toIntA2S_P (xs : List (Int × Int)) : Prop :=
  ((xs.length : Int) = (xs.length : Int)) ∧ ((0 : Int) ≤ (xs.length : Int)) ∧ (((xs.length : Int) : Int) * ((16 : Nat) : Int) ≤ 140737488355328) ∧ ((∃ out' : List (Int × Int), ∃ i' : Int, (l_toIntA2S_JJ0 xs out' i') ∧ (xs = xs) ∧ ((xs.length : Int).toNat = out'.length) ∧ ((0 : Int) = i') ∧ ((List.replicate ((xs.length : Int).toNat) ((0 : Int), (0 : Int))) = out')) ∧ (∀ out : List (Int × Int), ∀ i : Int, (l_toIntA2S_JJ0 xs out i) → (((decide (i < (xs.length : Int))) = true → ((0 : Int) ≤ i) ∧ ((i : Int) < xs.length) ∧ (i.toNat < xs.length) ∧ (PC Try.prog 91 [.agg [.int .i64 ((xs.getD i.toNat (0, 0)).1), .int .i64 ((xs.getD i.toNat (0, 0)).2)]] (.one (.d (.agg [.int .i64 ((xs.getD i.toNat (0, 0)).1), .int .i64 ((xs.getD i.toNat (0, 0)).2)])))) ∧ ((0 : Int) ≤ i) ∧ ((i : Int) < (out.length : Int)) ∧ (i.toNat < out.length) ∧ (-9223372036854775808 ≤ (i + 1) ∧ (i + 1) ≤ 9223372036854775807) ∧ (∃ out' : List (Int × Int), ∃ i' : Int, (l_toIntA2S_JJ0 xs out' i') ∧ (l_toIntA2S_mJ0 xs out' i' < l_toIntA2S_mJ0 xs out i) ∧ (xs = xs) ∧ (out.length = out'.length) ∧ ((i + 1) = i') ∧ ((out.set i.toNat (((xs.getD i.toNat (0, 0)).1), ((xs.getD i.toNat (0, 0)).2))) = out'))) ∧ ((decide (i < (xs.length : Int))) = false → ((out.length = out.length) ∧ ((out : List (Int × Int)) = xs))))))
theorem l_toIntA2S_vc (xs : List (Int × Int)) (hn : xs.length ≤ 1048576) (w_xs : (xs.length : Int) ≤ 9223372036854775807) : l_toIntA2S_P xs := by
  unfold l_toIntA2S_P
  refine ⟨rfl, ?_, ?_, ?_, ?_⟩
  · first | omega | rfl | (intro hg; simp only [nrmT] at hg; omega) | (intro g1 g2; simp [g1, g2]; done) | (intro g1; simp at g1 ⊢; simp [g1]; done) | (simp only [nrmT] at *; omega) | (simp at * <;> omega) | (simp_all <;> omega) | (simp_all; done)
  · first | omega | rfl | (intro hg; simp only [nrmT] at hg; omega) | (intro g1 g2; simp [g1, g2]; done) | (intro g1; simp at g1 ⊢; simp [g1]; done) | (simp only [nrmT] at *; omega) | (simp at * <;> omega) | (simp_all <;> omega) | (simp_all; done)
  · refine ⟨(List.replicate ((xs.length : Int).toNat) ((0 : Int), (0 : Int))), 0, ?_⟩
    refine ⟨?_, rfl, ?_, rfl, rfl⟩
    · refine ⟨?_, ?_, ?_⟩
      · first | omega | rfl | (intro hg; simp only [nrmT] at hg; omega) | (intro g1 g2; simp [g1, g2]; done) | (intro g1; simp at g1 ⊢; simp [g1]; done) | (simp only [nrmT] at *; omega) | (simp at * <;> omega) | (simp_all <;> omega) | (simp_all; done)
      · first | omega | rfl | (intro hg; simp only [nrmT] at hg; omega) | (intro g1 g2; simp [g1, g2]; done) | (intro g1; simp at g1 ⊢; simp [g1]; done) | (simp only [nrmT] at *; omega) | (simp at * <;> omega) | (simp_all <;> omega) | (simp_all; done)
      · simp
    · simp
  · intro out i hJ
    obtain ⟨h1, h2, h3⟩ := hJ
    refine ⟨?_, ?_⟩
    · intro b1
      try simp only [nrmT] at b1
      refine ⟨?_, ?_, ?_, l_toIntA2_pc ((xs.getD i.toNat (0, 0)).1) ((xs.getD i.toNat (0, 0)).2), ?_, ?_, ?_, ?_, ?_⟩
      · first | omega | rfl | (intro hg; simp only [nrmT] at hg; omega) | (intro g1 g2; simp [g1, g2]; done) | (intro g1; simp at g1 ⊢; simp [g1]; done) | (simp only [nrmT] at *; omega) | (simp at * <;> omega) | (simp_all <;> omega) | (simp_all; done)
      · first | omega | rfl | (intro hg; simp only [nrmT] at hg; omega) | (intro g1 g2; simp [g1, g2]; done) | (intro g1; simp at g1 ⊢; simp [g1]; done) | (simp only [nrmT] at *; omega) | (simp at * <;> omega) | (simp_all <;> omega) | (simp_all; done)
      · first | omega | rfl | (intro hg; simp only [nrmT] at hg; omega) | (intro g1 g2; simp [g1, g2]; done) | (intro g1; simp at g1 ⊢; simp [g1]; done) | (simp only [nrmT] at *; omega) | (simp at * <;> omega) | (simp_all <;> omega) | (simp_all; done)
      · first | omega | rfl | (intro hg; simp only [nrmT] at hg; omega) | (intro g1 g2; simp [g1, g2]; done) | (intro g1; simp at g1 ⊢; simp [g1]; done) | (simp only [nrmT] at *; omega) | (simp at * <;> omega) | (simp_all <;> omega) | (simp_all; done)
      · have e : out.length = xs.length := by rw [h3]; exact copy_len (by omega) (by simp)
        omega
      · have e : out.length = xs.length := by rw [h3]; exact copy_len (by omega) (by simp)
        omega
      · first | omega | rfl | (intro hg; simp only [nrmT] at hg; omega) | (intro g1 g2; simp [g1, g2]; done) | (intro g1; simp at g1 ⊢; simp [g1]; done) | (simp only [nrmT] at *; omega) | (simp at * <;> omega) | (simp_all <;> omega) | (simp_all; done)
      · refine ⟨(out.set i.toNat (((xs.getD i.toNat (0, 0)).1), ((xs.getD i.toNat (0, 0)).2))), (i + 1), ?_⟩
        refine ⟨?_, ?_, rfl, ?_, rfl, rfl⟩
        · refine ⟨?_, ?_, ?_⟩
          · first | omega | rfl | (intro hg; simp only [nrmT] at hg; omega) | (intro g1 g2; simp [g1, g2]; done) | (intro g1; simp at g1 ⊢; simp [g1]; done) | (simp only [nrmT] at *; omega) | (simp at * <;> omega) | (simp_all <;> omega) | (simp_all; done)
          · first | omega | rfl | (intro hg; simp only [nrmT] at hg; omega) | (intro g1 g2; simp [g1, g2]; done) | (intro g1; simp at g1 ⊢; simp [g1]; done) | (simp only [nrmT] at *; omega) | (simp at * <;> omega) | (simp_all <;> omega) | (simp_all; done)
          · rw [h3]; exact copy_step h1 b1 (by simp)
        · first | (show _ < _; omega) | (simp only [l_toIntA2S_mJ0]; omega) | (simp only [l_toIntA2S_mJ0] at *; simp at *; omega)
        · simp
    · intro b2
      try simp only [nrmT] at b2
      refine ⟨rfl, ?_⟩
      · rw [h3, take_all (by omega)]; simp; omega
theorem l_toIntA2S_pc (xs : List (Int × Int)) (hn : xs.length ≤ 1048576) : PC Try.prog 31 [.sl (.pairs xs)] (.one (.d (.sl (.pairs xs)))) :=
  pc_wf @Try.call31 fun hw => pc_by (by kernel_rfl) Try.func31 @Try.call31 (by kernel_rfl) l_toIntA2S_C (l_toIntA2S_A xs) (by kernel_rfl) (l_toIntA2S_vc xs hn hw.1) (by kernel_rfl)
def l_toIntA2S_orc : List D → Orc := orcN [some .pairs] fun ds => match ds with
  | [.sl (.pairs xs)] => some (.one (.d (.sl (.pairs xs))))
  | _ => none
def l_szIntA2S_C (f : FuncId) (ds : List D) : Orc := .no
def l_szIntA2S_A (xs : List (Int × Int)) (left : Int) : Ann := .none
def l_szIntA2S_P (xs : List (Int × Int)) (left : Int) : Prop :=
  (-9223372036854775808 ≤ (left - (xs.length : Int)) ∧ (left - (xs.length : Int)) ≤ 9223372036854775807) ∧ (((decide ((left - (xs.length : Int)) < 0)) = true → ((((-1) : Int) = (sz1 xs.length left)))) ∧ ((decide ((left - (xs.length : Int)) < 0)) = false → (((left - (xs.length : Int)) = (sz1 xs.length left)))))
theorem l_szIntA2S_vc (xs : List (Int × Int)) (left : Int) (hl : 0 ≤ left ∧ left ≤ 1048576) (w_xs : (xs.length : Int) ≤ 9223372036854775807) : l_szIntA2S_P xs left := by
  unfold l_szIntA2S_P
  refine ⟨?_, ?_, ?_⟩
  · first | omega | rfl | (intro hg; simp only [nrmT] at hg; omega) | (intro g1 g2; simp [g1, g2]; done) | (intro g1; simp at g1 ⊢; simp [g1]; done) | (simp only [nrmT] at *; omega) | (simp at * <;> omega) | (simp_all <;> omega) | (simp_all; done)
  · intro b1
    try simp only [nrmT] at b1
    unfold sz1; split <;> omega
  · intro b2
    try simp only [nrmT] at b2
    unfold sz1; split <;> omega
theorem l_szIntA2S_pc (xs : List (Int × Int)) (left : Int) (hl : 0 ≤ left ∧ left ≤ 1048576) : PC Try.prog 30 [.sl (.pairs xs), .int .i64 left] (.one (.d (.int .i64 (sz1 xs.length left)))) :=
  pc_wf @Try.call30 fun hw => pc_by (by kernel_rfl) Try.func30 @Try.call30 (by kernel_rfl) l_szIntA2S_C (l_szIntA2S_A xs left) (by kernel_rfl) (l_szIntA2S_vc xs left hl hw.1) (by kernel_rfl)
def l_szIntA2S_orc : List D → Orc := orcN [some .pairs, none] fun ds => match ds with
  | [.sl (.pairs xs), .int .i64 left] => some (.one (.d (.int .i64 (sz1 xs.length left))))
  | _ => none
def l_eqIntA2_C (f : FuncId) (ds : List D) : Orc := .no
def l_eqIntA2_A (a : Int) (b : Int) (c : Int) (d : Int) : Ann := .two (.none) (.two (.two (.none) (.unr (.two (.two (.none) (.goT (.none))) (.none)) (.unr (.two (.two (.none) (.goT (.none))) (.none)) (.unr (.two (.two (.none) (.goF (.none))) (.none)) (.none))))) (.none))
def l_eqIntA2_P (a : Int) (b : Int) (c : Int) (d : Int) : Prop :=
  (true = true) ∧ (true = true) ∧ ((0 : Int) ≤ 0) ∧ ((0 : Int) < 2) ∧ ((0 : Int) ≤ 0) ∧ ((0 : Int) < 2) ∧ (((a != c) = true → ((false = ((a == c) && (b == d))))) ∧ ((a != c) = false → (-9223372036854775808 ≤ (1 : Int) ∧ (1 : Int) ≤ 9223372036854775807) ∧ (true = true) ∧ (true = true) ∧ ((0 : Int) ≤ 1) ∧ ((1 : Int) < 2) ∧ ((0 : Int) ≤ 1) ∧ ((1 : Int) < 2) ∧ (((b != d) = true → ((false = ((a == c) && (b == d))))) ∧ ((b != d) = false → (-9223372036854775808 ≤ (2 : Int) ∧ (2 : Int) ≤ 9223372036854775807) ∧ (false = false) ∧ ((true = ((a == c) && (b == d))))))))
theorem l_eqIntA2_vc (a : Int) (b : Int) (c : Int) (d : Int)   : l_eqIntA2_P a b c d := by
  unfold l_eqIntA2_P
  refine ⟨rfl, rfl, by decide, by decide, by decide, by decide, ?_, ?_⟩
  · intro b1
    try simp only [nrmT] at b1
    first | omega | rfl | (intro hg; simp only [nrmT] at hg; omega) | (intro g1 g2; simp [g1, g2]; done) | (intro g1; simp at g1 ⊢; simp [g1]; done) | (simp only [nrmT] at *; omega) | (simp at * <;> omega) | (simp_all <;> omega) | (simp_all; done)
  · intro b2
    try simp only [nrmT] at b2
    refine ⟨?_, rfl, rfl, by decide, by decide, by decide, by decide, ?_, ?_⟩
    · first | omega | rfl | (intro hg; simp only [nrmT] at hg; omega) | (intro g1 g2; simp [g1, g2]; done) | (intro g1; simp at g1 ⊢; simp [g1]; done) | (simp only [nrmT] at *; omega) | (simp at * <;> omega) | (simp_all <;> omega) | (simp_all; done)
    · intro b3
      try simp only [nrmT] at b3
      first | omega | rfl | (intro hg; simp only [nrmT] at hg; omega) | (intro g1 g2; simp [g1, g2]; done) | (intro g1; simp at g1 ⊢; simp [g1]; done) | (simp only [nrmT] at *; omega) | (simp at * <;> omega) | (simp_all <;> omega) | (simp_all; done)
    · intro b4
      try simp only [nrmT] at b4
      refine ⟨?_, rfl, ?_⟩
      · first | omega | rfl | (intro hg; simp only [nrmT] at hg; omega) | (intro g1 g2; simp [g1, g2]; done) | (intro g1; simp at g1 ⊢; simp [g1]; done) | (simp only [nrmT] at *; omega) | (simp at * <;> omega) | (simp_all <;> omega) | (simp_all; done)
      · first | omega | rfl | (intro hg; simp only [nrmT] at hg; omega) | (intro g1 g2; simp [g1, g2]; done) | (intro g1; simp at g1 ⊢; simp [g1]; done) | (simp only [nrmT] at *; omega) | (simp at * <;> omega) | (simp_all <;> omega) | (simp_all; done)
theorem l_eqIntA2_pc (a : Int) (b : Int) (c : Int) (d : Int)  : PC Try.prog 92 [.agg [.int .i64 a, .int .i64 b], .agg [.int .i64 c, .int .i64 d]] (.one (.d (.bool ((a == c) && (b == d))))) :=
  pc_wf @Try.call92 fun _ => pc_by (by kernel_rfl) Try.func92 @Try.call92 (by kernel_rfl) l_eqIntA2_C (l_eqIntA2_A a b c d) (by kernel_rfl) (l_eqIntA2_vc a b c d) (by kernel_rfl)
def l_eqIntA2_orc : List D → Orc := orcN [none, none] fun ds => match ds with
  | [.agg [.int .i64 a, .int .i64 b], .agg [.int .i64 c, .int .i64 d]] => some (.one (.d (.bool ((a == c) && (b == d)))))
  | _ => none
abbrev l_eqIntA2S_JJ0 (xs : List (Int × Int)) (ys : List (Int × Int)) (i : Int) : Prop := (0 ≤ i) ∧ (i ≤ (xs.length : Int)) ∧ (allTo (fun k => xs.getD k (0, 0) == ys.getD k (0, 0)) i.toNat = true) ∧ (xs.length = ys.length)
abbrev l_eqIntA2S_mJ0 (xs : List (Int × Int)) (ys : List (Int × Int)) (i : Int) : Nat := (xs.length - i).toNat
def l_eqIntA2S_C (f : FuncId) (ds : List D) : Orc := bif Nat.beq f 92 then l_eqIntA2_orc ds else .no
def l_eqIntA2S_A (xs : List (Int × Int)) (ys : List (Int × Int)) : Ann := .two (.none) (.two (.none) (.two (.two (.none) (.loop (cut1 (fun (i : Int) => l_eqIntA2S_JJ0 xs ys i) (fun (i : Int) => [(0, .d false (.sl (.pairs xs))), (1, .d false (.sl (.pairs ys))), (5, .d true (.int .i64 i))]) (fun (i : Int) => [])) (fun g => l_eqIntA2S_mJ0 xs ys g) (fun _ => .none))) (.none)))
def l_eqIntA2S_P (xs : List (Int × Int)) (ys : List (Int × Int)) : Prop :=
  ((((xs.length : Int) != (ys.length : Int)) = true → ((false = (xs == ys)))) ∧ (((xs.length : Int) != (ys.length : Int)) = false → ((∃ i' : Int, (l_eqIntA2S_JJ0 xs ys i') ∧ (xs = xs) ∧ (ys = ys) ∧ ((0 : Int) = i')) ∧ (∀ i : Int, (l_eqIntA2S_JJ0 xs ys i) → (((decide (i < (xs.length : Int))) = true → (true = true) ∧ ((0 : Int) ≤ i) ∧ ((i : Int) < xs.length) ∧ (i.toNat < xs.length) ∧ ((0 : Int) ≤ i) ∧ ((i : Int) < ys.length) ∧ (i.toNat < ys.length) ∧ (PC Try.prog 92 [.agg [.int .i64 ((xs.getD i.toNat (0, 0)).1), .int .i64 ((xs.getD i.toNat (0, 0)).2)], .agg [.int .i64 ((ys.getD i.toNat (0, 0)).1), .int .i64 ((ys.getD i.toNat (0, 0)).2)]] (.one (.d (.bool ((((xs.getD i.toNat (0, 0)).1) == ((ys.getD i.toNat (0, 0)).1)) && (((xs.getD i.toNat (0, 0)).2) == ((ys.getD i.toNat (0, 0)).2))))))) ∧ (((!((((xs.getD i.toNat (0, 0)).1) == ((ys.getD i.toNat (0, 0)).1)) && (((xs.getD i.toNat (0, 0)).2) == ((ys.getD i.toNat (0, 0)).2)))) = true → ((false = (xs == ys)))) ∧ ((!((((xs.getD i.toNat (0, 0)).1) == ((ys.getD i.toNat (0, 0)).1)) && (((xs.getD i.toNat (0, 0)).2) == ((ys.getD i.toNat (0, 0)).2)))) = false → (-9223372036854775808 ≤ (i + 1) ∧ (i + 1) ≤ 9223372036854775807) ∧ (∃ i' : Int, (l_eqIntA2S_JJ0 xs ys i') ∧ (l_eqIntA2S_mJ0 xs ys i' < l_eqIntA2S_mJ0 xs ys i) ∧ (xs = xs) ∧ (ys = ys) ∧ ((i + 1) = i'))))) ∧ ((decide (i < (xs.length : Int))) = false → ((true = (xs == ys)))))))))
theorem l_eqIntA2S_vc (xs : List (Int × Int)) (ys : List (Int × Int))  (w_xs : (xs.length : Int) ≤ 9223372036854775807) (w_ys : (ys.length : Int) ≤ 9223372036854775807) : l_eqIntA2S_P xs ys := by
  unfold l_eqIntA2S_P
  refine ⟨?_, ?_⟩
  · intro b1
    try simp only [nrmT] at b1
    exact (len_ne (by omega)).symm
  · intro b2
    try simp only [nrmT] at b2
    refine ⟨?_, ?_⟩
    · refine ⟨0, ?_⟩
      refine ⟨?_, rfl, rfl, rfl⟩
      · refine ⟨?_, ?_, ?_, ?_⟩
        · first | omega | rfl | (intro hg; simp only [nrmT] at hg; omega) | (intro g1 g2; simp [g1, g2]; done) | (intro g1; simp at g1 ⊢; simp [g1]; done) | (simp only [nrmT] at *; omega) | (simp at * <;> omega) | (simp_all <;> omega) | (simp_all; done)
        · first | omega | rfl | (intro hg; simp only [nrmT] at hg; omega) | (intro g1 g2; simp [g1, g2]; done) | (intro g1; simp at g1 ⊢; simp [g1]; done) | (simp only [nrmT] at *; omega) | (simp at * <;> omega) | (simp_all <;> omega) | (simp_all; done)
        · first | omega | rfl | (intro hg; simp only [nrmT] at hg; omega) | (intro g1 g2; simp [g1, g2]; done) | (intro g1; simp at g1 ⊢; simp [g1]; done) | (simp only [nrmT] at *; omega) | (simp at * <;> omega) | (simp_all <;> omega) | (simp_all; done)
        · first | omega | rfl | (intro hg; simp only [nrmT] at hg; omega) | (intro g1 g2; simp [g1, g2]; done) | (intro g1; simp at g1 ⊢; simp [g1]; done) | (simp only [nrmT] at *; omega) | (simp at * <;> omega) | (simp_all <;> omega) | (simp_all; done)
    · intro i hJ
      obtain ⟨h1, h2, h3, h4⟩ := hJ
      refine ⟨?_, ?_⟩
      · intro b3
        try simp only [nrmT] at b3
        refine ⟨rfl, ?_, ?_, ?_, ?_, ?_, ?_, l_eqIntA2_pc ((xs.getD i.toNat (0, 0)).1) ((xs.getD i.toNat (0, 0)).2) ((ys.getD i.toNat (0, 0)).1) ((ys.getD i.toNat (0, 0)).2), ?_, ?_⟩
        · first | omega | rfl | (intro hg; simp only [nrmT] at hg; omega) | (intro g1 g2; simp [g1, g2]; done) | (intro g1; simp at g1 ⊢; simp [g1]; done) | (simp only [nrmT] at *; omega) | (simp at * <;> omega) | (simp_all <;> omega) | (simp_all; done)
        · first | omega | rfl | (intro hg; simp only [nrmT] at hg; omega) | (intro g1 g2; simp [g1, g2]; done) | (intro g1; simp at g1 ⊢; simp [g1]; done) | (simp only [nrmT] at *; omega) | (simp at * <;> omega) | (simp_all <;> omega) | (simp_all; done)
        · first | omega | rfl | (intro hg; simp only [nrmT] at hg; omega) | (intro g1 g2; simp [g1, g2]; done) | (intro g1; simp at g1 ⊢; simp [g1]; done) | (simp only [nrmT] at *; omega) | (simp at * <;> omega) | (simp_all <;> omega) | (simp_all; done)
        · first | omega | rfl | (intro hg; simp only [nrmT] at hg; omega) | (intro g1 g2; simp [g1, g2]; done) | (intro g1; simp at g1 ⊢; simp [g1]; done) | (simp only [nrmT] at *; omega) | (simp at * <;> omega) | (simp_all <;> omega) | (simp_all; done)
        · first | omega | rfl | (intro hg; simp only [nrmT] at hg; omega) | (intro g1 g2; simp [g1, g2]; done) | (intro g1; simp at g1 ⊢; simp [g1]; done) | (simp only [nrmT] at *; omega) | (simp at * <;> omega) | (simp_all <;> omega) | (simp_all; done)
        · first | omega | rfl | (intro hg; simp only [nrmT] at hg; omega) | (intro g1 g2; simp [g1, g2]; done) | (intro g1; simp at g1 ⊢; simp [g1]; done) | (simp only [nrmT] at *; omega) | (simp at * <;> omega) | (simp_all <;> omega) | (simp_all; done)
        · intro b4
          try simp only [Bool.not_eq_true', Bool.not_eq_false', Bool.not_not] at b4
          rw [← beq_of_all (d := (0, 0)) h4]; exact (allTo_falseI h1 (by omega) (by simpa [Prod.ext_iff] using b4)).symm
        · intro b5
          try simp only [Bool.not_eq_true', Bool.not_eq_false', Bool.not_not] at b5
          refine ⟨?_, ?_⟩
          · first | omega | rfl | (intro hg; simp only [nrmT] at hg; omega) | (intro g1 g2; simp [g1, g2]; done) | (intro g1; simp at g1 ⊢; simp [g1]; done) | (simp only [nrmT] at *; omega) | (simp at * <;> omega) | (simp_all <;> omega) | (simp_all; done)
          · refine ⟨(i + 1), ?_⟩
            refine ⟨?_, ?_, rfl, rfl, rfl⟩
            · refine ⟨?_, ?_, ?_, ?_⟩
              · first | omega | rfl | (intro hg; simp only [nrmT] at hg; omega) | (intro g1 g2; simp [g1, g2]; done) | (intro g1; simp at g1 ⊢; simp [g1]; done) | (simp only [nrmT] at *; omega) | (simp at * <;> omega) | (simp_all <;> omega) | (simp_all; done)
              · first | omega | rfl | (intro hg; simp only [nrmT] at hg; omega) | (intro g1 g2; simp [g1, g2]; done) | (intro g1; simp at g1 ⊢; simp [g1]; done) | (simp only [nrmT] at *; omega) | (simp at * <;> omega) | (simp_all <;> omega) | (simp_all; done)
              · exact allTo_step h1 h3 (by simpa [Prod.ext_iff] using b5)
              · first | omega | rfl | (intro hg; simp only [nrmT] at hg; omega) | (intro g1 g2; simp [g1, g2]; done) | (intro g1; simp at g1 ⊢; simp [g1]; done) | (simp only [nrmT] at *; omega) | (simp at * <;> omega) | (simp_all <;> omega) | (simp_all; done)
            · first | (show _ < _; omega) | (simp only [l_eqIntA2S_mJ0]; omega) | (simp only [l_eqIntA2S_mJ0] at *; simp at *; omega)
      · intro b6
        try simp only [nrmT] at b6
        rw [← beq_of_all (d := (0, 0)) h4, ← h3]; congr 1; omega
theorem l_eqIntA2S_pc (xs : List (Int × Int)) (ys : List (Int × Int))  : PC Try.prog 33 [.sl (.pairs xs), .sl (.pairs ys)] (.one (.d (.bool (xs == ys)))) :=
  pc_wf @Try.call33 fun hw => pc_by (by kernel_rfl) Try.func33 @Try.call33 (by kernel_rfl) l_eqIntA2S_C (l_eqIntA2S_A xs ys) (by kernel_rfl) (l_eqIntA2S_vc xs ys hw.1 hw.2.1) (by kernel_rfl)
def l_eqIntA2S_orc : List D → Orc := orcN [some .pairs, some .pairs] fun ds => match ds with
  | [.sl (.pairs xs), .sl (.pairs ys)] => some (.one (.d (.bool (xs == ys))))
  | _ => none
def l_FnExactApartIntervals_C (f : FuncId) (ds : List D) : Orc := bif Nat.beq f 30 then l_szIntA2S_orc ds else bif Nat.beq f 31 then l_toIntA2S_orc ds else bif Nat.beq f 29 then s_ApartIntervals_orc ds else bif Nat.beq f 28 then i_ApartIntervals_orc ds else bif Nat.beq f 32 then l_eqIntS_orc ds else bif Nat.beq f 33 then l_eqIntA2S_orc ds else bif Nat.beq f 36 then l_heldIntS_orc ds else .no
def l_FnExactApartIntervals_A (list : List (Int × Int)) : Ann := .two (.none) (.two (.none) (.two (.none) (.two (.none) (.two (.reg [(1, .g)]) (.two (.reg [(1, .g)]) (.two (.none) (.two (.none) (.two (.two (.reg [(2, .g)]) (.none)) (.two (.none) (.two (.mark [] 2 (.kill (1 + (list.length : Int) * 2))) (.two (.none) (.two (.none) (.two (.mark [] 2 (.wr (marks 1 (stabB list).length) (1 + ((stabB list).length : Int)))) (.two (.none) (.two (.none) (.two (.none) (.two (.none) (.two (.reg [(1, .g)]) (.none)))))))))))))))))))
def l_FnExactApartIntervals_P (list : List (Int × Int)) : Prop :=
  (PC Try.prog 30 [.sl (.pairs list), .int .i64 1048576] (.one (.d (.int .i64 (sz1 list.length 1048576))))) ∧ (((decide ((sz1 list.length 1048576) < 0)) = true → ((true = true))) ∧ ((decide ((sz1 list.length 1048576) < 0)) = false → (PC Try.prog 31 [.sl (.pairs list)] (.one (.d (.sl (.pairs list))))) ∧ (PC Try.prog 29 [.sl (.pairs list)] (.tup [.d (.sl (.ints (stabB list))), .d (.bool (goodIvs list))])) ∧ (PC Try.prog 31 [.sl (.pairs list)] (.one (.d (.sl (.pairs list))))) ∧ (PC Try.prog 28 [.sl (.pairs list)] (.tup [.own 3 (.ints (stabB list)), .d (.bool (goodIvs list))])) ∧ ((stabB list).length = (stabB list).length) ∧ (PC Try.prog 32 [.sl (.ints (stabB list)), .sl (.ints (stabB list))] (.one (.d (.bool ((stabB list) == (stabB list)))))) ∧ ((!(!((stabB list) == (stabB list)))) = true → (!(!((stabB list) == (stabB list)))) = true) ∧ ((!(!((stabB list) == (stabB list)))) = true → (!(!((stabB list) == (stabB list)))) = true) ∧ (true = true) ∧ (((!((stabB list) == (stabB list))) = true → true = true)) ∧ (((!((stabB list) == (stabB list))) = false → (!(!((stabB list) == (stabB list)))) = true)) ∧ (((cond (!((stabB list) == (stabB list))) true ((goodIvs list) != (goodIvs list))) = true → ((false = true))) ∧ ((cond (!((stabB list) == (stabB list))) true ((goodIvs list) != (goodIvs list))) = false → (PC Try.prog 31 [.sl (.pairs list)] (.one (.d (.sl (.pairs list))))) ∧ (PC Try.prog 33 [.sl (.pairs list), .sl (.pairs list)] (.one (.d (.bool (list == list))))) ∧ (((!(list == list)) = true → ((false = true))) ∧ ((!(list == list)) = false → (PG Try.prog 34 [.shp (.pairs list.length), .int 1] (1 + (list.length : Int) * 2)) ∧ ((!(decide ((1 + (list.length : Int) * 2) < 0))) = true → (!(decide ((1 + (list.length : Int) * 2) < 0))) = true) ∧ ((!(decide ((1 + (list.length : Int) * 2) < 0))) = true → (!(decide ((1 + (list.length : Int) * 2) < 0))) = true) ∧ (((!(decide ((1 + (list.length : Int) * 2) < 0))) = true → (stabB list).length = (stabB list).length)) ∧ ((!(decide ((1 + (list.length : Int) * 2) < 0))) = true → PC Try.prog 32 [.sl (.ints (stabB list)), .sl (.ints (stabB list))] (.one (.d (.bool ((stabB list) == (stabB list)))))) ∧ ((!(decide ((1 + (list.length : Int) * 2) < 0))) = true → (!(decide ((1 + (list.length : Int) * 2) < 0))) = true) ∧ (true = true) ∧ (((decide ((1 + (list.length : Int) * 2) < 0)) = true → true = true)) ∧ (((decide ((1 + (list.length : Int) * 2) < 0)) = false → (!(decide ((1 + (list.length : Int) * 2) < 0))) = true)) ∧ ((!(cond (decide ((1 + (list.length : Int) * 2) < 0)) true (!((stabB list) == (stabB list))))) = true → (!(cond (decide ((1 + (list.length : Int) * 2) < 0)) true (!((stabB list) == (stabB list))))) = true) ∧ ((!(cond (decide ((1 + (list.length : Int) * 2) < 0)) true (!((stabB list) == (stabB list))))) = true → (!(cond (decide ((1 + (list.length : Int) * 2) < 0)) true (!((stabB list) == (stabB list))))) = true) ∧ (true = true) ∧ (((cond (decide ((1 + (list.length : Int) * 2) < 0)) true (!((stabB list) == (stabB list)))) = true → true = true)) ∧ (((cond (decide ((1 + (list.length : Int) * 2) < 0)) true (!((stabB list) == (stabB list)))) = false → (!(cond (decide ((1 + (list.length : Int) * 2) < 0)) true (!((stabB list) == (stabB list))))) = true)) ∧ (((cond (cond (decide ((1 + (list.length : Int) * 2) < 0)) true (!((stabB list) == (stabB list)))) true ((goodIvs list) != (goodIvs list))) = true → ((false = true))) ∧ ((cond (cond (decide ((1 + (list.length : Int) * 2) < 0)) true (!((stabB list) == (stabB list)))) true ((goodIvs list) != (goodIvs list))) = false → ((stabB list).length = (stabB list).length) ∧ ((marks 1 (stabB list).length).length = (stabB list).length) ∧ (PW Try.prog 35 3 (stabB list) (marks 1 (stabB list).length) 1 (1 + ((stabB list).length : Int))) ∧ ((stabB list).length = (marks 1 (stabB list).length).length) ∧ (PC Try.prog 36 [.sl (.ints (marks 1 (stabB list).length)), .int .i64 1] (.one (.d (.int .i64 (1 + ((marks 1 (stabB list).length).length : Int)))))) ∧ (((decide ((1 + ((marks 1 (stabB list).length).length : Int)) < 0)) = true → ((false = true))) ∧ ((decide ((1 + ((marks 1 (stabB list).length).length : Int)) < 0)) = false → ((((1 + ((marks 1 (stabB list).length).length : Int)) != (1 + ((stabB list).length : Int))) = true → ((false = true))) ∧ (((1 + ((marks 1 (stabB list).length).length : Int)) != (1 + ((stabB list).length : Int))) = false → (PC Try.prog 31 [.sl (.pairs list)] (.one (.d (.sl (.pairs list))))) ∧ (PC Try.prog 28 [.sl (.pairs list)] (.tup [.own 3 (.ints (stabB list)), .d (.bool (goodIvs list))])) ∧ ((stabB list).length = (stabB list).length) ∧ (PC Try.prog 32 [.sl (.ints (stabB list)), .sl (.ints (stabB list))] (.one (.d (.bool ((stabB list) == (stabB list)))))) ∧ ((!(!((stabB list) == (stabB list)))) = true → (!(!((stabB list) == (stabB list)))) = true) ∧ ((!(!((stabB list) == (stabB list)))) = true → (!(!((stabB list) == (stabB list)))) = true) ∧ (true = true) ∧ (((!((stabB list) == (stabB list))) = true → true = true)) ∧ (((!((stabB list) == (stabB list))) = false → (!(!((stabB list) == (stabB list)))) = true)) ∧ (((cond (!((stabB list) == (stabB list))) true ((goodIvs list) != (goodIvs list))) = true → ((false = true))) ∧ ((cond (!((stabB list) == (stabB list))) true ((goodIvs list) != (goodIvs list))) = false → ((stabB list).length = (marks 1 (stabB list).length).length) ∧ (PC Try.prog 36 [.sl (.ints (marks 1 (stabB list).length)), .int .i64 1] (.one (.d (.int .i64 (1 + ((marks 1 (stabB list).length).length : Int)))))) ∧ (((decide ((1 + ((marks 1 (stabB list).length).length : Int)) < 0)) = true → ((false = true))) ∧ ((decide ((1 + ((marks 1 (stabB list).length).length : Int)) < 0)) = false → ((((1 + ((marks 1 (stabB list).length).length : Int)) != (1 + ((stabB list).length : Int))) = true → ((false = true))) ∧ (((1 + ((marks 1 (stabB list).length).length : Int)) != (1 + ((stabB list).length : Int))) = false → ((true = true))))))))))))))))))))
theorem l_FnExactApartIntervals_vc (list : List (Int × Int))  (w_list : (list.length : Int) ≤ 9223372036854775807) : l_FnExactApartIntervals_P list := by
  unfold l_FnExactApartIntervals_P
  refine ⟨?_, ?_, ?_⟩
  · refine l_szIntA2S_pc list 1048576 ?_
    · first | omega | rfl | (intro hg; simp only [nrmT] at hg; omega) | (intro g1 g2; simp [g1, g2]; done) | (intro g1; simp at g1 ⊢; simp [g1]; done) | (simp only [nrmT] at *; omega) | (simp at * <;> omega) | (simp_all <;> omega) | (simp_all; done)
  · intro b1
    try simp only [nrmT] at b1
    exact rfl
  · intro b2
    try simp only [nrmT] at b2
    refine ⟨?_, s_ApartIntervals_pc list, ?_, i_ApartIntervals_pc list, rfl, l_eqIntS_pc (stabB list) (stabB list), id, id, rfl, fun _ => rfl, ?_, ?_, ?_⟩
    · refine l_toIntA2S_pc list ?_
      · have := sz1_bound (n := list.length) (left := 1048576) (by omega); omega
    · refine l_toIntA2S_pc list ?_
      · have := sz1_bound (n := list.length) (left := 1048576) (by omega); omega
    · first | omega | rfl | (intro hg; simp only [nrmT] at hg; omega) | (intro g1 g2; simp [g1, g2]; done) | (intro g1; simp at g1 ⊢; simp [g1]; done) | (simp only [nrmT] at *; omega) | (simp at * <;> omega) | (simp_all <;> omega) | (simp_all; done)
    · intro b3
      first | (exfalso; rw [marks_len] at b3; omega) | omega | rfl | (intro hg; simp only [nrmT] at hg; omega) | (intro g1 g2; simp [g1, g2]; done) | (intro g1; simp at g1 ⊢; simp [g1]; done) | (simp only [nrmT] at *; omega) | (simp at * <;> omega) | (simp_all <;> omega) | (simp_all; done)
    · intro b4
      refine ⟨?_, l_eqIntA2S_pc list list, ?_, ?_⟩
      · refine l_toIntA2S_pc list ?_
        · have := sz1_bound (n := list.length) (left := 1048576) (by omega); omega
      · intro b5
        try simp only [nrmT] at b5
        first | (exfalso; rw [marks_len] at b5; omega) | omega | rfl | (intro hg; simp only [nrmT] at hg; omega) | (intro g1 g2; simp [g1, g2]; done) | (intro g1; simp at g1 ⊢; simp [g1]; done) | (simp only [nrmT] at *; omega) | (simp at * <;> omega) | (simp_all <;> omega) | (simp_all; done)
      · intro b6
        try simp only [nrmT] at b6
        refine ⟨?_, id, id, fun _ => rfl, fun _ => l_eqIntS_pc (stabB list) (stabB list), id, rfl, fun _ => rfl, ?_, id, id, rfl, fun _ => rfl, ?_, ?_, ?_⟩
        · refine laws_markIntA2S_g_pg list.length 1 ?_ ?_
          · first | omega | rfl | (intro hg; simp only [nrmT] at hg; omega) | (intro g1 g2; simp [g1, g2]; done) | (intro g1; simp at g1 ⊢; simp [g1]; done) | (simp only [nrmT] at *; omega) | (simp at * <;> omega) | (simp_all <;> omega) | (simp_all; done)
          · have := sz1_bound (n := list.length) (left := 1048576) (by omega); omega
        · first | omega | rfl | (intro hg; simp only [nrmT] at hg; omega) | (intro g1 g2; simp [g1, g2]; done) | (intro g1; simp at g1 ⊢; simp [g1]; done) | (simp only [nrmT] at *; omega) | (simp at * <;> omega) | (simp_all <;> omega) | (simp_all; done)
        · first | omega | rfl | (intro hg; simp only [nrmT] at hg; omega) | (intro g1 g2; simp [g1, g2]; done) | (intro g1; simp at g1 ⊢; simp [g1]; done) | (simp only [nrmT] at *; omega) | (simp at * <;> omega) | (simp_all <;> omega) | (simp_all; done)
        · intro b7
          first | (exfalso; rw [marks_len] at b7; omega) | omega | rfl | (intro hg; simp only [nrmT] at hg; omega) | (intro g1 g2; simp [g1, g2]; done) | (intro g1; simp at g1 ⊢; simp [g1]; done) | (simp only [nrmT] at *; omega) | (simp at * <;> omega) | (simp_all <;> omega) | (simp_all; done)
        · intro b8
          refine ⟨rfl, marks_len _ _, ?_, ?_, ?_, ?_, ?_⟩
          · refine laws_markIntS_w_pw (stabB list) 1 ?_ ?_
            · first | omega | rfl | (intro hg; simp only [nrmT] at hg; omega) | (intro g1 g2; simp [g1, g2]; done) | (intro g1; simp at g1 ⊢; simp [g1]; done) | (simp only [nrmT] at *; omega) | (simp at * <;> omega) | (simp_all <;> omega) | (simp_all; done)
            · have := @stabB_len list; omega
          · exact (marks_len _ _).symm
          · refine l_heldIntS_pc (marks 1 (stabB list).length) 1 ?_ ?_ ?_
            · first | omega | rfl | (intro hg; simp only [nrmT] at hg; omega) | (intro g1 g2; simp [g1, g2]; done) | (intro g1; simp at g1 ⊢; simp [g1]; done) | (simp only [nrmT] at *; omega) | (simp at * <;> omega) | (simp_all <;> omega) | (simp_all; done)
            · rw [marks_len]
            · rw [marks_len]; have := @stabB_len list; omega
          · intro b9
            try simp only [nrmT] at b9
            first | (exfalso; rw [marks_len] at b9; omega) | omega | rfl | (intro hg; simp only [nrmT] at hg; omega) | (intro g1 g2; simp [g1, g2]; done) | (intro g1; simp at g1 ⊢; simp [g1]; done) | (simp only [nrmT] at *; omega) | (simp at * <;> omega) | (simp_all <;> omega) | (simp_all; done)
          · intro b10
            try simp only [nrmT] at b10
            refine ⟨?_, ?_⟩
            · intro b11
              try simp only [nrmT] at b11
              first | (exfalso; rw [marks_len] at b11; omega) | omega | rfl | (intro hg; simp only [nrmT] at hg; omega) | (intro g1 g2; simp [g1, g2]; done) | (intro g1; simp at g1 ⊢; simp [g1]; done) | (simp only [nrmT] at *; omega) | (simp at * <;> omega) | (simp_all <;> omega) | (simp_all; done)
            · intro b12
              try simp only [nrmT] at b12
              refine ⟨?_, i_ApartIntervals_pc list, rfl, l_eqIntS_pc (stabB list) (stabB list), id, id, rfl, fun _ => rfl, ?_, ?_, ?_⟩
              · refine l_toIntA2S_pc list ?_
                · have := sz1_bound (n := list.length) (left := 1048576) (by omega); omega
              · first | omega | rfl | (intro hg; simp only [nrmT] at hg; omega) | (intro g1 g2; simp [g1, g2]; done) | (intro g1; simp at g1 ⊢; simp [g1]; done) | (simp only [nrmT] at *; omega) | (simp at * <;> omega) | (simp_all <;> omega) | (simp_all; done)
              · intro b13
                first | (exfalso; rw [marks_len] at b13; omega) | omega | rfl | (intro hg; simp only [nrmT] at hg; omega) | (intro g1 g2; simp [g1, g2]; done) | (intro g1; simp at g1 ⊢; simp [g1]; done) | (simp only [nrmT] at *; omega) | (simp at * <;> omega) | (simp_all <;> omega) | (simp_all; done)
              · intro b14
                refine ⟨?_, ?_, ?_, ?_⟩
                · exact (marks_len _ _).symm
                · refine l_heldIntS_pc (marks 1 (stabB list).length) 1 ?_ ?_ ?_
                  · first | omega | rfl | (intro hg; simp only [nrmT] at hg; omega) | (intro g1 g2; simp [g1, g2]; done) | (intro g1; simp at g1 ⊢; simp [g1]; done) | (simp only [nrmT] at *; omega) | (simp at * <;> omega) | (simp_all <;> omega) | (simp_all; done)
                  · rw [marks_len]
                  · rw [marks_len]; have := @stabB_len list; omega
                · intro b15
                  try simp only [nrmT] at b15
                  first | (exfalso; rw [marks_len] at b15; omega) | omega | rfl | (intro hg; simp only [nrmT] at hg; omega) | (intro g1 g2; simp [g1, g2]; done) | (intro g1; simp at g1 ⊢; simp [g1]; done) | (simp only [nrmT] at *; omega) | (simp at * <;> omega) | (simp_all <;> omega) | (simp_all; done)
                · intro b16
                  try simp only [nrmT] at b16
                  refine ⟨?_, ?_⟩
                  · intro b17
                    try simp only [nrmT] at b17
                    first | (exfalso; rw [marks_len] at b17; omega) | omega | rfl | (intro hg; simp only [nrmT] at hg; omega) | (intro g1 g2; simp [g1, g2]; done) | (intro g1; simp at g1 ⊢; simp [g1]; done) | (simp only [nrmT] at *; omega) | (simp at * <;> omega) | (simp_all <;> omega) | (simp_all; done)
                  · intro b18
                    try simp only [nrmT] at b18
                    exact rfl
theorem l_FnExactApartIntervals_pc (list : List (Int × Int))  : PC Try.prog 4 [.sl (.pairs list)] (.one (.d (.bool true))) :=
  pc_wf @Try.call4 fun hw => pc_by (by kernel_rfl) Try.func4 @Try.call4 (by kernel_rfl) l_FnExactApartIntervals_C (l_FnExactApartIntervals_A list) (by kernel_rfl) (l_FnExactApartIntervals_vc list hw.1) (by kernel_rfl)
end Go.Proofs.Ytijdbfbeobflnaa
