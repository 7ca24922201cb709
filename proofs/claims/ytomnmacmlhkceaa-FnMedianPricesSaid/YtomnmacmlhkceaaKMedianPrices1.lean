/- Contracts of the functions that the law reaches. -/
import Derived.Test.YtomnmacmlhkceaaPw
import Derived.Test.YtomnmacmlhkceaaPua
import Derived.Test.YtomnmacmlhkceaaPuc
import Derived.Test.YtomnmacmlhkceaaSh
import Derived.Test.YtomnmacmlhkceaaProg
import Derived.KernelRfl
set_option linter.unusedVariables false
set_option linter.unusedSimpArgs false
namespace Go.Proofs.Ytomnmacmlhkceaa
open Go

def s_l1In_C (f : FuncId) (ds : List D) : Orc := .no
def s_l1In_A (x : Int) (a : Int) (b : Int) : Ann := .none
def s_l1In_P (x : Int) (a : Int) (b : Int) : Prop :=
  ((decide (x ≥ a)) = true → (decide (x ≥ a)) = true) ∧ ((decide (x ≥ a)) = true → (decide (x ≥ a)) = true) ∧ (true = true) ∧ (((decide (x ≥ a)) = true → (decide (x ≥ a)) = true)) ∧ (((decide (x ≥ a)) = false → true = true)) ∧ (((cond (decide (x ≥ a)) (decide (x ≤ b)) false) = (inB x a b)))
theorem s_l1In_vc (x : Int) (a : Int) (b : Int)   : s_l1In_P x a b := by
  unfold s_l1In_P
  refine ⟨id, id, rfl, id, fun _ => rfl, ?_⟩
  ·first | omega | rfl | (intro hg; simp only [nrmT] at hg; omega) | (intro g1 g2; simp [g1, g2]; done) | (intro g1; simp at g1 ⊢; simp [g1]; done) | (simp only [nrmT] at *; omega) | (simp at * <;> omega) | (simp_all <;> omega) | (simp_all; done) | (simp [inB]; omega) | (simp only [inB]; by_cases h : a ≤ x <;> simp_all)
theorem s_l1In_pc (x : Int) (a : Int) (b : Int)  : PC Try.prog 116 [.int .i64 x, .int .i64 a, .int .i64 b] (.one (.d (.bool (inB x a b)))) :=
  pc_wf @Try.call116 fun _ => pc_by (by kernel_rfl) Try.func116 @Try.call116 (by kernel_rfl) s_l1In_C (s_l1In_A x a b) (by kernel_rfl) (s_l1In_vc x a b) (by kernel_rfl)
def s_l1In_orc : List D → Orc := orcN [none, none, none] fun ds => match ds with
  | [.int .i64 x, .int .i64 a, .int .i64 b] => some (.one (.d (.bool (inB x a b))))
  | _ => none
def i_between_C (f : FuncId) (ds : List D) : Orc := .no
def i_between_A (x : Int) (a : Int) (b : Int) : Ann := .none
def i_between_P (x : Int) (a : Int) (b : Int) : Prop :=
  ((decide (x ≥ a)) = true → (decide (x ≥ a)) = true) ∧ ((decide (x ≥ a)) = true → (decide (x ≥ a)) = true) ∧ (true = true) ∧ (((decide (x ≥ a)) = true → (decide (x ≥ a)) = true)) ∧ (((decide (x ≥ a)) = false → true = true)) ∧ (((cond (decide (x ≥ a)) (decide (x ≤ b)) false) = (inB x a b)))
theorem i_between_vc (x : Int) (a : Int) (b : Int)   : i_between_P x a b := by
  unfold i_between_P
  refine ⟨id, id, rfl, id, fun _ => rfl, ?_⟩
  ·first | omega | rfl | (intro hg; simp only [nrmT] at hg; omega) | (intro g1 g2; simp [g1, g2]; done) | (intro g1; simp at g1 ⊢; simp [g1]; done) | (simp only [nrmT] at *; omega) | (simp at * <;> omega) | (simp_all <;> omega) | (simp_all; done) | (simp [inB]; omega) | (simp only [inB]; by_cases h : a ≤ x <;> simp_all)
theorem i_between_pc (x : Int) (a : Int) (b : Int)  : PC Try.prog 120 [.int .i64 x, .int .i64 a, .int .i64 b] (.one (.d (.bool (inB x a b)))) :=
  pc_wf @Try.call120 fun _ => pc_by (by kernel_rfl) Try.func120 @Try.call120 (by kernel_rfl) i_between_C (i_between_A x a b) (by kernel_rfl) (i_between_vc x a b) (by kernel_rfl)
def i_between_orc : List D → Orc := orcN [none, none, none] fun ds => match ds with
  | [.int .i64 x, .int .i64 a, .int .i64 b] => some (.one (.d (.bool (inB x a b))))
  | _ => none
def risingP (xs : List Int) (lo hi : Int) (k : Nat) : Bool := inB (xs.getD k 0) lo hi && (decide (k = 0) || decide (xs.getD (k - 1) 0 < xs.getD k 0))
def rising (xs : List Int) (lo hi : Int) : Bool := allTo (risingP xs lo hi) xs.length
theorem len_le (m n : Nat) : decide ((m : Int) ≤ (n : Int)) = decide (m ≤ n) := by
  rw [Bool.eq_iff_iff]; simp only [decide_eq_true_eq]; omega
theorem all_end {α : Type} {p : α → Bool} {d : α} {xs : List α} {i : Int} (h2 : (xs.length : Int) ≤ i) (h2' : i ≤ (xs.length : Int)) (h3 : allTo (fun k => p (xs.getD k d)) i.toNat = true) : xs.all p = true := by
  have e : i.toNat = xs.length := by omega
  rw [e, allTo_list] at h3; exact h3
theorem all_no {α : Type} {p : α → Bool} {d : α} {xs : List α} {i : Int} (h0 : 0 ≤ i) (h : i < (xs.length : Int)) (h3 : p (xs.getD i.toNat d) = false) : xs.all p = false := by
  rw [← allTo_list (d := d)]; exact allTo_falseI h0 h h3
theorem inB_le {x lo hi : Int} (h : inB x lo hi = true) : lo ≤ x ∧ x ≤ hi := of_decide_eq_true h
def i_areBetween_1_C (f : FuncId) (ds : List D) : Orc := bif Nat.beq f 120 then i_between_orc ds else .no
def i_areBetween_1_A (x : Int) (lo : Int) (hi : Int) : Ann := .none
def i_areBetween_1_P (x : Int) (lo : Int) (hi : Int) : Prop :=
  (PC Try.prog 120 [.int .i64 x, .int .i64 lo, .int .i64 hi] (.one (.d (.bool (inB x lo hi))))) ∧ (((!(inB x lo hi)) = (!(inB x lo hi))))
theorem i_areBetween_1_vc (x : Int) (lo : Int) (hi : Int)   : i_areBetween_1_P x lo hi := by
  unfold i_areBetween_1_P
  refine ⟨i_between_pc x lo hi, rfl⟩
theorem i_areBetween_1_pc (x : Int) (lo : Int) (hi : Int)  : PC Try.prog 205 [.int .i64 x, .bx [.int .i64 lo] 0, .bx [.int .i64 hi] 0] (.one (.d (.bool (!(inB x lo hi))))) :=
  pc_wf @Try.call205 fun _ => pc_by (by kernel_rfl) Try.func205 @Try.call205 (by kernel_rfl) i_areBetween_1_C (i_areBetween_1_A x lo hi) (by kernel_rfl) (i_areBetween_1_vc x lo hi) (by kernel_rfl)
def i_areBetween_1_orc : List D → Orc := orcN [none, none, none] fun ds => match ds with
  | [.int .i64 x, .bx [.int .i64 lo] 0, .bx [.int .i64 hi] 0] => some (.one (.d (.bool (!(inB x lo hi)))))
  | _ => none
abbrev slices_IndexFunc_int_int_aB_JJ0 (xs : List Int) (lo : Int) (hi : Int) (i : Int) : Prop := (0 ≤ i) ∧ (i ≤ (xs.length : Int)) ∧ (∀ k, k < i.toNat → (fun x => !(inB x lo hi)) (xs.getD k 0) = false)
abbrev slices_IndexFunc_int_int_aB_mJ0 (xs : List Int) (lo : Int) (hi : Int) (i : Int) : Nat := (xs.length - i).toNat
def slices_IndexFunc_int_int_aB_C (f : FuncId) (ds : List D) : Orc := bif Nat.beq f 205 then i_areBetween_1_orc ds else .no
def slices_IndexFunc_int_int_aB_A (xs : List Int) (lo : Int) (hi : Int) : Ann := .two (.none) (.two (.two (.none) (.loop (cut1 (fun (i : Int) => slices_IndexFunc_int_int_aB_JJ0 xs lo hi i) (fun (i : Int) => [(0, .d false (.sl (.ints xs))), (1, .d false (.fn 205 0 [.bx [.int .i64 lo] 0, .bx [.int .i64 hi] 0])), (7, .d true (.int .i64 (xs.length : Int))), (8, .d true (.int .i64 i))]) (fun (i : Int) => [])) (fun g => slices_IndexFunc_int_int_aB_mJ0 xs lo hi g) (fun _ => .none))) (.none))
def slices_IndexFunc_int_int_aB_P (xs : List Int) (lo : Int) (hi : Int) : Prop :=
  ((∃ i' : Int, (slices_IndexFunc_int_int_aB_JJ0 xs lo hi i') ∧ (xs = xs) ∧ ((.fn 205 0 [.bx [.int .i64 lo] 0, .bx [.int .i64 hi] 0] : D) = (.fn 205 0 [.bx [.int .i64 lo] 0, .bx [.int .i64 hi] 0] : D)) ∧ ((xs.length : Int) = (xs.length : Int)) ∧ ((0 : Int) = i')) ∧ (∀ i : Int, (slices_IndexFunc_int_int_aB_JJ0 xs lo hi i) → (((decide (i < (xs.length : Int))) = true → ((0 : Int) ≤ i) ∧ ((i : Int) < xs.length) ∧ (i.toNat < xs.length) ∧ (PC Try.prog 205 [.int .i64 (xs.getD i.toNat 0), .bx [.int .i64 lo] 0, .bx [.int .i64 hi] 0] (.one (.d (.bool (!(inB (xs.getD i.toNat 0) lo hi)))))) ∧ (((!(inB (xs.getD i.toNat 0) lo hi)) = true → ((i = (idxI (fun x => !(inB x lo hi)) xs)))) ∧ ((!(inB (xs.getD i.toNat 0) lo hi)) = false → (-9223372036854775808 ≤ (i + 1) ∧ (i + 1) ≤ 9223372036854775807) ∧ (∃ i' : Int, (slices_IndexFunc_int_int_aB_JJ0 xs lo hi i') ∧ (slices_IndexFunc_int_int_aB_mJ0 xs lo hi i' < slices_IndexFunc_int_int_aB_mJ0 xs lo hi i) ∧ (xs = xs) ∧ ((.fn 205 0 [.bx [.int .i64 lo] 0, .bx [.int .i64 hi] 0] : D) = (.fn 205 0 [.bx [.int .i64 lo] 0, .bx [.int .i64 hi] 0] : D)) ∧ ((xs.length : Int) = (xs.length : Int)) ∧ ((i + 1) = i'))))) ∧ ((decide (i < (xs.length : Int))) = false → ((((-1) : Int) = (idxI (fun x => !(inB x lo hi)) xs)))))))
theorem slices_IndexFunc_int_int_aB_vc (xs : List Int) (lo : Int) (hi : Int)  (w_xs : (xs.length : Int) ≤ 9223372036854775807) : slices_IndexFunc_int_int_aB_P xs lo hi := by
  unfold slices_IndexFunc_int_int_aB_P
  refine ⟨?_, ?_⟩
  ·refine ⟨0, ?_⟩
   refine ⟨?_, rfl, rfl, rfl, rfl⟩
   ·refine ⟨?_, ?_, ?_⟩
    ·omega
    ·omega
    ·omega
  ·intro i hJ
   obtain ⟨h1, h2, h3⟩ := hJ
   refine ⟨?_, ?_⟩
   ·intro b1
    try simp only [nrmT] at b1
    refine ⟨?_, ?_, ?_, i_areBetween_1_pc (xs.getD i.toNat 0) lo hi, ?_, ?_⟩
    ·omega
    ·omega
    ·omega
    ·intro b2
     try simp only [nrmT] at b2
     exact idx_found (p := fun x => !(inB x lo hi)) h1 b1 h3 (by simpa using b2)
    ·intro b3
     try simp only [nrmT] at b3
     refine ⟨?_, ?_⟩
     ·omega
     ·refine ⟨(i + 1), ?_⟩
      refine ⟨?_, ?_, rfl, rfl, rfl, rfl⟩
      ·refine ⟨?_, ?_, ?_⟩
       ·omega
       ·omega
       ·exact idx_step (p := fun x => !(inB x lo hi)) h1 h3 (by simpa using b3)
      ·first | (show _ < _; omega) | (simp only [slices_IndexFunc_int_int_aB_mJ0]; omega) | (simp only [slices_IndexFunc_int_int_aB_mJ0] at *; simp at *; omega)
   ·intro b4
    try simp only [nrmT] at b4
    exact (idx_none (by omega) h3).symm
theorem slices_IndexFunc_int_int_aB_pc (xs : List Int) (lo : Int) (hi : Int)  : PC Try.prog 204 [.sl (.ints xs), .fn 205 0 [.bx [.int .i64 lo] 0, .bx [.int .i64 hi] 0]] (.one (.d (.int .i64 (idxI (fun x => !(inB x lo hi)) xs)))) :=
  pc_wf @Try.call204 fun hw => pc_by (by kernel_rfl) Try.func204 @Try.call204 (by kernel_rfl) slices_IndexFunc_int_int_aB_C (slices_IndexFunc_int_int_aB_A xs lo hi) (by kernel_rfl) (slices_IndexFunc_int_int_aB_vc xs lo hi hw.1) (by kernel_rfl)
def slices_IndexFunc_int_int_aB_orc : List D → Orc := orcN [some .ints, none] fun ds => match ds with
  | [.sl (.ints xs), .fn f0 0 [.bx [.int .i64 lo] 0, .bx [.int .i64 hi] 0]] => bif Nat.beq f0 205 then some (.one (.d (.int .i64 (idxI (fun x => !(inB x lo hi)) xs)))) else none
  | _ => none
def slices_ContainsFunc_int_int_aB_C (f : FuncId) (ds : List D) : Orc := bif Nat.beq f 204 then slices_IndexFunc_int_int_aB_orc ds else .no
def slices_ContainsFunc_int_int_aB_A (xs : List Int) (lo : Int) (hi : Int) : Ann := .none
def slices_ContainsFunc_int_int_aB_P (xs : List Int) (lo : Int) (hi : Int) : Prop :=
  (PC Try.prog 204 [.sl (.ints xs), .fn 205 0 [.bx [.int .i64 lo] 0, .bx [.int .i64 hi] 0]] (.one (.d (.int .i64 (idxI (fun x => !(inB x lo hi)) xs))))) ∧ (((decide ((idxI (fun x => !(inB x lo hi)) xs) ≥ 0)) = (xs.any (fun x => !(inB x lo hi)))))
theorem slices_ContainsFunc_int_int_aB_vc (xs : List Int) (lo : Int) (hi : Int)  (w_xs : (xs.length : Int) ≤ 9223372036854775807) : slices_ContainsFunc_int_int_aB_P xs lo hi := by
  unfold slices_ContainsFunc_int_int_aB_P
  refine ⟨slices_IndexFunc_int_int_aB_pc xs lo hi, ?_⟩
  ·exact idx_any _ _
theorem slices_ContainsFunc_int_int_aB_pc (xs : List Int) (lo : Int) (hi : Int)  : PC Try.prog 127 [.sl (.ints xs), .fn 205 0 [.bx [.int .i64 lo] 0, .bx [.int .i64 hi] 0]] (.one (.d (.bool (xs.any (fun x => !(inB x lo hi)))))) :=
  pc_wf @Try.call127 fun hw => pc_by (by kernel_rfl) Try.func127 @Try.call127 (by kernel_rfl) slices_ContainsFunc_int_int_aB_C (slices_ContainsFunc_int_int_aB_A xs lo hi) (by kernel_rfl) (slices_ContainsFunc_int_int_aB_vc xs lo hi hw.1) (by kernel_rfl)
def slices_ContainsFunc_int_int_aB_orc : List D → Orc := orcN [some .ints, none] fun ds => match ds with
  | [.sl (.ints xs), .fn f0 0 [.bx [.int .i64 lo] 0, .bx [.int .i64 hi] 0]] => bif Nat.beq f0 205 then some (.one (.d (.bool (xs.any (fun x => !(inB x lo hi)))))) else none
  | _ => none
def i_areBetween_C (f : FuncId) (ds : List D) : Orc := bif Nat.beq f 127 then slices_ContainsFunc_int_int_aB_orc ds else .no
def i_areBetween_A (xs : List Int) (lo : Int) (hi : Int) : Ann := .none
def i_areBetween_P (xs : List Int) (lo : Int) (hi : Int) : Prop :=
  (PC Try.prog 127 [.sl (.ints xs), .fn 205 0 [.bx [.int .i64 lo] 0, .bx [.int .i64 hi] 0]] (.one (.d (.bool (xs.any (fun x => !(inB x lo hi))))))) ∧ (((!(xs.any (fun x => !(inB x lo hi)))) = (xs.all (fun x => inB x lo hi))))
theorem i_areBetween_vc (xs : List Int) (lo : Int) (hi : Int)  (w_xs : (xs.length : Int) ≤ 9223372036854775807) : i_areBetween_P xs lo hi := by
  unfold i_areBetween_P
  refine ⟨slices_ContainsFunc_int_int_aB_pc xs lo hi, ?_⟩
  ·exact any_not _ _
theorem i_areBetween_pc (xs : List Int) (lo : Int) (hi : Int)  : PC Try.prog 131 [.sl (.ints xs), .int .i64 lo, .int .i64 hi] (.one (.d (.bool (xs.all (fun x => inB x lo hi))))) :=
  pc_wf @Try.call131 fun hw => pc_by (by kernel_rfl) Try.func131 @Try.call131 (by kernel_rfl) i_areBetween_C (i_areBetween_A xs lo hi) (by kernel_rfl) (i_areBetween_vc xs lo hi hw.1) (by kernel_rfl)
def i_areBetween_orc : List D → Orc := orcN [some .ints, none, none] fun ds => match ds with
  | [.sl (.ints xs), .int .i64 lo, .int .i64 hi] => some (.one (.d (.bool (xs.all (fun x => inB x lo hi)))))
  | _ => none
theorem beq_of_all {α : Type} [BEq α] [LawfulBEq α] {d : α} {xs ys : List α} (hl : xs.length = ys.length) : allTo (fun k => xs.getD k d == ys.getD k d) xs.length = (xs == ys) := by
  rw [Bool.eq_iff_iff, allTo_iff]
  simp only [beq_iff_eq]
  constructor
  · intro h
    refine List.ext_getElem hl fun k h1 h2 => ?_
    have := h k h1
    simpa [h1, h2] using this
  · intro h k _
    rw [h]
theorem len_ne {α : Type} [BEq α] [LawfulBEq α] {xs ys : List α} (h : ¬ xs.length = ys.length) : (xs == ys) = false := by
  rw [Bool.eq_false_iff]; intro h2; simp only [beq_iff_eq] at h2; exact h (by rw [h2])
def rowOk (row : List Int) (n most : Int) : Bool := row.all (fun x => inB x 0 most) && decide ((row.length : Int) = n)
def goodField (Open : List Int) (Dist : List (List Int)) : Bool :=
  inB (Open.length : Int) 1 7 && Open.all (fun x => inB x 0 99) && decide (Dist.length ≤ 7) && Dist.all (fun l => rowOk l (Open.length : Int) 99)
theorem gf_open {Open : List Int} {Dist : List (List Int)} (h : goodField Open Dist = true) : 1 ≤ Open.length ∧ Open.length ≤ 7 ∧ Dist.length ≤ 7 := by
  simp only [goodField, Bool.and_eq_true, decide_eq_true_eq] at h
  have := inB_le h.1.1.1
  omega
theorem gf_row {Open : List Int} {Dist : List (List Int)} (h : goodField Open Dist = true) {i : Nat} (hi : i < Dist.length) : (Dist.getD i []).length = Open.length ∧ ∀ a, a < Open.length → 0 ≤ (Dist.getD i []).getD a 0 ∧ (Dist.getD i []).getD a 0 ≤ 99 := by
  simp only [goodField, Bool.and_eq_true, decide_eq_true_eq] at h
  have h2 := List.all_eq_true.1 h.2 _ (getD_mem (d := []) hi)
  simp only [rowOk, Bool.and_eq_true, decide_eq_true_eq] at h2
  refine ⟨by omega, fun a ha => ?_⟩
  exact inB_le (List.all_eq_true.1 h2.1 _ (getD_mem (by omega)))
abbrev s_l2Row_JJ0 (row : List Int) (n : Int) (most : Int) (i : Int) : Prop := (0 ≤ i) ∧ (i ≤ (row.length : Int)) ∧ (allTo (fun k => inB (row.getD k 0) 0 most) i.toNat = true)
abbrev s_l2Row_mJ0 (row : List Int) (n : Int) (most : Int) (i : Int) : Nat := (row.length - i).toNat
def s_l2Row_C (f : FuncId) (ds : List D) : Orc := bif Nat.beq f 116 then s_l1In_orc ds else .no
def s_l2Row_A (row : List Int) (n : Int) (most : Int) : Ann := .two (.none) (.two (.two (.none) (.loop (cut1 (fun (i : Int) => s_l2Row_JJ0 row n most i) (fun (i : Int) => [(0, .d false (.sl (.ints row))), (1, .d false (.int .i64 n)), (2, .d false (.int .i64 most)), (7, .d true (.int .i64 i))]) (fun (i : Int) => [])) (fun g => s_l2Row_mJ0 row n most g) (fun _ => .none))) (.none))
def s_l2Row_P (row : List Int) (n : Int) (most : Int) : Prop :=
  ((∃ i' : Int, (s_l2Row_JJ0 row n most i') ∧ (row = row) ∧ (n = n) ∧ (most = most) ∧ ((0 : Int) = i')) ∧ (∀ i : Int, (s_l2Row_JJ0 row n most i) → (((decide (i < (row.length : Int))) = true → ((0 : Int) ≤ i) ∧ ((i : Int) < row.length) ∧ (i.toNat < row.length) ∧ (PC Try.prog 116 [.int .i64 (row.getD i.toNat 0), .int .i64 0, .int .i64 most] (.one (.d (.bool (inB (row.getD i.toNat 0) 0 most))))) ∧ (((!(inB (row.getD i.toNat 0) 0 most)) = true → ((false = (rowOk row n most)))) ∧ ((!(inB (row.getD i.toNat 0) 0 most)) = false → (-9223372036854775808 ≤ (i + 1) ∧ (i + 1) ≤ 9223372036854775807) ∧ (∃ i' : Int, (s_l2Row_JJ0 row n most i') ∧ (s_l2Row_mJ0 row n most i' < s_l2Row_mJ0 row n most i) ∧ (row = row) ∧ (n = n) ∧ (most = most) ∧ ((i + 1) = i'))))) ∧ ((decide (i < (row.length : Int))) = false → ((((row.length : Int) == n) = (rowOk row n most)))))))
theorem s_l2Row_vc (row : List Int) (n : Int) (most : Int)  (w_row : (row.length : Int) ≤ 9223372036854775807) : s_l2Row_P row n most := by
  unfold s_l2Row_P
  refine ⟨?_, ?_⟩
  ·refine ⟨0, ?_⟩
   refine ⟨?_, rfl, rfl, rfl, rfl⟩
   ·refine ⟨?_, ?_, ?_⟩
    ·omega
    ·omega
    ·rfl
  ·intro i hJ
   obtain ⟨h1, h2, h3⟩ := hJ
   refine ⟨?_, ?_⟩
   ·intro b1
    try simp only [nrmT] at b1
    refine ⟨?_, ?_, ?_, s_l1In_pc (row.getD i.toNat 0) 0 most, ?_, ?_⟩
    ·omega
    ·omega
    ·omega
    ·intro b2
     try simp only [nrmT] at b2
     unfold rowOk
     rw [all_no (p := fun x => inB x 0 most) (d := 0) h1 (by omega) b2]; rfl
    ·intro b3
     try simp only [nrmT] at b3
     refine ⟨?_, ?_⟩
     ·omega
     ·refine ⟨(i + 1), ?_⟩
      refine ⟨?_, ?_, rfl, rfl, rfl, rfl⟩
      ·refine ⟨?_, ?_, ?_⟩
       ·omega
       ·omega
       ·exact allTo_step h1 h3 b3
      ·first | (show _ < _; omega) | (simp only [s_l2Row_mJ0]; omega) | (simp only [s_l2Row_mJ0] at *; simp at *; omega)
   ·intro b4
    try simp only [nrmT] at b4
    unfold rowOk
    rw [all_end (p := fun x => inB x 0 most) (d := 0) (by omega) h2 h3, Bool.true_and]; rfl
theorem s_l2Row_pc (row : List Int) (n : Int) (most : Int)  : PC Try.prog 150 [.sl (.ints row), .int .i64 n, .int .i64 most] (.one (.d (.bool (rowOk row n most)))) :=
  pc_wf @Try.call150 fun hw => pc_by (by kernel_rfl) Try.func150 @Try.call150 (by kernel_rfl) s_l2Row_C (s_l2Row_A row n most) (by kernel_rfl) (s_l2Row_vc row n most hw.1) (by kernel_rfl)
def s_l2Row_orc : List D → Orc := orcN [some .ints, none, none] fun ds => match ds with
  | [.sl (.ints row), .int .i64 n, .int .i64 most] => some (.one (.d (.bool (rowOk row n most))))
  | _ => none
abbrev s_l2Good_JJ0 (Open : List Int) (Dist : List (List Int)) (i : Int) : Prop := (0 ≤ i) ∧ (i ≤ (Dist.length : Int)) ∧ (allTo (fun k => rowOk (Dist.getD k []) (Open.length : Int) 99) i.toNat = true)
abbrev s_l2Good_mJ0 (Open : List Int) (Dist : List (List Int)) (i : Int) : Nat := (Dist.length - i).toNat
def s_l2Good_C (f : FuncId) (ds : List D) : Orc := bif Nat.beq f 150 then s_l2Row_orc ds else bif Nat.beq f 116 then s_l1In_orc ds else .no
def s_l2Good_A (Open : List Int) (Dist : List (List Int)) : Ann := .two (.none) (.two (.none) (.two (.two (.none) (.loop (cut1 (fun (i : Int) => s_l2Good_JJ0 Open Dist i) (fun (i : Int) => [(1, .ptr 1 0), (3, .d true (.int .i64 (Open.length : Int))), (4, .d true (.int .i64 i))]) (fun (i : Int) => [(1, .box 39 [.d false (.sl (.ints Open)), .d false (.sl (.rows Dist))])])) (fun g => s_l2Good_mJ0 Open Dist g) (fun _ => .none))) (.none)))
def s_l2Good_P (Open : List Int) (Dist : List (List Int)) : Prop :=
  ((∃ i' : Int, (s_l2Good_JJ0 Open Dist i') ∧ ((Open.length : Int) = (Open.length : Int)) ∧ ((0 : Int) = i') ∧ (Open = Open) ∧ (Dist = Dist)) ∧ (∀ i : Int, (s_l2Good_JJ0 Open Dist i) → (((decide (i < (Dist.length : Int))) = true → ((0 : Int) ≤ i) ∧ ((i : Int) < Dist.length) ∧ (i.toNat < Dist.length) ∧ (PC Try.prog 150 [.sl (.ints (Dist.getD i.toNat [])), .int .i64 (Open.length : Int), .int .i64 99] (.one (.d (.bool (rowOk (Dist.getD i.toNat []) (Open.length : Int) 99))))) ∧ (((!(rowOk (Dist.getD i.toNat []) (Open.length : Int) 99)) = true → ((false = (goodField Open Dist)))) ∧ ((!(rowOk (Dist.getD i.toNat []) (Open.length : Int) 99)) = false → (-9223372036854775808 ≤ (i + 1) ∧ (i + 1) ≤ 9223372036854775807) ∧ (∃ i' : Int, (s_l2Good_JJ0 Open Dist i') ∧ (s_l2Good_mJ0 Open Dist i' < s_l2Good_mJ0 Open Dist i) ∧ ((Open.length : Int) = (Open.length : Int)) ∧ ((i + 1) = i') ∧ (Open = Open) ∧ (Dist = Dist))))) ∧ ((decide (i < (Dist.length : Int))) = false → (PC Try.prog 116 [.int .i64 (Open.length : Int), .int .i64 1, .int .i64 7] (.one (.d (.bool (inB (Open.length : Int) 1 7))))) ∧ ((inB (Open.length : Int) 1 7) = true → (inB (Open.length : Int) 1 7) = true) ∧ ((inB (Open.length : Int) 1 7) = true → (inB (Open.length : Int) 1 7) = true) ∧ ((inB (Open.length : Int) 1 7) = true → (inB (Open.length : Int) 1 7) = true) ∧ ((inB (Open.length : Int) 1 7) = true → PC Try.prog 150 [.sl (.ints Open), .int .i64 (Open.length : Int), .int .i64 99] (.one (.d (.bool (rowOk Open (Open.length : Int) 99))))) ∧ (true = true) ∧ (((inB (Open.length : Int) 1 7) = true → (inB (Open.length : Int) 1 7) = true)) ∧ (((inB (Open.length : Int) 1 7) = false → true = true)) ∧ ((cond (inB (Open.length : Int) 1 7) (rowOk Open (Open.length : Int) 99) false) = true → (cond (inB (Open.length : Int) 1 7) (rowOk Open (Open.length : Int) 99) false) = true) ∧ ((cond (inB (Open.length : Int) 1 7) (rowOk Open (Open.length : Int) 99) false) = true → (cond (inB (Open.length : Int) 1 7) (rowOk Open (Open.length : Int) 99) false) = true) ∧ ((cond (inB (Open.length : Int) 1 7) (rowOk Open (Open.length : Int) 99) false) = true → (cond (inB (Open.length : Int) 1 7) (rowOk Open (Open.length : Int) 99) false) = true) ∧ (true = true) ∧ (((cond (inB (Open.length : Int) 1 7) (rowOk Open (Open.length : Int) 99) false) = true → (cond (inB (Open.length : Int) 1 7) (rowOk Open (Open.length : Int) 99) false) = true)) ∧ (((cond (inB (Open.length : Int) 1 7) (rowOk Open (Open.length : Int) 99) false) = false → true = true)) ∧ (((cond (cond (inB (Open.length : Int) 1 7) (rowOk Open (Open.length : Int) 99) false) (decide ((Dist.length : Int) ≤ 7)) false) = (goodField Open Dist)))))))
theorem s_l2Good_vc (Open : List Int) (Dist : List (List Int))  (w_Open : (Open.length : Int) ≤ 9223372036854775807) (w_Dist : (Dist.length : Int) ≤ 9223372036854775807) (v_Dist : ∀ x9 ∈ Dist, (x9.length : Int) ≤ 9223372036854775807) : s_l2Good_P Open Dist := by
  unfold s_l2Good_P
  refine ⟨?_, ?_⟩
  ·refine ⟨0, ?_⟩
   refine ⟨?_, rfl, rfl, rfl, rfl⟩
   ·refine ⟨?_, ?_, ?_⟩
    ·omega
    ·omega
    ·rfl
  ·intro i hJ
   obtain ⟨h1, h2, h3⟩ := hJ
   refine ⟨?_, ?_⟩
   ·intro b1
    try simp only [nrmT] at b1
    refine ⟨?_, ?_, ?_, s_l2Row_pc (Dist.getD i.toNat []) (Open.length : Int) 99, ?_, ?_⟩
    ·omega
    ·omega
    ·omega
    ·intro b2
     try simp only [nrmT] at b2
     unfold goodField
     rw [all_no (p := fun l => rowOk l (Open.length : Int) 99) (d := []) h1 (by omega) b2, Bool.and_false]
    ·intro b3
     try simp only [nrmT] at b3
     refine ⟨?_, ?_⟩
     ·omega
     ·refine ⟨(i + 1), ?_⟩
      refine ⟨?_, ?_, rfl, rfl, rfl, rfl⟩
      ·refine ⟨?_, ?_, ?_⟩
       ·omega
       ·omega
       ·exact allTo_step h1 h3 b3
      ·first | (show _ < _; omega) | (simp only [s_l2Good_mJ0]; omega) | (simp only [s_l2Good_mJ0] at *; simp at *; omega)
   ·intro b4
    try simp only [nrmT] at b4
    refine ⟨s_l1In_pc (Open.length : Int) 1 7, id, id, id, fun _ => s_l2Row_pc Open (Open.length : Int) 99, rfl, id, fun _ => rfl, id, id, id, rfl, id, fun _ => rfl, ?_⟩
    ·unfold goodField
     rw [all_end (p := fun l => rowOk l (Open.length : Int) 99) (d := []) (by omega) h2 h3, show decide ((Dist.length : Int) ≤ 7) = decide (Dist.length ≤ 7) from len_le _ 7]
     unfold rowOk
     cases inB (Open.length : Int) 1 7 <;> cases Open.all (fun x => inB x 0 99) <;> cases decide (Dist.length ≤ 7) <;> simp
theorem s_l2Good_pc (Open : List Int) (Dist : List (List Int))  : PC Try.prog 115 [.agg [.sl (.ints Open), .sl (.rows Dist)]] (.one (.d (.bool (goodField Open Dist)))) :=
  pc_wf @Try.call115 fun hw => pc_by (by kernel_rfl) Try.func115 @Try.call115 (by kernel_rfl) s_l2Good_C (s_l2Good_A Open Dist) (by kernel_rfl) (s_l2Good_vc Open Dist hw.1.1 hw.1.2.1.1 hw.1.2.1.2) (by kernel_rfl)
def s_l2Good_orc : List D → Orc := orcN [none] fun ds => match ds with
  | [.agg [.sl (.ints Open), .sl (.rows Dist)]] => some (.one (.d (.bool (goodField Open Dist))))
  | _ => none
def i_IsField_1_C (f : FuncId) (ds : List D) : Orc := bif Nat.beq f 131 then i_areBetween_orc ds else .no
def i_IsField_1_A (xs : List Int) (Open : List Int) (Dist : List (List Int)) : Ann := .none
def i_IsField_1_P (xs : List Int) (Open : List Int) (Dist : List (List Int)) : Prop :=
  ((!((xs.length : Int) != (Open.length : Int))) = true → (!((xs.length : Int) != (Open.length : Int))) = true) ∧ ((!((xs.length : Int) != (Open.length : Int))) = true → PC Try.prog 131 [.sl (.ints xs), .int .i64 0, .int .i64 99] (.one (.d (.bool (xs.all (fun x => inB x 0 99)))))) ∧ ((!((xs.length : Int) != (Open.length : Int))) = true → (!((xs.length : Int) != (Open.length : Int))) = true) ∧ (true = true) ∧ ((((xs.length : Int) != (Open.length : Int)) = true → true = true)) ∧ ((((xs.length : Int) != (Open.length : Int)) = false → (!((xs.length : Int) != (Open.length : Int))) = true)) ∧ (((cond ((xs.length : Int) != (Open.length : Int)) true (!(xs.all (fun x => inB x 0 99)))) = (!(rowOk xs (Open.length : Int) 99))))
theorem i_IsField_1_vc (xs : List Int) (Open : List Int) (Dist : List (List Int))  (w_xs : (xs.length : Int) ≤ 9223372036854775807) (w_Open : (Open.length : Int) ≤ 9223372036854775807) (w_Dist : (Dist.length : Int) ≤ 9223372036854775807) (v_Dist : ∀ x9 ∈ Dist, (x9.length : Int) ≤ 9223372036854775807) : i_IsField_1_P xs Open Dist := by
  unfold i_IsField_1_P
  refine ⟨id, fun _ => i_areBetween_pc xs 0 99, id, rfl, fun _ => rfl, ?_, ?_⟩
  ·(simp_all; done)
  ·unfold rowOk
   by_cases h : (xs.length : Int) = (Open.length : Int)
   · simp [h]
   · simp [h]
theorem i_IsField_1_pc (xs : List Int) (Open : List Int) (Dist : List (List Int))  : PC Try.prog 200 [.sl (.ints xs), .bx [.sl (.ints Open), .sl (.rows Dist)] 0] (.one (.d (.bool (!(rowOk xs (Open.length : Int) 99))))) :=
  pc_wf @Try.call200 fun hw => pc_by (by kernel_rfl) Try.func200 @Try.call200 (by kernel_rfl) i_IsField_1_C (i_IsField_1_A xs Open Dist) (by kernel_rfl) (i_IsField_1_vc xs Open Dist hw.1 hw.2.1.1 hw.2.1.2.1.1 hw.2.1.2.1.2) (by kernel_rfl)
def i_IsField_1_orc : List D → Orc := orcN [some .ints, none] fun ds => match ds with
  | [.sl (.ints xs), .bx [.sl (.ints Open), .sl (.rows Dist)] 0] => some (.one (.d (.bool (!(rowOk xs (Open.length : Int) 99)))))
  | _ => none
abbrev slices_IndexFunc_int_int_iF_JJ0 (xs : List (List Int)) (Open : List Int) (Dist : List (List Int)) (i : Int) : Prop := (0 ≤ i) ∧ (i ≤ (xs.length : Int)) ∧ (∀ k, k < i.toNat → (fun x => !(rowOk x (Open.length : Int) 99)) (xs.getD k []) = false)
abbrev slices_IndexFunc_int_int_iF_mJ0 (xs : List (List Int)) (Open : List Int) (Dist : List (List Int)) (i : Int) : Nat := (xs.length - i).toNat
def slices_IndexFunc_int_int_iF_C (f : FuncId) (ds : List D) : Orc := bif Nat.beq f 200 then i_IsField_1_orc ds else .no
def slices_IndexFunc_int_int_iF_A (xs : List (List Int)) (Open : List Int) (Dist : List (List Int)) : Ann := .two (.none) (.two (.two (.none) (.loop (cut1 (fun (i : Int) => slices_IndexFunc_int_int_iF_JJ0 xs Open Dist i) (fun (i : Int) => [(0, .d false (.sl (.rows xs))), (1, .d false (.fn 200 0 [.bx [.sl (.ints Open), .sl (.rows Dist)] 0])), (7, .d true (.int .i64 (xs.length : Int))), (8, .d true (.int .i64 i))]) (fun (i : Int) => [])) (fun g => slices_IndexFunc_int_int_iF_mJ0 xs Open Dist g) (fun _ => .none))) (.none))
def slices_IndexFunc_int_int_iF_P (xs : List (List Int)) (Open : List Int) (Dist : List (List Int)) : Prop :=
  ((∃ i' : Int, (slices_IndexFunc_int_int_iF_JJ0 xs Open Dist i') ∧ (xs = xs) ∧ ((.fn 200 0 [.bx [.sl (.ints Open), .sl (.rows Dist)] 0] : D) = (.fn 200 0 [.bx [.sl (.ints Open), .sl (.rows Dist)] 0] : D)) ∧ ((xs.length : Int) = (xs.length : Int)) ∧ ((0 : Int) = i')) ∧ (∀ i : Int, (slices_IndexFunc_int_int_iF_JJ0 xs Open Dist i) → (((decide (i < (xs.length : Int))) = true → ((0 : Int) ≤ i) ∧ ((i : Int) < xs.length) ∧ (i.toNat < xs.length) ∧ (PC Try.prog 200 [.sl (.ints (xs.getD i.toNat [])), .bx [.sl (.ints Open), .sl (.rows Dist)] 0] (.one (.d (.bool (!(rowOk (xs.getD i.toNat []) (Open.length : Int) 99)))))) ∧ (((!(rowOk (xs.getD i.toNat []) (Open.length : Int) 99)) = true → ((i = (idxI (fun x => !(rowOk x (Open.length : Int) 99)) xs)))) ∧ ((!(rowOk (xs.getD i.toNat []) (Open.length : Int) 99)) = false → (-9223372036854775808 ≤ (i + 1) ∧ (i + 1) ≤ 9223372036854775807) ∧ (∃ i' : Int, (slices_IndexFunc_int_int_iF_JJ0 xs Open Dist i') ∧ (slices_IndexFunc_int_int_iF_mJ0 xs Open Dist i' < slices_IndexFunc_int_int_iF_mJ0 xs Open Dist i) ∧ (xs = xs) ∧ ((.fn 200 0 [.bx [.sl (.ints Open), .sl (.rows Dist)] 0] : D) = (.fn 200 0 [.bx [.sl (.ints Open), .sl (.rows Dist)] 0] : D)) ∧ ((xs.length : Int) = (xs.length : Int)) ∧ ((i + 1) = i'))))) ∧ ((decide (i < (xs.length : Int))) = false → ((((-1) : Int) = (idxI (fun x => !(rowOk x (Open.length : Int) 99)) xs)))))))
theorem slices_IndexFunc_int_int_iF_vc (xs : List (List Int)) (Open : List Int) (Dist : List (List Int))  (w_xs : (xs.length : Int) ≤ 9223372036854775807) (v_xs : ∀ x9 ∈ xs, (x9.length : Int) ≤ 9223372036854775807) (w_Open : (Open.length : Int) ≤ 9223372036854775807) (w_Dist : (Dist.length : Int) ≤ 9223372036854775807) (v_Dist : ∀ x9 ∈ Dist, (x9.length : Int) ≤ 9223372036854775807) : slices_IndexFunc_int_int_iF_P xs Open Dist := by
  unfold slices_IndexFunc_int_int_iF_P
  refine ⟨?_, ?_⟩
  ·refine ⟨0, ?_⟩
   refine ⟨?_, rfl, rfl, rfl, rfl⟩
   ·refine ⟨?_, ?_, ?_⟩
    ·omega
    ·omega
    ·omega
  ·intro i hJ
   obtain ⟨h1, h2, h3⟩ := hJ
   refine ⟨?_, ?_⟩
   ·intro b1
    try simp only [nrmT] at b1
    refine ⟨?_, ?_, ?_, i_IsField_1_pc (xs.getD i.toNat []) Open Dist, ?_, ?_⟩
    ·omega
    ·omega
    ·omega
    ·intro b2
     try simp only [nrmT] at b2
     exact idx_found (p := fun x => !(rowOk x (Open.length : Int) 99)) h1 b1 h3 (by simpa using b2)
    ·intro b3
     try simp only [nrmT] at b3
     refine ⟨?_, ?_⟩
     ·omega
     ·refine ⟨(i + 1), ?_⟩
      refine ⟨?_, ?_, rfl, rfl, rfl, rfl⟩
      ·refine ⟨?_, ?_, ?_⟩
       ·omega
       ·omega
       ·exact idx_step (p := fun x => !(rowOk x (Open.length : Int) 99)) h1 h3 (by simpa using b3)
      ·first | (show _ < _; omega) | (simp only [slices_IndexFunc_int_int_iF_mJ0]; omega) | (simp only [slices_IndexFunc_int_int_iF_mJ0] at *; simp at *; omega)
   ·intro b4
    try simp only [nrmT] at b4
    exact (idx_none (by omega) h3).symm
theorem slices_IndexFunc_int_int_iF_pc (xs : List (List Int)) (Open : List Int) (Dist : List (List Int))  : PC Try.prog 224 [.sl (.rows xs), .fn 200 0 [.bx [.sl (.ints Open), .sl (.rows Dist)] 0]] (.one (.d (.int .i64 (idxI (fun x => !(rowOk x (Open.length : Int) 99)) xs)))) :=
  pc_wf @Try.call224 fun hw => pc_by (by kernel_rfl) Try.func224 @Try.call224 (by kernel_rfl) slices_IndexFunc_int_int_iF_C (slices_IndexFunc_int_int_iF_A xs Open Dist) (by kernel_rfl) (slices_IndexFunc_int_int_iF_vc xs Open Dist hw.1.1 hw.1.2 hw.2.1.1.1 hw.2.1.1.2.1.1 hw.2.1.1.2.1.2) (by kernel_rfl)
def slices_IndexFunc_int_int_iF_orc : List D → Orc := orcN [some .rows, none] fun ds => match ds with
  | [.sl (.rows xs), .fn f0 0 [.bx [.sl (.ints Open), .sl (.rows Dist)] 0]] => bif Nat.beq f0 200 then some (.one (.d (.int .i64 (idxI (fun x => !(rowOk x (Open.length : Int) 99)) xs)))) else none
  | _ => none
def slices_ContainsFunc_int_int_iF_C (f : FuncId) (ds : List D) : Orc := bif Nat.beq f 224 then slices_IndexFunc_int_int_iF_orc ds else .no
def slices_ContainsFunc_int_int_iF_A (xs : List (List Int)) (Open : List Int) (Dist : List (List Int)) : Ann := .none
def slices_ContainsFunc_int_int_iF_P (xs : List (List Int)) (Open : List Int) (Dist : List (List Int)) : Prop :=
  (PC Try.prog 224 [.sl (.rows xs), .fn 200 0 [.bx [.sl (.ints Open), .sl (.rows Dist)] 0]] (.one (.d (.int .i64 (idxI (fun x => !(rowOk x (Open.length : Int) 99)) xs))))) ∧ (((decide ((idxI (fun x => !(rowOk x (Open.length : Int) 99)) xs) ≥ 0)) = (xs.any (fun x => !(rowOk x (Open.length : Int) 99)))))
theorem slices_ContainsFunc_int_int_iF_vc (xs : List (List Int)) (Open : List Int) (Dist : List (List Int))  (w_xs : (xs.length : Int) ≤ 9223372036854775807) (v_xs : ∀ x9 ∈ xs, (x9.length : Int) ≤ 9223372036854775807) (w_Open : (Open.length : Int) ≤ 9223372036854775807) (w_Dist : (Dist.length : Int) ≤ 9223372036854775807) (v_Dist : ∀ x9 ∈ Dist, (x9.length : Int) ≤ 9223372036854775807) : slices_ContainsFunc_int_int_iF_P xs Open Dist := by
  unfold slices_ContainsFunc_int_int_iF_P
  refine ⟨slices_IndexFunc_int_int_iF_pc xs Open Dist, ?_⟩
  ·exact idx_any _ _
theorem slices_ContainsFunc_int_int_iF_pc (xs : List (List Int)) (Open : List Int) (Dist : List (List Int))  : PC Try.prog 169 [.sl (.rows xs), .fn 200 0 [.bx [.sl (.ints Open), .sl (.rows Dist)] 0]] (.one (.d (.bool (xs.any (fun x => !(rowOk x (Open.length : Int) 99)))))) :=
  pc_wf @Try.call169 fun hw => pc_by (by kernel_rfl) Try.func169 @Try.call169 (by kernel_rfl) slices_ContainsFunc_int_int_iF_C (slices_ContainsFunc_int_int_iF_A xs Open Dist) (by kernel_rfl) (slices_ContainsFunc_int_int_iF_vc xs Open Dist hw.1.1 hw.1.2 hw.2.1.1.1 hw.2.1.1.2.1.1 hw.2.1.1.2.1.2) (by kernel_rfl)
def slices_ContainsFunc_int_int_iF_orc : List D → Orc := orcN [some .rows, none] fun ds => match ds with
  | [.sl (.rows xs), .fn f0 0 [.bx [.sl (.ints Open), .sl (.rows Dist)] 0]] => bif Nat.beq f0 200 then some (.one (.d (.bool (xs.any (fun x => !(rowOk x (Open.length : Int) 99)))))) else none
  | _ => none
def i_IsField_C (f : FuncId) (ds : List D) : Orc := bif Nat.beq f 120 then i_between_orc ds else bif Nat.beq f 131 then i_areBetween_orc ds else bif Nat.beq f 169 then slices_ContainsFunc_int_int_iF_orc ds else .no
def i_IsField_A (Open : List Int) (Dist : List (List Int)) : Ann := .none
def i_IsField_e1 (Open : List Int) (Dist : List (List Int)) : Bool := (cond (cond (inB (Open.length : Int) 1 7) (Open.all (fun x => inB x 0 99)) false) (decide ((Dist.length : Int) ≤ 7)) false)
def i_IsField_P (Open : List Int) (Dist : List (List Int)) : Prop :=
  (PC Try.prog 120 [.int .i64 (Open.length : Int), .int .i64 1, .int .i64 7] (.one (.d (.bool (inB (Open.length : Int) 1 7))))) ∧ ((inB (Open.length : Int) 1 7) = true → (inB (Open.length : Int) 1 7) = true) ∧ ((inB (Open.length : Int) 1 7) = true → (inB (Open.length : Int) 1 7) = true) ∧ ((inB (Open.length : Int) 1 7) = true → PC Try.prog 131 [.sl (.ints Open), .int .i64 0, .int .i64 99] (.one (.d (.bool (Open.all (fun x => inB x 0 99)))))) ∧ (true = true) ∧ (((inB (Open.length : Int) 1 7) = true → (inB (Open.length : Int) 1 7) = true)) ∧ (((inB (Open.length : Int) 1 7) = false → true = true)) ∧ ((cond (inB (Open.length : Int) 1 7) (Open.all (fun x => inB x 0 99)) false) = true → (cond (inB (Open.length : Int) 1 7) (Open.all (fun x => inB x 0 99)) false) = true) ∧ ((cond (inB (Open.length : Int) 1 7) (Open.all (fun x => inB x 0 99)) false) = true → (cond (inB (Open.length : Int) 1 7) (Open.all (fun x => inB x 0 99)) false) = true) ∧ ((cond (inB (Open.length : Int) 1 7) (Open.all (fun x => inB x 0 99)) false) = true → (cond (inB (Open.length : Int) 1 7) (Open.all (fun x => inB x 0 99)) false) = true) ∧ (true = true) ∧ (((cond (inB (Open.length : Int) 1 7) (Open.all (fun x => inB x 0 99)) false) = true → (cond (inB (Open.length : Int) 1 7) (Open.all (fun x => inB x 0 99)) false) = true)) ∧ (((cond (inB (Open.length : Int) 1 7) (Open.all (fun x => inB x 0 99)) false) = false → true = true)) ∧ ((i_IsField_e1 Open Dist) = true → (i_IsField_e1 Open Dist) = true) ∧ ((i_IsField_e1 Open Dist) = true → (i_IsField_e1 Open Dist) = true) ∧ ((i_IsField_e1 Open Dist) = true → (i_IsField_e1 Open Dist) = true) ∧ ((i_IsField_e1 Open Dist) = true → PC Try.prog 169 [.sl (.rows Dist), .fn 200 0 [.bx [.sl (.ints Open), .sl (.rows Dist)] 0]] (.one (.d (.bool (Dist.any (fun x => !(rowOk x (Open.length : Int) 99))))))) ∧ ((i_IsField_e1 Open Dist) = true → (i_IsField_e1 Open Dist) = true) ∧ (true = true) ∧ (((i_IsField_e1 Open Dist) = true → (i_IsField_e1 Open Dist) = true)) ∧ (((i_IsField_e1 Open Dist) = false → true = true)) ∧ (((cond (i_IsField_e1 Open Dist) (!(Dist.any (fun x => !(rowOk x (Open.length : Int) 99)))) false) = (goodField Open Dist)))
theorem i_IsField_vc (Open : List Int) (Dist : List (List Int))  (w_Open : (Open.length : Int) ≤ 9223372036854775807) (w_Dist : (Dist.length : Int) ≤ 9223372036854775807) (v_Dist : ∀ x9 ∈ Dist, (x9.length : Int) ≤ 9223372036854775807) : i_IsField_P Open Dist := by
  unfold i_IsField_P i_IsField_e1
  refine ⟨i_between_pc (Open.length : Int) 1 7, id, id, fun _ => i_areBetween_pc Open 0 99, rfl, id, fun _ => rfl, id, id, id, rfl, id, fun _ => rfl, id, id, id, fun _ => slices_ContainsFunc_int_int_iF_pc Dist Open Dist, id, rfl, id, fun _ => rfl, ?_⟩
  ·unfold goodField
   rw [any_not, show decide ((Dist.length : Int) ≤ 7) = decide (Dist.length ≤ 7) from len_le _ 7]
   cases inB (Open.length : Int) 1 7 <;> cases Open.all (fun x => inB x 0 99) <;> cases decide (Dist.length ≤ 7) <;> simp
theorem i_IsField_pc (Open : List Int) (Dist : List (List Int))  : PC Try.prog 119 [.agg [.sl (.ints Open), .sl (.rows Dist)]] (.one (.d (.bool (goodField Open Dist)))) :=
  pc_wf @Try.call119 fun hw => pc_by (by kernel_rfl) Try.func119 @Try.call119 (by kernel_rfl) i_IsField_C (i_IsField_A Open Dist) (by kernel_rfl) (i_IsField_vc Open Dist hw.1.1 hw.1.2.1.1 hw.1.2.1.2) (by kernel_rfl)
def i_IsField_orc : List D → Orc := orcN [none] fun ds => match ds with
  | [.agg [.sl (.ints Open), .sl (.rows Dist)]] => some (.one (.d (.bool (goodField Open Dist))))
  | _ => none
def s_l1Least_C (f : FuncId) (ds : List D) : Orc := .no
def s_l1Least_A (a : Int) (b : Int) : Ann := .none
def s_l1Least_P (a : Int) (b : Int) : Prop :=
  (((decide (a < b)) = true → ((a = (min a b)))) ∧ ((decide (a < b)) = false → ((b = (min a b)))))
theorem s_l1Least_vc (a : Int) (b : Int)   : s_l1Least_P a b := by
  unfold s_l1Least_P
  refine ⟨?_, ?_⟩
  ·intro b1
   try simp only [nrmT] at b1
   omega
  ·intro b2
   try simp only [nrmT] at b2
   omega
theorem s_l1Least_pc (a : Int) (b : Int)  : PC Try.prog 165 [.int .i64 a, .int .i64 b] (.one (.d (.int .i64 (min a b)))) :=
  pc_wf @Try.call165 fun _ => pc_by (by kernel_rfl) Try.func165 @Try.call165 (by kernel_rfl) s_l1Least_C (s_l1Least_A a b) (by kernel_rfl) (s_l1Least_vc a b) (by kernel_rfl)
def s_l1Least_orc : List D → Orc := orcN [none, none] fun ds => match ds with
  | [.int .i64 a, .int .i64 b] => some (.one (.d (.int .i64 (min a b))))
  | _ => none
theorem rising_at {xs : List Int} {lo hi : Int} (h : rising xs lo hi = true) : ∀ k, k < xs.length → lo + k ≤ xs.getD k 0 ∧ xs.getD k 0 ≤ hi := by
  intro k
  induction k with
  | zero =>
    intro hk
    have h1 := allTo_iff.1 h 0 hk
    simp only [risingP, Bool.and_eq_true] at h1
    have := inB_le h1.1
    omega
  | succ k ih =>
    intro hk
    have h0 := ih (by omega)
    have h1 := allTo_iff.1 h (k + 1) hk
    simp only [risingP, Bool.and_eq_true, Bool.or_eq_true, decide_eq_true_eq, Nat.add_sub_cancel] at h1
    have := inB_le h1.1
    have h2 := h1.2
    omega
def i_bag_has_C (f : FuncId) (ds : List D) : Orc := .no
def i_bag_has_A (b : Int) (x : Int) : Ann := .none
def i_bag_has_P (b : Int) (x : Int) : Prop :=
  ((0 : Int) ≤ b ∧ (b : Int) ≤ 18446744073709551615) ∧ ((0 : Int) ≤ x) ∧ ((0 : Int) ≤ (b / 2 ^ x.toNat) ∧ ((b / 2 ^ x.toNat) : Int) ≤ 18446744073709551615) ∧ ((0 : Int) ≤ 1 ∧ (1 : Int) ≤ 18446744073709551615) ∧ ((((((b / 2 ^ x.toNat).toNat &&& 1 : Nat) : Int) == 1) = (b.toNat.testBit x.toNat)))
theorem i_bag_has_vc (b : Int) (x : Int) (hb : 0 ≤ b ∧ b ≤ 4611686018427387903) (hx : 0 ≤ x)  : i_bag_has_P b x := by
  unfold i_bag_has_P
  refine ⟨?_, ?_, ?_, ?_, ?_⟩
  ·omega
  ·omega
  ·have h1 : 0 ≤ b / 2 ^ x.toNat := Int.ediv_nonneg hb.1 (Int.le_of_lt (Int.pow_pos (by omega)))
   have h2 : b / 2 ^ x.toNat ≤ b := Int.ediv_le_self _ hb.1
   omega
  ·omega
  ·have e : b = ((b.toNat : Nat) : Int) := by omega
   have h := shr_bit (n := b.toNat) (k := x.toNat)
   rw [← e] at h
   rw [h]
   cases b.toNat.testBit x.toNat <;> rfl
theorem i_bag_has_pc (b : Int) (x : Int) (hb : 0 ≤ b ∧ b ≤ 4611686018427387903) (hx : 0 ≤ x) : PC Try.prog 226 [.int .u64 b, .int .i64 x] (.one (.d (.bool (b.toNat.testBit x.toNat)))) :=
  pc_wf @Try.call226 fun _ => pc_by (by kernel_rfl) Try.func226 @Try.call226 (by kernel_rfl) i_bag_has_C (i_bag_has_A b x) (by kernel_rfl) (i_bag_has_vc b x hb hx) (by kernel_rfl)
def i_bag_has_orc : List D → Orc := orcN [none, none] fun ds => match ds with
  | [.int .u64 b, .int .i64 x] => some (.one (.d (.bool (b.toNat.testBit x.toNat))))
  | _ => none
theorem rising_mem {xs : List Int} {lo hi : Int} (h : rising xs lo hi = true) : ∀ x ∈ xs, lo ≤ x ∧ x ≤ hi := by
  intro x hx
  obtain ⟨k, hk, rfl⟩ := List.mem_iff_getElem.1 hx
  have := rising_at h k hk
  simp [hk] at this
  omega
theorem pow8 {n : Nat} (h : n ≤ 8) : (2 : Nat) ^ n ≤ 256 := Nat.le_trans (Nat.pow_le_pow_right (by omega) h) (by decide)
theorem getD_get {α : Type} {xs : List α} {k : Nat} {d : α} (h : k < xs.length) : xs.getD k d = xs[k] := by simp [h]
theorem two_facts {Open set : List Int} {Dist : List (List Int)} (h : (goodField Open Dist && rising set 0 ((Open.length : Int) - 1) && decide (0 < set.length)) = true) :
    goodField Open Dist = true ∧ rising set 0 ((Open.length : Int) - 1) = true ∧ 0 < set.length := by
  simp only [Bool.and_eq_true, decide_eq_true_eq] at h
  exact ⟨h.1.1, h.1.2, h.2⟩
theorem lt62 {b x : Int} (hb : 0 ≤ b ∧ b ≤ 4611686018427387903) (h2 : x ≤ 62) (h : 0 < b / 2 ^ x.toNat) : x < 62 := by
  by_cases e : x = 62
  · subst e
    have e2 : (2 : Int) ^ (62 : Int).toNat = 4611686018427387904 := by decide
    rw [e2] at h
    omega
  · omega
theorem bit_out {b : Int} {m : Nat} (hb : 0 ≤ b) (h : ¬ 0 < b / 2 ^ m) (k : Nat) (hk : m ≤ k) : b.toNat.testBit k = false := by
  have h1 : b.toNat / 2 ^ m = 0 := by
    have h2 : ((b.toNat / 2 ^ m : Nat) : Int) = b / 2 ^ m := by
      rw [Int.natCast_ediv, Int.toNat_of_nonneg hb]; simp
    have h3 : (0 : Int) ≤ ((b.toNat / 2 ^ m : Nat) : Int) := Int.natCast_nonneg _
    omega
  have h4 : b.toNat < 2 ^ m := (Nat.div_eq_zero_iff_lt (Nat.two_pow_pos m)).1 h1
  exact Nat.testBit_lt_two_pow (Nat.lt_of_lt_of_le h4 (Nat.pow_le_pow_right (by omega) hk))
theorem members_stop {p : Nat → Bool} {m : Nat} (h : ∀ k, m ≤ k → p k = false) : ∀ n, m ≤ n → members p n = members p m
  | 0, hn => by have : m = 0 := by omega
                rw [this]
  | n + 1, hn => by
    by_cases e : m = n + 1
    · rw [e]
    · rw [members_succ, members_stop h n (by omega), h n (by omega)]; simp
def siteF (row set : List Int) (b : Int) (k : Nat) : Int := if row.getD (set.getD k 0).toNat 0 < row.getD b.toNat 0 then set.getD k 0 else b
def siteTo (row set : List Int) (k : Nat) : Int := foldTo (siteF row set) (set.getD 0 0) k
theorem siteTo_one (row set : List Int) : siteTo row set 1 = set.getD 0 0 := by
  show siteF row set (set.getD 0 0) 0 = _
  unfold siteF; split <;> rfl
theorem siteTo_succ (row set : List Int) (k : Nat) : siteTo row set (k + 1) = siteF row set (siteTo row set k) k := rfl
theorem siteTo_in {row set : List Int} {n : Int} (h : ∀ k, k < set.length → 0 ≤ set.getD k 0 ∧ set.getD k 0 < n) (hp : 0 < set.length) : ∀ k, k ≤ set.length → 0 ≤ siteTo row set k ∧ siteTo row set k < n
  | 0, _ => h 0 hp
  | k + 1, hk => by
    rw [siteTo_succ]
    unfold siteF
    split
    · exact h k (by omega)
    · exact siteTo_in h hp k (by omega)
abbrev s_l2Site_JJ0 (Open : List Int) (Dist : List (List Int)) (client : Int) (set : List Int) (best : Int) (k : Int) : Prop := (1 ≤ k) ∧ (k ≤ (set.length : Int)) ∧ (best = siteTo (Dist.getD client.toNat []) set k.toNat)
abbrev s_l2Site_mJ0 (Open : List Int) (Dist : List (List Int)) (client : Int) (set : List Int) (best : Int) (k : Int) : Nat := (set.length - k).toNat
def s_l2Site_C (f : FuncId) (ds : List D) : Orc := .no
def s_l2Site_A (Open : List Int) (Dist : List (List Int)) (client : Int) (set : List Int) : Ann := .two (.none) (.two (.none) (.two (.two (.none) (.loop (cut2 (fun (best : Int) (k : Int) => s_l2Site_JJ0 Open Dist client set best k) (fun (best : Int) (k : Int) => [(1, .d false (.int .i64 client)), (2, .d false (.sl (.ints set))), (3, .ptr 3 0), (7, .d true (.int .i64 best)), (8, .d true (.int .i64 k))]) (fun (best : Int) (k : Int) => [(3, .box 39 [.d false (.sl (.ints Open)), .d false (.sl (.rows Dist))])])) (fun g => s_l2Site_mJ0 Open Dist client set g.1 g.2) (fun _ => .none))) (.none)))
def s_l2Site_P (Open : List Int) (Dist : List (List Int)) (client : Int) (set : List Int) : Prop :=
  ((0 : Int) ≤ 0) ∧ ((0 : Int) < set.length) ∧ (0 < set.length) ∧ ((∃ best' : Int, ∃ k' : Int, (s_l2Site_JJ0 Open Dist client set best' k') ∧ (client = client) ∧ (set = set) ∧ ((set.getD 0 0) = best') ∧ ((1 : Int) = k') ∧ (Open = Open) ∧ (Dist = Dist)) ∧ (∀ best : Int, ∀ k : Int, (s_l2Site_JJ0 Open Dist client set best k) → (((decide (k < (set.length : Int))) = true → (true = true) ∧ ((0 : Int) ≤ client) ∧ ((client : Int) < Dist.length) ∧ (client.toNat < Dist.length) ∧ ((0 : Int) ≤ k) ∧ ((k : Int) < set.length) ∧ (k.toNat < set.length) ∧ ((0 : Int) ≤ (set.getD k.toNat 0)) ∧ (((set.getD k.toNat 0) : Int) < (Dist.getD client.toNat []).length) ∧ ((set.getD k.toNat 0).toNat < (Dist.getD client.toNat []).length) ∧ ((0 : Int) ≤ client) ∧ ((client : Int) < Dist.length) ∧ (client.toNat < Dist.length) ∧ ((0 : Int) ≤ best) ∧ ((best : Int) < (Dist.getD client.toNat []).length) ∧ (best.toNat < (Dist.getD client.toNat []).length) ∧ (((decide (((Dist.getD client.toNat []).getD ((set.getD k.toNat 0).toNat) 0) < ((Dist.getD client.toNat []).getD best.toNat 0))) = true → ((0 : Int) ≤ k) ∧ ((k : Int) < set.length) ∧ (k.toNat < set.length) ∧ (-9223372036854775808 ≤ (k + 1) ∧ (k + 1) ≤ 9223372036854775807) ∧ (∃ best' : Int, ∃ k' : Int, (s_l2Site_JJ0 Open Dist client set best' k') ∧ (s_l2Site_mJ0 Open Dist client set best' k' < s_l2Site_mJ0 Open Dist client set best k) ∧ (client = client) ∧ (set = set) ∧ ((set.getD k.toNat 0) = best') ∧ ((k + 1) = k') ∧ (Open = Open) ∧ (Dist = Dist))) ∧ ((decide (((Dist.getD client.toNat []).getD ((set.getD k.toNat 0).toNat) 0) < ((Dist.getD client.toNat []).getD best.toNat 0))) = false → (-9223372036854775808 ≤ (k + 1) ∧ (k + 1) ≤ 9223372036854775807) ∧ (∃ best' : Int, ∃ k' : Int, (s_l2Site_JJ0 Open Dist client set best' k') ∧ (s_l2Site_mJ0 Open Dist client set best' k' < s_l2Site_mJ0 Open Dist client set best k) ∧ (client = client) ∧ (set = set) ∧ (best = best') ∧ ((k + 1) = k') ∧ (Open = Open) ∧ (Dist = Dist))))) ∧ ((decide (k < (set.length : Int))) = false → ((best = (siteTo (Dist.getD client.toNat []) set set.length)))))))
theorem s_l2Site_vc (Open : List Int) (Dist : List (List Int)) (client : Int) (set : List Int) (ht : (goodField Open Dist && rising set 0 ((Open.length : Int) - 1) && decide (0 < set.length)) = true) (hc : 0 ≤ client ∧ client < (Dist.length : Int)) (w_Open : (Open.length : Int) ≤ 9223372036854775807) (w_Dist : (Dist.length : Int) ≤ 9223372036854775807) (v_Dist : ∀ x9 ∈ Dist, (x9.length : Int) ≤ 9223372036854775807) (w_set : (set.length : Int) ≤ 9223372036854775807) : s_l2Site_P Open Dist client set := by
  unfold s_l2Site_P
  obtain ⟨hg, hs, hp⟩ := two_facts ht
  obtain ⟨g1, g2, g3⟩ := gf_open hg
  have cs := fun k => rising_at hs k
  obtain ⟨rl, rb⟩ := gf_row (i := client.toNat) hg (by omega)
  have si := siteTo_in (row := Dist.getD client.toNat []) (set := set) (n := (Open.length : Int)) (fun k hk => by have := cs k hk; omega) hp
  refine ⟨?_, ?_, ?_, ?_, ?_⟩
  ·omega
  ·omega
  ·omega
  ·refine ⟨(set.getD 0 0), 1, ?_⟩
   refine ⟨?_, rfl, rfl, rfl, rfl, rfl, rfl⟩
   ·refine ⟨?_, ?_, ?_⟩
    ·omega
    ·omega
    ·exact (siteTo_one _ _).symm
  ·intro best k hJ
   obtain ⟨h1, h2, h3⟩ := hJ
   refine ⟨?_, ?_⟩
   ·intro b1
    try simp only [nrmT] at b1
    refine ⟨rfl, ?_, ?_, ?_, ?_, ?_, ?_, ?_, ?_, ?_, ?_, ?_, ?_, ?_, ?_, ?_, ?_, ?_⟩
    ·omega
    ·omega
    ·omega
    ·omega
    ·omega
    ·omega
    ·have := cs k.toNat (by omega)
     omega
    ·have := cs k.toNat (by omega)
     omega
    ·have := cs k.toNat (by omega)
     omega
    ·omega
    ·omega
    ·omega
    ·have := si k.toNat (by omega)
     omega
    ·have := si k.toNat (by omega)
     omega
    ·have := si k.toNat (by omega)
     omega
    ·intro b2
     try simp only [nrmT] at b2
     refine ⟨?_, ?_, ?_, ?_, ?_⟩
     ·omega
     ·omega
     ·omega
     ·omega
     ·refine ⟨(set.getD k.toNat 0), (k + 1), ?_⟩
      refine ⟨?_, ?_, rfl, rfl, rfl, rfl, rfl, rfl⟩
      ·refine ⟨?_, ?_, ?_⟩
       ·omega
       ·omega
       ·rw [show (k + 1).toNat = k.toNat + 1 by omega, siteTo_succ, ← h3]; unfold siteF; rw [if_pos b2]
      ·first | (show _ < _; omega) | (simp only [s_l2Site_mJ0]; omega) | (simp only [s_l2Site_mJ0] at *; simp at *; omega)
    ·intro b3
     try simp only [nrmT] at b3
     refine ⟨?_, ?_⟩
     ·omega
     ·refine ⟨best, (k + 1), ?_⟩
      refine ⟨?_, ?_, rfl, rfl, rfl, rfl, rfl, rfl⟩
      ·refine ⟨?_, ?_, ?_⟩
       ·omega
       ·omega
       ·rw [show (k + 1).toNat = k.toNat + 1 by omega, siteTo_succ, ← h3]; unfold siteF; rw [if_neg (by omega)]
      ·first | (show _ < _; omega) | (simp only [s_l2Site_mJ0]; omega) | (simp only [s_l2Site_mJ0] at *; simp at *; omega)
   ·intro b4
    try simp only [nrmT] at b4
    rw [h3, show k.toNat = set.length by omega]
theorem s_l2Site_pc (Open : List Int) (Dist : List (List Int)) (client : Int) (set : List Int) (ht : (goodField Open Dist && rising set 0 ((Open.length : Int) - 1) && decide (0 < set.length)) = true) (hc : 0 ≤ client ∧ client < (Dist.length : Int)) : PC Try.prog 238 [.agg [.sl (.ints Open), .sl (.rows Dist)], .int .i64 client, .sl (.ints set)] (.one (.d (.int .i64 (siteTo (Dist.getD client.toNat []) set set.length)))) :=
  pc_wf @Try.call238 fun hw => pc_by (by kernel_rfl) Try.func238 @Try.call238 (by kernel_rfl) s_l2Site_C (s_l2Site_A Open Dist client set) (by kernel_rfl) (s_l2Site_vc Open Dist client set ht hc hw.1.1 hw.1.2.1.1 hw.1.2.1.2 hw.2.2.1) (by kernel_rfl)
def s_l2Site_orc : List D → Orc := orcN [none, none, some .ints] fun ds => match ds with
  | [.agg [.sl (.ints Open), .sl (.rows Dist)], .int .i64 client, .sl (.ints set)] => some (.one (.d (.int .i64 (siteTo (Dist.getD client.toNat []) set set.length))))
  | _ => none
abbrev i_Field_server_JJ0 (Open : List Int) (Dist : List (List Int)) (client : Int) (set : List Int) (best : Int) (k : Int) : Prop := (0 ≤ k) ∧ (k ≤ (set.length : Int)) ∧ (best = siteTo (Dist.getD client.toNat []) set k.toNat)
abbrev i_Field_server_mJ0 (Open : List Int) (Dist : List (List Int)) (client : Int) (set : List Int) (best : Int) (k : Int) : Nat := (set.length - k).toNat
def i_Field_server_C (f : FuncId) (ds : List D) : Orc := .no
def i_Field_server_A (Open : List Int) (Dist : List (List Int)) (client : Int) (set : List Int) : Ann := .two (.none) (.two (.none) (.two (.two (.none) (.loop (cut2 (fun (best : Int) (k : Int) => i_Field_server_JJ0 Open Dist client set best k) (fun (best : Int) (k : Int) => [(1, .d false (.int .i64 client)), (3, .ptr 3 0), (7, .d true (.int .i64 best)), (13, .d false (.sl (.ints set))), (14, .d true (.int .i64 (set.length : Int))), (15, .d true (.int .i64 k))]) (fun (best : Int) (k : Int) => [(3, .box 39 [.d false (.sl (.ints Open)), .d false (.sl (.rows Dist))])])) (fun g => i_Field_server_mJ0 Open Dist client set g.1 g.2) (fun _ => .none))) (.none)))
def i_Field_server_P (Open : List Int) (Dist : List (List Int)) (client : Int) (set : List Int) : Prop :=
  ((0 : Int) ≤ 0) ∧ ((0 : Int) < set.length) ∧ (0 < set.length) ∧ ((∃ best' : Int, ∃ k' : Int, (i_Field_server_JJ0 Open Dist client set best' k') ∧ (client = client) ∧ ((set.getD 0 0) = best') ∧ (set = set) ∧ ((set.length : Int) = (set.length : Int)) ∧ ((0 : Int) = k') ∧ (Open = Open) ∧ (Dist = Dist)) ∧ (∀ best : Int, ∀ k : Int, (i_Field_server_JJ0 Open Dist client set best k) → (((decide (k < (set.length : Int))) = true → ((0 : Int) ≤ k) ∧ ((k : Int) < set.length) ∧ (k.toNat < set.length) ∧ (true = true) ∧ ((0 : Int) ≤ client) ∧ ((client : Int) < Dist.length) ∧ (client.toNat < Dist.length) ∧ ((0 : Int) ≤ (set.getD k.toNat 0)) ∧ (((set.getD k.toNat 0) : Int) < (Dist.getD client.toNat []).length) ∧ ((set.getD k.toNat 0).toNat < (Dist.getD client.toNat []).length) ∧ ((0 : Int) ≤ client) ∧ ((client : Int) < Dist.length) ∧ (client.toNat < Dist.length) ∧ ((0 : Int) ≤ best) ∧ ((best : Int) < (Dist.getD client.toNat []).length) ∧ (best.toNat < (Dist.getD client.toNat []).length) ∧ (((decide (((Dist.getD client.toNat []).getD ((set.getD k.toNat 0).toNat) 0) < ((Dist.getD client.toNat []).getD best.toNat 0))) = true → (-9223372036854775808 ≤ (k + 1) ∧ (k + 1) ≤ 9223372036854775807) ∧ (∃ best' : Int, ∃ k' : Int, (i_Field_server_JJ0 Open Dist client set best' k') ∧ (i_Field_server_mJ0 Open Dist client set best' k' < i_Field_server_mJ0 Open Dist client set best k) ∧ (client = client) ∧ ((set.getD k.toNat 0) = best') ∧ (set = set) ∧ ((set.length : Int) = (set.length : Int)) ∧ ((k + 1) = k') ∧ (Open = Open) ∧ (Dist = Dist))) ∧ ((decide (((Dist.getD client.toNat []).getD ((set.getD k.toNat 0).toNat) 0) < ((Dist.getD client.toNat []).getD best.toNat 0))) = false → (-9223372036854775808 ≤ (k + 1) ∧ (k + 1) ≤ 9223372036854775807) ∧ (∃ best' : Int, ∃ k' : Int, (i_Field_server_JJ0 Open Dist client set best' k') ∧ (i_Field_server_mJ0 Open Dist client set best' k' < i_Field_server_mJ0 Open Dist client set best k) ∧ (client = client) ∧ (best = best') ∧ (set = set) ∧ ((set.length : Int) = (set.length : Int)) ∧ ((k + 1) = k') ∧ (Open = Open) ∧ (Dist = Dist))))) ∧ ((decide (k < (set.length : Int))) = false → ((best = (siteTo (Dist.getD client.toNat []) set set.length)))))))
theorem i_Field_server_vc (Open : List Int) (Dist : List (List Int)) (client : Int) (set : List Int) (ht : (goodField Open Dist && rising set 0 ((Open.length : Int) - 1) && decide (0 < set.length)) = true) (hc : 0 ≤ client ∧ client < (Dist.length : Int)) (w_Open : (Open.length : Int) ≤ 9223372036854775807) (w_Dist : (Dist.length : Int) ≤ 9223372036854775807) (v_Dist : ∀ x9 ∈ Dist, (x9.length : Int) ≤ 9223372036854775807) (w_set : (set.length : Int) ≤ 9223372036854775807) : i_Field_server_P Open Dist client set := by
  unfold i_Field_server_P
  obtain ⟨hg, hs, hp⟩ := two_facts ht
  obtain ⟨g1, g2, g3⟩ := gf_open hg
  have cs := fun k => rising_at hs k
  obtain ⟨rl, rb⟩ := gf_row (i := client.toNat) hg (by omega)
  have si := siteTo_in (row := Dist.getD client.toNat []) (set := set) (n := (Open.length : Int)) (fun k hk => by have := cs k hk; omega) hp
  refine ⟨?_, ?_, ?_, ?_, ?_⟩
  ·omega
  ·omega
  ·omega
  ·refine ⟨(set.getD 0 0), 0, ?_⟩
   refine ⟨?_, rfl, rfl, rfl, rfl, rfl, rfl, rfl⟩
   ·refine ⟨?_, ?_, ?_⟩
    ·omega
    ·omega
    ·rfl
  ·intro best k hJ
   obtain ⟨h1, h2, h3⟩ := hJ
   refine ⟨?_, ?_⟩
   ·intro b1
    try simp only [nrmT] at b1
    refine ⟨?_, ?_, ?_, rfl, ?_, ?_, ?_, ?_, ?_, ?_, ?_, ?_, ?_, ?_, ?_, ?_, ?_, ?_⟩
    ·omega
    ·omega
    ·omega
    ·omega
    ·omega
    ·omega
    ·have := cs k.toNat (by omega)
     omega
    ·have := cs k.toNat (by omega)
     omega
    ·have := cs k.toNat (by omega)
     omega
    ·omega
    ·omega
    ·omega
    ·have := si k.toNat (by omega)
     omega
    ·have := si k.toNat (by omega)
     omega
    ·have := si k.toNat (by omega)
     omega
    ·intro b2
     try simp only [nrmT] at b2
     refine ⟨?_, ?_⟩
     ·omega
     ·refine ⟨(set.getD k.toNat 0), (k + 1), ?_⟩
      refine ⟨?_, ?_, rfl, rfl, rfl, rfl, rfl, rfl, rfl⟩
      ·refine ⟨?_, ?_, ?_⟩
       ·omega
       ·omega
       ·rw [show (k + 1).toNat = k.toNat + 1 by omega, siteTo_succ, ← h3]; unfold siteF; rw [if_pos b2]
      ·first | (show _ < _; omega) | (simp only [i_Field_server_mJ0]; omega) | (simp only [i_Field_server_mJ0] at *; simp at *; omega)
    ·intro b3
     try simp only [nrmT] at b3
     refine ⟨?_, ?_⟩
     ·omega
     ·refine ⟨best, (k + 1), ?_⟩
      refine ⟨?_, ?_, rfl, rfl, rfl, rfl, rfl, rfl, rfl⟩
      ·refine ⟨?_, ?_, ?_⟩
       ·omega
       ·omega
       ·rw [show (k + 1).toNat = k.toNat + 1 by omega, siteTo_succ, ← h3]; unfold siteF; rw [if_neg (by omega)]
      ·first | (show _ < _; omega) | (simp only [i_Field_server_mJ0]; omega) | (simp only [i_Field_server_mJ0] at *; simp at *; omega)
   ·intro b4
    try simp only [nrmT] at b4
    rw [h3, show k.toNat = set.length by omega]
theorem i_Field_server_pc (Open : List Int) (Dist : List (List Int)) (client : Int) (set : List Int) (ht : (goodField Open Dist && rising set 0 ((Open.length : Int) - 1) && decide (0 < set.length)) = true) (hc : 0 ≤ client ∧ client < (Dist.length : Int)) : PC Try.prog 240 [.agg [.sl (.ints Open), .sl (.rows Dist)], .int .i64 client, .sl (.ints set)] (.one (.d (.int .i64 (siteTo (Dist.getD client.toNat []) set set.length)))) :=
  pc_wf @Try.call240 fun hw => pc_by (by kernel_rfl) Try.func240 @Try.call240 (by kernel_rfl) i_Field_server_C (i_Field_server_A Open Dist client set) (by kernel_rfl) (i_Field_server_vc Open Dist client set ht hc hw.1.1 hw.1.2.1.1 hw.1.2.1.2 hw.2.2.1) (by kernel_rfl)
def i_Field_server_orc : List D → Orc := orcN [none, none, some .ints] fun ds => match ds with
  | [.agg [.sl (.ints Open), .sl (.rows Dist)], .int .i64 client, .sl (.ints set)] => some (.one (.d (.int .i64 (siteTo (Dist.getD client.toNat []) set set.length))))
  | _ => none
def s_l2Nearest_C (f : FuncId) (ds : List D) : Orc := bif Nat.beq f 238 then s_l2Site_orc ds else .no
def s_l2Nearest_A (Open : List Int) (Dist : List (List Int)) (client : Int) (set : List Int) : Ann := .none
def s_l2Nearest_P (Open : List Int) (Dist : List (List Int)) (client : Int) (set : List Int) : Prop :=
  (true = true) ∧ ((0 : Int) ≤ client) ∧ ((client : Int) < Dist.length) ∧ (client.toNat < Dist.length) ∧ (PC Try.prog 238 [.agg [.sl (.ints Open), .sl (.rows Dist)], .int .i64 client, .sl (.ints set)] (.one (.d (.int .i64 (siteTo (Dist.getD client.toNat []) set set.length))))) ∧ ((0 : Int) ≤ (siteTo (Dist.getD client.toNat []) set set.length)) ∧ (((siteTo (Dist.getD client.toNat []) set set.length) : Int) < (Dist.getD client.toNat []).length) ∧ ((siteTo (Dist.getD client.toNat []) set set.length).toNat < (Dist.getD client.toNat []).length) ∧ ((((Dist.getD client.toNat []).getD ((siteTo (Dist.getD client.toNat []) set set.length).toNat) 0) = ((Dist.getD client.toNat []).getD (siteTo (Dist.getD client.toNat []) set set.length).toNat 0)))
theorem s_l2Nearest_vc (Open : List Int) (Dist : List (List Int)) (client : Int) (set : List Int) (ht : (goodField Open Dist && rising set 0 ((Open.length : Int) - 1) && decide (0 < set.length)) = true) (hc : 0 ≤ client ∧ client < (Dist.length : Int)) (w_Open : (Open.length : Int) ≤ 9223372036854775807) (w_Dist : (Dist.length : Int) ≤ 9223372036854775807) (v_Dist : ∀ x9 ∈ Dist, (x9.length : Int) ≤ 9223372036854775807) (w_set : (set.length : Int) ≤ 9223372036854775807) : s_l2Nearest_P Open Dist client set := by
  unfold s_l2Nearest_P
  obtain ⟨hg, hs, hp⟩ := two_facts ht
  obtain ⟨g1, g2, g3⟩ := gf_open hg
  have cs := fun k => rising_at hs k
  obtain ⟨rl, rb⟩ := gf_row (i := client.toNat) hg (by omega)
  have si := siteTo_in (row := Dist.getD client.toNat []) (set := set) (n := (Open.length : Int)) (fun k hk => by have := cs k hk; omega) hp
  have sl := si set.length (Nat.le_refl _)
  refine ⟨rfl, ?_, ?_, ?_, ?_, ?_, ?_, ?_, ?_⟩
  ·omega
  ·omega
  ·omega
  ·refine s_l2Site_pc Open Dist client set ?_ ?_
   ·omega
   ·omega
  ·omega
  ·omega
  ·omega
  ·omega
theorem s_l2Nearest_pc (Open : List Int) (Dist : List (List Int)) (client : Int) (set : List Int) (ht : (goodField Open Dist && rising set 0 ((Open.length : Int) - 1) && decide (0 < set.length)) = true) (hc : 0 ≤ client ∧ client < (Dist.length : Int)) : PC Try.prog 221 [.agg [.sl (.ints Open), .sl (.rows Dist)], .int .i64 client, .sl (.ints set)] (.one (.d (.int .i64 ((Dist.getD client.toNat []).getD (siteTo (Dist.getD client.toNat []) set set.length).toNat 0)))) :=
  pc_wf @Try.call221 fun hw => pc_by (by kernel_rfl) Try.func221 @Try.call221 (by kernel_rfl) s_l2Nearest_C (s_l2Nearest_A Open Dist client set) (by kernel_rfl) (s_l2Nearest_vc Open Dist client set ht hc hw.1.1 hw.1.2.1.1 hw.1.2.1.2 hw.2.2.1) (by kernel_rfl)
def s_l2Nearest_orc : List D → Orc := orcN [none, none, some .ints] fun ds => match ds with
  | [.agg [.sl (.ints Open), .sl (.rows Dist)], .int .i64 client, .sl (.ints set)] => some (.one (.d (.int .i64 ((Dist.getD client.toNat []).getD (siteTo (Dist.getD client.toNat []) set set.length).toNat 0))))
  | _ => none
def servL (Dist : List (List Int)) (set : List Int) (n : Nat) : List Int := (List.range n).map fun i => siteTo (Dist.getD i []) set set.length
def lenAt (Dist : List (List Int)) (set : List Int) (i : Nat) : Int := (Dist.getD i []).getD (siteTo (Dist.getD i []) set set.length).toNat 0
def lensL (Dist : List (List Int)) (set : List Int) (n : Nat) : List Int := (List.range n).map (lenAt Dist set)
theorem servL_len (Dist : List (List Int)) (set : List Int) (n : Nat) : (servL Dist set n).length = n := by simp [servL]
theorem lensL_len (Dist : List (List Int)) (set : List Int) (n : Nat) : (lensL Dist set n).length = n := by simp [lensL]
theorem servL_getD (Dist : List (List Int)) (set : List Int) (n i : Nat) (h : i < n) : (servL Dist set n).getD i 0 = siteTo (Dist.getD i []) set set.length := by simp [servL, h]
theorem lensL_getD (Dist : List (List Int)) (set : List Int) (n i : Nat) (h : i < n) : (lensL Dist set n).getD i 0 = lenAt Dist set i := by simp [lensL, h]
theorem servL_succ (Dist : List (List Int)) (set : List Int) (n : Nat) : servL Dist set (n + 1) = servL Dist set n ++ [siteTo (Dist.getD n []) set set.length] := by simp [servL, List.range_succ]
theorem lensL_succ (Dist : List (List Int)) (set : List Int) (n : Nat) : lensL Dist set (n + 1) = lensL Dist set n ++ [lenAt Dist set n] := by simp [lensL, List.range_succ]
abbrev i_Field_served_JJ0 (Open : List Int) (Dist : List (List Int)) (set : List Int) (out : List Int) (i : Int) : Prop := (0 ≤ i) ∧ (i ≤ (Dist.length : Int)) ∧ (out = servL Dist set i.toNat)
abbrev i_Field_served_mJ0 (Open : List Int) (Dist : List (List Int)) (set : List Int) (out : List Int) (i : Int) : Nat := (Dist.length - i).toNat
def i_Field_served_C (f : FuncId) (ds : List D) : Orc := bif Nat.beq f 240 then i_Field_server_orc ds else .no
def i_Field_served_A (Open : List Int) (Dist : List (List Int)) (set : List Int) : Ann := .two (.none) (.two (.none) (.two (.two (.none) (.loop (cut2 (fun (out : List Int) (i : Int) => i_Field_served_JJ0 Open Dist set out i) (fun (out : List Int) (i : Int) => [(1, .d false (.sl (.ints set))), (2, .ptr 2 0), (5, .own 1000000 out.length), (10, .d true (.int .i64 (Dist.length : Int))), (11, .d true (.int .i64 i))]) (fun (out : List Int) (i : Int) => [(1000000, .arr true 3 (.ints out)), (2, .box 39 [.d false (.sl (.ints Open)), .d false (.sl (.rows Dist))])])) (fun g => i_Field_served_mJ0 Open Dist set g.1 g.2) (fun _ => .none))) (.none)))
def i_Field_served_P (Open : List Int) (Dist : List (List Int)) (set : List Int) : Prop :=
  ((∃ out' : List Int, ∃ i' : Int, (i_Field_served_JJ0 Open Dist set out' i') ∧ (set = set) ∧ ((0 : Nat) = out'.length) ∧ ((Dist.length : Int) = (Dist.length : Int)) ∧ ((0 : Int) = i') ∧ ([] = out') ∧ (Open = Open) ∧ (Dist = Dist)) ∧ (∀ out : List Int, ∀ i : Int, (i_Field_served_JJ0 Open Dist set out i) → (((decide (i < (Dist.length : Int))) = true → (PC Try.prog 240 [.agg [.sl (.ints Open), .sl (.rows Dist)], .int .i64 i, .sl (.ints set)] (.one (.d (.int .i64 (siteTo (Dist.getD i.toNat []) set set.length))))) ∧ (out.length = out.length) ∧ ((1 : Nat) = 1) ∧ ((out.length + 1) * 8 ≤ 140737488355328) ∧ (-9223372036854775808 ≤ (i + 1) ∧ (i + 1) ≤ 9223372036854775807) ∧ (∃ out' : List Int, ∃ i' : Int, (i_Field_served_JJ0 Open Dist set out' i') ∧ (i_Field_served_mJ0 Open Dist set out' i' < i_Field_served_mJ0 Open Dist set out i) ∧ (set = set) ∧ ((out.length + 1) = out'.length) ∧ ((Dist.length : Int) = (Dist.length : Int)) ∧ ((i + 1) = i') ∧ ((out ++ [(siteTo (Dist.getD i.toNat []) set set.length)]) = out') ∧ (Open = Open) ∧ (Dist = Dist))) ∧ ((decide (i < (Dist.length : Int))) = false → ((out.length = out.length) ∧ ((out : List Int) = servL Dist set Dist.length))))))
theorem i_Field_served_vc (Open : List Int) (Dist : List (List Int)) (set : List Int) (ht : (goodField Open Dist && rising set 0 ((Open.length : Int) - 1) && decide (0 < set.length)) = true) (w_Open : (Open.length : Int) ≤ 9223372036854775807) (w_Dist : (Dist.length : Int) ≤ 9223372036854775807) (v_Dist : ∀ x9 ∈ Dist, (x9.length : Int) ≤ 9223372036854775807) (w_set : (set.length : Int) ≤ 9223372036854775807) : i_Field_served_P Open Dist set := by
  unfold i_Field_served_P
  obtain ⟨hg, hs, hp⟩ := two_facts ht
  obtain ⟨g1, g2, g3⟩ := gf_open hg
  have cs := fun k => rising_at hs k
  have si := fun (i : Nat) (hi : i < Dist.length) => siteTo_in (row := Dist.getD i []) (set := set) (n := (Open.length : Int)) (fun k hk => by have := cs k hk; omega) hp set.length (Nat.le_refl _)
  refine ⟨?_, ?_⟩
  ·refine ⟨([]), 0, ?_⟩
   refine ⟨?_, rfl, rfl, rfl, rfl, ?_, rfl, rfl⟩
   ·refine ⟨?_, ?_, ?_⟩
    ·omega
    ·omega
    ·rfl
   ·rfl
  ·intro out i hJ
   obtain ⟨h1, h2, h3⟩ := hJ
   refine ⟨?_, ?_⟩
   ·intro b1
    try simp only [nrmT] at b1
    refine ⟨?_, rfl, rfl, ?_, ?_, ?_⟩
    ·refine i_Field_server_pc Open Dist i set ?_ ?_
     ·omega
     ·omega
    ·rw [h3, servL_len]; omega
    ·omega
    ·refine ⟨(out ++ [(siteTo (Dist.getD i.toNat []) set set.length)]), (i + 1), ?_⟩
     refine ⟨?_, ?_, rfl, ?_, rfl, rfl, rfl, rfl, rfl⟩
     ·refine ⟨?_, ?_, ?_⟩
      ·omega
      ·omega
      ·rw [h3, show (i + 1).toNat = i.toNat + 1 by omega, servL_succ]
     ·first | (show _ < _; omega) | (simp only [i_Field_served_mJ0]; omega) | (simp only [i_Field_served_mJ0] at *; simp at *; omega)
     ·(simp_all; done)
   ·intro b2
    try simp only [nrmT] at b2
    refine ⟨rfl, ?_⟩
    ·rw [h3, show i.toNat = Dist.length by omega]
theorem i_Field_served_pc (Open : List Int) (Dist : List (List Int)) (set : List Int) (ht : (goodField Open Dist && rising set 0 ((Open.length : Int) - 1) && decide (0 < set.length)) = true) : PC Try.prog 215 [.agg [.sl (.ints Open), .sl (.rows Dist)], .sl (.ints set)] (.one (.own 3 (.ints (servL Dist set Dist.length)))) :=
  pc_wf @Try.call215 fun hw => pc_by (by kernel_rfl) Try.func215 @Try.call215 (by kernel_rfl) i_Field_served_C (i_Field_served_A Open Dist set) (by kernel_rfl) (i_Field_served_vc Open Dist set ht hw.1.1 hw.1.2.1.1 hw.1.2.1.2 hw.2.1) (by kernel_rfl)
def i_Field_served_orc : List D → Orc := orcN [none, some .ints] fun ds => match ds with
  | [.agg [.sl (.ints Open), .sl (.rows Dist)], .sl (.ints set)] => some (.one (.own 3 (.ints (servL Dist set Dist.length))))
  | _ => none
abbrev i_Field_lengths_JJ0 (Open : List Int) (Dist : List (List Int)) (set : List Int) (out : List Int) (i : Int) : Prop := (0 ≤ i) ∧ (i ≤ (Dist.length : Int)) ∧ (out = lensL Dist set i.toNat)
abbrev i_Field_lengths_mJ0 (Open : List Int) (Dist : List (List Int)) (set : List Int) (out : List Int) (i : Int) : Nat := (Dist.length - i).toNat
def i_Field_lengths_C (f : FuncId) (ds : List D) : Orc := bif Nat.beq f 215 then i_Field_served_orc ds else .no
def i_Field_lengths_A (Open : List Int) (Dist : List (List Int)) (set : List Int) : Ann := .two (.none) (.two (.none) (.two (.two (.none) (.loop (cut2 (fun (out : List Int) (i : Int) => i_Field_lengths_JJ0 Open Dist set out i) (fun (out : List Int) (i : Int) => [(2, .ptr 2 0), (5, .own 1000000 out.length), (11, .own 11 ((servL Dist set Dist.length).length)), (12, .d true (.int .i64 (((servL Dist set Dist.length).length) : Int))), (13, .d true (.int .i64 i))]) (fun (out : List Int) (i : Int) => [(1000000, .arr true 3 (.ints out)), (2, .box 39 [.d false (.sl (.ints Open)), .d false (.sl (.rows Dist))]), (11, .arr true 3 (.ints (servL Dist set Dist.length)))])) (fun g => i_Field_lengths_mJ0 Open Dist set g.1 g.2) (fun _ => .none))) (.none)))
def i_Field_lengths_P (Open : List Int) (Dist : List (List Int)) (set : List Int) : Prop :=
  (PC Try.prog 215 [.agg [.sl (.ints Open), .sl (.rows Dist)], .sl (.ints set)] (.one (.own 3 (.ints (servL Dist set Dist.length))))) ∧ ((∃ out' : List Int, ∃ i' : Int, (i_Field_lengths_JJ0 Open Dist set out' i') ∧ ((0 : Nat) = out'.length) ∧ ((servL Dist set Dist.length).length = (servL Dist set Dist.length).length) ∧ ((((servL Dist set Dist.length).length) : Int) = (((servL Dist set Dist.length).length) : Int)) ∧ ((0 : Int) = i') ∧ ([] = out') ∧ (Open = Open) ∧ (Dist = Dist) ∧ (servL Dist set Dist.length = servL Dist set Dist.length)) ∧ (∀ out : List Int, ∀ i : Int, (i_Field_lengths_JJ0 Open Dist set out i) → (((decide (i < (((servL Dist set Dist.length).length) : Int))) = true → ((0 : Int) ≤ i) ∧ ((i : Int) < (((servL Dist set Dist.length).length) : Int)) ∧ (i.toNat < (servL Dist set Dist.length).length) ∧ ((0 : Int) ≤ i) ∧ ((i : Int) < Dist.length) ∧ (i.toNat < Dist.length) ∧ ((0 : Int) ≤ ((servL Dist set Dist.length).getD i.toNat 0)) ∧ ((((servL Dist set Dist.length).getD i.toNat 0) : Int) < (Dist.getD i.toNat []).length) ∧ (((servL Dist set Dist.length).getD i.toNat 0).toNat < (Dist.getD i.toNat []).length) ∧ (out.length = out.length) ∧ ((1 : Nat) = 1) ∧ ((out.length + 1) * 8 ≤ 140737488355328) ∧ (-9223372036854775808 ≤ (i + 1) ∧ (i + 1) ≤ 9223372036854775807) ∧ (∃ out' : List Int, ∃ i' : Int, (i_Field_lengths_JJ0 Open Dist set out' i') ∧ (i_Field_lengths_mJ0 Open Dist set out' i' < i_Field_lengths_mJ0 Open Dist set out i) ∧ ((out.length + 1) = out'.length) ∧ ((servL Dist set Dist.length).length = (servL Dist set Dist.length).length) ∧ ((((servL Dist set Dist.length).length) : Int) = (((servL Dist set Dist.length).length) : Int)) ∧ ((i + 1) = i') ∧ ((out ++ [((Dist.getD i.toNat []).getD (((servL Dist set Dist.length).getD i.toNat 0).toNat) 0)]) = out') ∧ (Open = Open) ∧ (Dist = Dist) ∧ (servL Dist set Dist.length = servL Dist set Dist.length))) ∧ ((decide (i < (((servL Dist set Dist.length).length) : Int))) = false → ((out.length = out.length) ∧ ((out : List Int) = lensL Dist set Dist.length))))))
theorem i_Field_lengths_vc (Open : List Int) (Dist : List (List Int)) (set : List Int) (ht : (goodField Open Dist && rising set 0 ((Open.length : Int) - 1) && decide (0 < set.length)) = true) (w_Open : (Open.length : Int) ≤ 9223372036854775807) (w_Dist : (Dist.length : Int) ≤ 9223372036854775807) (v_Dist : ∀ x9 ∈ Dist, (x9.length : Int) ≤ 9223372036854775807) (w_set : (set.length : Int) ≤ 9223372036854775807) : i_Field_lengths_P Open Dist set := by
  unfold i_Field_lengths_P
  obtain ⟨hg, hs, hp⟩ := two_facts ht
  obtain ⟨g1, g2, g3⟩ := gf_open hg
  have cs := fun k => rising_at hs k
  have si := fun (i : Nat) (hi : i < Dist.length) => siteTo_in (row := Dist.getD i []) (set := set) (n := (Open.length : Int)) (fun k hk => by have := cs k hk; omega) hp set.length (Nat.le_refl _)
  have e0 := servL_len Dist set Dist.length
  refine ⟨?_, ?_, ?_⟩
  ·refine i_Field_served_pc Open Dist set ?_
   ·omega
  ·refine ⟨([]), 0, ?_⟩
   refine ⟨?_, rfl, rfl, rfl, rfl, ?_, rfl, rfl, rfl⟩
   ·refine ⟨?_, ?_, ?_⟩
    ·omega
    ·omega
    ·rfl
   ·rfl
  ·intro out i hJ
   obtain ⟨h1, h2, h3⟩ := hJ
   refine ⟨?_, ?_⟩
   ·intro b1
    try simp only [nrmT] at b1
    refine ⟨?_, ?_, ?_, ?_, ?_, ?_, ?_, ?_, ?_, rfl, rfl, ?_, ?_, ?_⟩
    ·omega
    ·omega
    ·omega
    ·omega
    ·omega
    ·omega
    ·rw [servL_getD _ _ _ _ (by omega)]; obtain ⟨rl, rb⟩ := gf_row (i := i.toNat) hg (by omega); have := si i.toNat (by omega); omega
    ·rw [servL_getD _ _ _ _ (by omega)]; obtain ⟨rl, rb⟩ := gf_row (i := i.toNat) hg (by omega); have := si i.toNat (by omega); omega
    ·rw [servL_getD _ _ _ _ (by omega)]; obtain ⟨rl, rb⟩ := gf_row (i := i.toNat) hg (by omega); have := si i.toNat (by omega); omega
    ·rw [h3, lensL_len]; omega
    ·omega
    ·refine ⟨(out ++ [((Dist.getD i.toNat []).getD (((servL Dist set Dist.length).getD i.toNat 0).toNat) 0)]), (i + 1), ?_⟩
     refine ⟨?_, ?_, ?_, rfl, rfl, rfl, rfl, rfl, rfl, rfl⟩
     ·refine ⟨?_, ?_, ?_⟩
      ·omega
      ·omega
      ·rw [h3, show (i + 1).toNat = i.toNat + 1 by omega, lensL_succ, servL_getD _ _ _ _ (by omega)]; rfl
     ·first | (show _ < _; omega) | (simp only [i_Field_lengths_mJ0]; omega) | (simp only [i_Field_lengths_mJ0] at *; simp at *; omega)
     ·(simp_all; done)
   ·intro b2
    try simp only [nrmT] at b2
    refine ⟨rfl, ?_⟩
    ·rw [h3, show i.toNat = Dist.length by omega]
theorem i_Field_lengths_pc (Open : List Int) (Dist : List (List Int)) (set : List Int) (ht : (goodField Open Dist && rising set 0 ((Open.length : Int) - 1) && decide (0 < set.length)) = true) : PC Try.prog 210 [.agg [.sl (.ints Open), .sl (.rows Dist)], .sl (.ints set)] (.one (.own 3 (.ints (lensL Dist set Dist.length)))) :=
  pc_wf @Try.call210 fun hw => pc_by (by kernel_rfl) Try.func210 @Try.call210 (by kernel_rfl) i_Field_lengths_C (i_Field_lengths_A Open Dist set) (by kernel_rfl) (i_Field_lengths_vc Open Dist set ht hw.1.1 hw.1.2.1.1 hw.1.2.1.2 hw.2.1) (by kernel_rfl)
def i_Field_lengths_orc : List D → Orc := orcN [none, some .ints] fun ds => match ds with
  | [.agg [.sl (.ints Open), .sl (.rows Dist)], .sl (.ints set)] => some (.one (.own 3 (.ints (lensL Dist set Dist.length))))
  | _ => none
theorem siteTo_mem {row set : List Int} (hp : 0 < set.length) : ∀ k, k ≤ set.length → siteTo row set k ∈ set
  | 0, _ => getD_mem hp
  | k + 1, hk => by
    rw [siteTo_succ]
    unfold siteF
    split
    · exact getD_mem (by omega)
    · exact siteTo_mem hp k (by omega)
theorem rising_lt {xs : List Int} {lo hi : Int} (h : rising xs lo hi = true) {i : Nat} : ∀ {j : Nat}, i < j → j < xs.length → xs.getD i 0 < xs.getD j 0
  | 0, hi, _ => by omega
  | j + 1, hi, hj => by
    have h1 := allTo_iff.1 h (j + 1) hj
    simp only [risingP, Bool.and_eq_true, Bool.or_eq_true, decide_eq_true_eq, Nat.add_sub_cancel] at h1
    have h2 := h1.2
    by_cases e : i = j
    · subst e; omega
    · have := rising_lt h (i := i) (j := j) (by omega) (by omega)
      omega
def s_l1Most_C (f : FuncId) (ds : List D) : Orc := .no
def s_l1Most_A (a : Int) (b : Int) : Ann := .none
def s_l1Most_P (a : Int) (b : Int) : Prop :=
  (((decide (a > b)) = true → ((a = (max a b)))) ∧ ((decide (a > b)) = false → ((b = (max a b)))))
theorem s_l1Most_vc (a : Int) (b : Int)   : s_l1Most_P a b := by
  unfold s_l1Most_P
  refine ⟨?_, ?_⟩
  ·intro b1
   try simp only [nrmT] at b1
   omega
  ·intro b2
   try simp only [nrmT] at b2
   omega
theorem s_l1Most_pc (a : Int) (b : Int)  : PC Try.prog 152 [.int .i64 a, .int .i64 b] (.one (.d (.int .i64 (max a b)))) :=
  pc_wf @Try.call152 fun _ => pc_by (by kernel_rfl) Try.func152 @Try.call152 (by kernel_rfl) s_l1Most_C (s_l1Most_A a b) (by kernel_rfl) (s_l1Most_vc a b) (by kernel_rfl)
def s_l1Most_orc : List D → Orc := orcN [none, none] fun ds => match ds with
  | [.int .i64 a, .int .i64 b] => some (.one (.d (.int .i64 (max a b))))
  | _ => none
def s_l1Own_C (f : FuncId) (ds : List D) : Orc := .no
def s_l1Own_A (l : List Int) : Ann := .none
def s_l1Own_P (l : List Int) : Prop :=
  ((0 : Nat) = 0) ∧ (True) ∧ ((0 + l.length) * 8 ≤ 140737488355328) ∧ (((0 + l.length) = ([] ++ l).length) ∧ ((([] ++ l) : List Int) = l))
theorem s_l1Own_vc (l : List Int) (hl : l.length ≤ 1048576) (w_l : (l.length : Int) ≤ 9223372036854775807) : s_l1Own_P l := by
  unfold s_l1Own_P
  refine ⟨rfl, trivial, ?_, ?_, ?_⟩
  ·omega
  ·(simp_all; done)
  ·rfl
theorem s_l1Own_pc (l : List Int) (hl : l.length ≤ 1048576) : PC Try.prog 256 [.sl (.ints l)] (.one (.own 3 (.ints l))) :=
  pc_wf @Try.call256 fun hw => pc_by (by kernel_rfl) Try.func256 @Try.call256 (by kernel_rfl) s_l1Own_C (s_l1Own_A l) (by kernel_rfl) (s_l1Own_vc l hl hw.1) (by kernel_rfl)
def s_l1Own_orc : List D → Orc := orcN [some .ints] fun ds => match ds with
  | [.sl (.ints l)] => some (.one (.own 3 (.ints l)))
  | _ => none
theorem asc_rising {xs : List Int} {lo hi : Int} (h : rising xs lo hi = true) : Asc xs := by
  refine List.pairwise_iff_getElem.2 fun i j hi hj hij => ?_
  have := rising_lt h hij hj
  rwa [getD_get hi, getD_get hj] at this
def allN (n : Nat) : List Int := members (fun _ => true) n
theorem allN_bits {n : Nat} : members (fun k => (2 ^ n - 1).testBit k) n = allN n :=
  members_congr fun k hk => by simp [Nat.testBit_two_pow_sub_one, hk]
abbrev s_l2Bits_JJ0 (n : Int) (code : Int) (out : List Int) (x : Int) : Prop := (0 ≤ x) ∧ (x ≤ n) ∧ (out = members (fun k => code.toNat.testBit k) x.toNat)
abbrev s_l2Bits_mJ0 (n : Int) (code : Int) (out : List Int) (x : Int) : Nat := (n - x).toNat
def s_l2Bits_C (f : FuncId) (ds : List D) : Orc := .no
def s_l2Bits_A (n : Int) (code : Int) : Ann := .two (.none) (.two (.none) (.two (.two (.none) (.loop (cut2 (fun (out : List Int) (x : Int) => s_l2Bits_JJ0 n code out x) (fun (out : List Int) (x : Int) => [(0, .d false (.int .i64 n)), (1, .d false (.int .i64 code)), (5, .own 1000000 out.length), (6, .d true (.int .i64 x))]) (fun (out : List Int) (x : Int) => [(1000000, .arr true 3 (.ints out))])) (fun g => s_l2Bits_mJ0 n code g.1 g.2) (fun _ => .none))) (.none)))
def s_l2Bits_P (n : Int) (code : Int) : Prop :=
  ((∃ out' : List Int, ∃ x' : Int, (s_l2Bits_JJ0 n code out' x') ∧ (n = n) ∧ (code = code) ∧ ((0 : Nat) = out'.length) ∧ ((0 : Int) = x') ∧ ([] = out')) ∧ (∀ out : List Int, ∀ x : Int, (s_l2Bits_JJ0 n code out x) → (((decide (x < n)) = true → ((0 : Int) ≤ code ∧ (code : Int) ≤ 9223372036854775807) ∧ ((0 : Int) ≤ x) ∧ ((0 : Int) ≤ (code / 2 ^ x.toNat) ∧ ((code / 2 ^ x.toNat) : Int) ≤ 9223372036854775807) ∧ ((0 : Int) ≤ 1 ∧ (1 : Int) ≤ 9223372036854775807) ∧ ((((((code / 2 ^ x.toNat).toNat &&& 1 : Nat) : Int) == 1) = true → (out.length = out.length) ∧ ((1 : Nat) = 1) ∧ ((out.length + 1) * 8 ≤ 140737488355328) ∧ (-9223372036854775808 ≤ (x + 1) ∧ (x + 1) ≤ 9223372036854775807) ∧ (∃ out' : List Int, ∃ x' : Int, (s_l2Bits_JJ0 n code out' x') ∧ (s_l2Bits_mJ0 n code out' x' < s_l2Bits_mJ0 n code out x) ∧ (n = n) ∧ (code = code) ∧ ((out.length + 1) = out'.length) ∧ ((x + 1) = x') ∧ ((out ++ [x]) = out'))) ∧ (((((code / 2 ^ x.toNat).toNat &&& 1 : Nat) : Int) == 1) = false → (-9223372036854775808 ≤ (x + 1) ∧ (x + 1) ≤ 9223372036854775807) ∧ (∃ out' : List Int, ∃ x' : Int, (s_l2Bits_JJ0 n code out' x') ∧ (s_l2Bits_mJ0 n code out' x' < s_l2Bits_mJ0 n code out x) ∧ (n = n) ∧ (code = code) ∧ (out.length = out'.length) ∧ ((x + 1) = x') ∧ (out = out'))))) ∧ ((decide (x < n)) = false → ((out.length = out.length) ∧ ((out : List Int) = (members (fun k => code.toNat.testBit k) n.toNat)))))))
theorem s_l2Bits_vc (n : Int) (code : Int) (hn : 0 ≤ n ∧ n ≤ 62) (hc : 0 ≤ code ∧ code ≤ 4611686018427387903)  : s_l2Bits_P n code := by
  unfold s_l2Bits_P
  refine ⟨?_, ?_⟩
  ·refine ⟨([]), 0, ?_⟩
   refine ⟨?_, rfl, rfl, rfl, rfl, ?_⟩
   ·refine ⟨?_, ?_, ?_⟩
    ·omega
    ·omega
    ·rfl
   ·rfl
  ·intro out x hJ
   obtain ⟨h1, h2, h3⟩ := hJ
   refine ⟨?_, ?_⟩
   ·intro b1
    try simp only [nrmT] at b1
    refine ⟨?_, ?_, ?_, ?_, ?_, ?_⟩
    ·omega
    ·omega
    ·have h5 : 0 ≤ code / 2 ^ x.toNat := Int.ediv_nonneg hc.1 (Int.le_of_lt (Int.pow_pos (by omega)))
     have h6 : code / 2 ^ x.toNat ≤ code := Int.ediv_le_self _ hc.1
     omega
    ·omega
    ·intro b2
     try simp only [nrmT] at b2
     refine ⟨rfl, rfl, ?_, ?_, ?_⟩
     ·rw [h3]; have := members_len_le (fun k => code.toNat.testBit k) x.toNat; omega
     ·omega
     ·refine ⟨(out ++ [x]), (x + 1), ?_⟩
      refine ⟨?_, ?_, rfl, rfl, ?_, rfl, rfl⟩
      ·refine ⟨?_, ?_, ?_⟩
       ·omega
       ·omega
       ·have hb := shr_bit (n := code.toNat) (k := x.toNat)
        rw [show ((code.toNat : Nat) : Int) = code by omega] at hb
        have ht : code.toNat.testBit x.toNat = true := by
          cases h : code.toNat.testBit x.toNat with
          | true => rfl
          | false => rw [h] at hb; simp at hb; simp at b2; omega
        rw [h3, show (x + 1).toNat = x.toNat + 1 by omega, members_succ, if_pos ht, show ((x.toNat : Nat) : Int) = x by omega]
      ·first | (show _ < _; omega) | (simp only [s_l2Bits_mJ0]; omega) | (simp only [s_l2Bits_mJ0] at *; simp at *; omega)
      ·simp
    ·intro b3
     try simp only [nrmT] at b3
     refine ⟨?_, ?_⟩
     ·omega
     ·refine ⟨out, (x + 1), ?_⟩
      refine ⟨?_, ?_, rfl, rfl, rfl, rfl, rfl⟩
      ·refine ⟨?_, ?_, ?_⟩
       ·omega
       ·omega
       ·have hb := shr_bit (n := code.toNat) (k := x.toNat)
        rw [show ((code.toNat : Nat) : Int) = code by omega] at hb
        have ht : code.toNat.testBit x.toNat = false := by
          cases h : code.toNat.testBit x.toNat with
          | false => rfl
          | true => rw [h] at hb; simp at hb; simp at b3; omega
        rw [h3, show (x + 1).toNat = x.toNat + 1 by omega, members_succ, ht]; simp
      ·first | (show _ < _; omega) | (simp only [s_l2Bits_mJ0]; omega) | (simp only [s_l2Bits_mJ0] at *; simp at *; omega)
   ·intro b4
    try simp only [nrmT] at b4
    refine ⟨rfl, ?_⟩
    ·rw [h3, show x.toNat = n.toNat by omega]
theorem s_l2Bits_pc (n : Int) (code : Int) (hn : 0 ≤ n ∧ n ≤ 62) (hc : 0 ≤ code ∧ code ≤ 4611686018427387903) : PC Try.prog 164 [.int .i64 n, .int .i64 code] (.one (.d (.sl (.ints (members (fun k => code.toNat.testBit k) n.toNat))))) :=
  pc_wf @Try.call164 fun _ => pc_by (by kernel_rfl) Try.func164 @Try.call164 (by kernel_rfl) s_l2Bits_C (s_l2Bits_A n code) (by kernel_rfl) (s_l2Bits_vc n code hn hc) (by kernel_rfl)
def s_l2Bits_orc : List D → Orc := orcN [none, none] fun ds => match ds with
  | [.int .i64 n, .int .i64 code] => some (.one (.d (.sl (.ints (members (fun k => code.toNat.testBit k) n.toNat)))))
  | _ => none
def i_isMedianCase_C (f : FuncId) (ds : List D) : Orc := bif Nat.beq f 119 then i_IsField_orc ds else bif Nat.beq f 120 then i_between_orc ds else .no
def i_isMedianCase_A (Open : List Int) (Dist : List (List Int)) (k : Int) : Ann := .none
def i_isMedianCase_P (Open : List Int) (Dist : List (List Int)) (k : Int) : Prop :=
  (PC Try.prog 119 [.agg [.sl (.ints Open), .sl (.rows Dist)]] (.one (.d (.bool (goodField Open Dist))))) ∧ ((goodField Open Dist) = true → (goodField Open Dist) = true) ∧ ((goodField Open Dist) = true → (goodField Open Dist) = true) ∧ ((goodField Open Dist) = true → (goodField Open Dist) = true) ∧ ((goodField Open Dist) = true → (goodField Open Dist) = true) ∧ ((goodField Open Dist) = true → PC Try.prog 120 [.int .i64 k, .int .i64 1, .int .i64 (Open.length : Int)] (.one (.d (.bool (inB k 1 (Open.length : Int)))))) ∧ (true = true) ∧ (((goodField Open Dist) = true → (goodField Open Dist) = true)) ∧ (((goodField Open Dist) = false → true = true)) ∧ (((cond (goodField Open Dist) (inB k 1 (Open.length : Int)) false) = (goodField Open Dist && inB k 1 (Open.length : Int))))
theorem i_isMedianCase_vc (Open : List Int) (Dist : List (List Int)) (k : Int)  (w_Open : (Open.length : Int) ≤ 9223372036854775807) (w_Dist : (Dist.length : Int) ≤ 9223372036854775807) (v_Dist : ∀ x9 ∈ Dist, (x9.length : Int) ≤ 9223372036854775807) : i_isMedianCase_P Open Dist k := by
  unfold i_isMedianCase_P
  refine ⟨i_IsField_pc Open Dist, id, id, id, id, fun _ => i_between_pc k 1 (Open.length : Int), rfl, id, fun _ => rfl, ?_⟩
  ·cases goodField Open Dist <;> rfl
theorem i_isMedianCase_pc (Open : List Int) (Dist : List (List Int)) (k : Int)  : PC Try.prog 141 [.agg [.sl (.ints Open), .sl (.rows Dist)], .int .i64 k] (.one (.d (.bool (goodField Open Dist && inB k 1 (Open.length : Int))))) :=
  pc_wf @Try.call141 fun hw => pc_by (by kernel_rfl) Try.func141 @Try.call141 (by kernel_rfl) i_isMedianCase_C (i_isMedianCase_A Open Dist k) (by kernel_rfl) (i_isMedianCase_vc Open Dist k hw.1.1 hw.1.2.1.1 hw.1.2.1.2) (by kernel_rfl)
def i_isMedianCase_orc : List D → Orc := orcN [none, none] fun ds => match ds with
  | [.agg [.sl (.ints Open), .sl (.rows Dist)], .int .i64 k] => some (.one (.d (.bool (goodField Open Dist && inB k 1 (Open.length : Int)))))
  | _ => none
def cmpI (a b : Int) : Int := if a < b then -1 else if a > b then 1 else 0
def cmpL : List Int → List Int → Int
  | [], [] => 0
  | [], _ :: _ => -1
  | _ :: _, [] => 1
  | x :: r, y :: s => if x < y then -1 else if x > y then 1 else cmpL r s
theorem cmpL_drop {xs ys : List Int} {i : Nat} (h : cmpL xs ys = cmpL (xs.drop i) (ys.drop i)) (h1 : i < xs.length) (h2 : i < ys.length) :
    cmpL xs ys = if xs.getD i 0 < ys.getD i 0 then -1 else if xs.getD i 0 > ys.getD i 0 then 1 else cmpL (xs.drop (i + 1)) (ys.drop (i + 1)) := by
  rw [h, List.drop_eq_getElem_cons h1, List.drop_eq_getElem_cons h2, getD_get h1, getD_get h2]
  rfl
theorem cmpL_short {xs ys : List Int} {i : Nat} (h : cmpL xs ys = cmpL (xs.drop i) (ys.drop i)) (h1 : i < xs.length) (h2 : ys.length ≤ i) : cmpL xs ys = 1 := by
  rw [h, List.drop_eq_getElem_cons h1, List.drop_eq_nil_of_le h2]
  rfl
theorem cmpL_end {xs ys : List Int} {i : Nat} (h : cmpL xs ys = cmpL (xs.drop i) (ys.drop i)) (h1 : xs.length ≤ i) (h2 : i ≤ ys.length) (h3 : i = xs.length) : cmpL xs ys = if xs.length < ys.length then -1 else 0 := by
  rw [h, List.drop_eq_nil_of_le h1]
  by_cases e : xs.length < ys.length
  · rw [if_pos e, List.drop_eq_getElem_cons (by omega)]
    rfl
  · rw [if_neg e, List.drop_eq_nil_of_le (by omega)]
    rfl
def cmp_isNaN_int__C (f : FuncId) (ds : List D) : Orc := .no
def cmp_isNaN_int__A (x : Int) : Ann := .none
def cmp_isNaN_int__P (x : Int) : Prop :=
  (((x != x) = false))
theorem cmp_isNaN_int__vc (x : Int)   : cmp_isNaN_int__P x := by
  unfold cmp_isNaN_int__P
  simp
theorem cmp_isNaN_int__pc (x : Int)  : PC Try.prog 231 [.int .i64 x] (.one (.d (.bool false))) :=
  pc_wf @Try.call231 fun _ => pc_by (by kernel_rfl) Try.func231 @Try.call231 (by kernel_rfl) cmp_isNaN_int__C (cmp_isNaN_int__A x) (by kernel_rfl) (cmp_isNaN_int__vc x) (by kernel_rfl)
def cmp_isNaN_int__orc : List D → Orc := orcN [none] fun ds => match ds with
  | [.int .i64 x] => some (.one (.d (.bool false)))
  | _ => none
def cmp_Compare_int__C (f : FuncId) (ds : List D) : Orc := bif Nat.beq f 231 then cmp_isNaN_int__orc ds else .no
def cmp_Compare_int__A (a : Int) (b : Int) : Ann := .two (.none) (.two (.none) (.two (.none) (.two (.two (.none) (.goF (.none))) (.two (.two (.none) (.goF (.none))) (.none)))))
def cmp_Compare_int__P (a : Int) (b : Int) : Prop :=
  (PC Try.prog 231 [.int .i64 a] (.one (.d (.bool false)))) ∧ (PC Try.prog 231 [.int .i64 b] (.one (.d (.bool false)))) ∧ (false = false) ∧ (false = false) ∧ (((decide (a < b)) = true → ((((-1) : Int) = (cmpI a b)))) ∧ ((decide (a < b)) = false → (((decide (a > b)) = true → (((1 : Int) = (cmpI a b)))) ∧ ((decide (a > b)) = false → (((0 : Int) = (cmpI a b)))))))
theorem cmp_Compare_int__vc (a : Int) (b : Int)   : cmp_Compare_int__P a b := by
  unfold cmp_Compare_int__P
  refine ⟨cmp_isNaN_int__pc a, cmp_isNaN_int__pc b, rfl, rfl, ?_, ?_⟩
  ·intro b1
   try simp only [nrmT] at b1
   unfold cmpI; first | rw [if_pos (by omega)] | rw [if_neg (by omega), if_pos (by omega)] | rw [if_neg (by omega), if_neg (by omega)]
  ·intro b2
   try simp only [nrmT] at b2
   refine ⟨?_, ?_⟩
   ·intro b3
    try simp only [nrmT] at b3
    unfold cmpI; first | rw [if_pos (by omega)] | rw [if_neg (by omega), if_pos (by omega)] | rw [if_neg (by omega), if_neg (by omega)]
   ·intro b4
    try simp only [nrmT] at b4
    unfold cmpI; first | rw [if_pos (by omega)] | rw [if_neg (by omega), if_pos (by omega)] | rw [if_neg (by omega), if_neg (by omega)]
theorem cmp_Compare_int__pc (a : Int) (b : Int)  : PC Try.prog 235 [.int .i64 a, .int .i64 b] (.one (.d (.int .i64 (cmpI a b)))) :=
  pc_wf @Try.call235 fun _ => pc_by (by kernel_rfl) Try.func235 @Try.call235 (by kernel_rfl) cmp_Compare_int__C (cmp_Compare_int__A a b) (by kernel_rfl) (cmp_Compare_int__vc a b) (by kernel_rfl)
def cmp_Compare_int__orc : List D → Orc := orcN [none, none] fun ds => match ds with
  | [.int .i64 a, .int .i64 b] => some (.one (.d (.int .i64 (cmpI a b))))
  | _ => none
abbrev slices_Compare_int_int__JJ0 (xs : List Int) (ys : List Int) (i : Int) : Prop := (0 ≤ i) ∧ (i ≤ (xs.length : Int)) ∧ (i ≤ (ys.length : Int)) ∧ (cmpL xs ys = cmpL (xs.drop i.toNat) (ys.drop i.toNat))
abbrev slices_Compare_int_int__mJ0 (xs : List Int) (ys : List Int) (i : Int) : Nat := (xs.length - i).toNat
def slices_Compare_int_int__C (f : FuncId) (ds : List D) : Orc := bif Nat.beq f 235 then cmp_Compare_int__orc ds else .no
def slices_Compare_int_int__A (xs : List Int) (ys : List Int) : Ann := .two (.none) (.two (.two (.none) (.loop (cut1 (fun (i : Int) => slices_Compare_int_int__JJ0 xs ys i) (fun (i : Int) => [(0, .d false (.sl (.ints xs))), (1, .d false (.sl (.ints ys))), (9, .d false (.sl (.ints xs))), (10, .d true (.int .i64 (xs.length : Int))), (11, .d true (.int .i64 i))]) (fun (i : Int) => [])) (fun g => slices_Compare_int_int__mJ0 xs ys g) (fun _ => .none))) (.none))
def slices_Compare_int_int__P (xs : List Int) (ys : List Int) : Prop :=
  ((∃ i' : Int, (slices_Compare_int_int__JJ0 xs ys i') ∧ (xs = xs) ∧ (ys = ys) ∧ (xs = xs) ∧ ((xs.length : Int) = (xs.length : Int)) ∧ ((0 : Int) = i')) ∧ (∀ i : Int, (slices_Compare_int_int__JJ0 xs ys i) → (((decide (i < (xs.length : Int))) = true → ((0 : Int) ≤ i) ∧ ((i : Int) < xs.length) ∧ (i.toNat < xs.length) ∧ (((decide (i ≥ (ys.length : Int))) = true → (((1 : Int) = (cmpL xs ys)))) ∧ ((decide (i ≥ (ys.length : Int))) = false → ((0 : Int) ≤ i) ∧ ((i : Int) < ys.length) ∧ (i.toNat < ys.length) ∧ (PC Try.prog 235 [.int .i64 (xs.getD i.toNat 0), .int .i64 (ys.getD i.toNat 0)] (.one (.d (.int .i64 (cmpI (xs.getD i.toNat 0) (ys.getD i.toNat 0)))))) ∧ ((((cmpI (xs.getD i.toNat 0) (ys.getD i.toNat 0)) != 0) = true → (((cmpI (xs.getD i.toNat 0) (ys.getD i.toNat 0)) = (cmpL xs ys)))) ∧ (((cmpI (xs.getD i.toNat 0) (ys.getD i.toNat 0)) != 0) = false → (-9223372036854775808 ≤ (i + 1) ∧ (i + 1) ≤ 9223372036854775807) ∧ (∃ i' : Int, (slices_Compare_int_int__JJ0 xs ys i') ∧ (slices_Compare_int_int__mJ0 xs ys i' < slices_Compare_int_int__mJ0 xs ys i) ∧ (xs = xs) ∧ (ys = ys) ∧ (xs = xs) ∧ ((xs.length : Int) = (xs.length : Int)) ∧ ((i + 1) = i'))))))) ∧ ((decide (i < (xs.length : Int))) = false → (((decide ((xs.length : Int) < (ys.length : Int))) = true → ((((-1) : Int) = (cmpL xs ys)))) ∧ ((decide ((xs.length : Int) < (ys.length : Int))) = false → (((0 : Int) = (cmpL xs ys)))))))))
theorem slices_Compare_int_int__vc (xs : List Int) (ys : List Int)  (w_xs : (xs.length : Int) ≤ 9223372036854775807) (w_ys : (ys.length : Int) ≤ 9223372036854775807) : slices_Compare_int_int__P xs ys := by
  unfold slices_Compare_int_int__P
  refine ⟨?_, ?_⟩
  ·refine ⟨0, ?_⟩
   refine ⟨?_, rfl, rfl, rfl, rfl, rfl⟩
   ·refine ⟨?_, ?_, ?_, ?_⟩
    ·omega
    ·omega
    ·omega
    ·rfl
  ·intro i hJ
   obtain ⟨h1, h2, h2y, h3⟩ := hJ
   refine ⟨?_, ?_⟩
   ·intro b1
    try simp only [nrmT] at b1
    refine ⟨?_, ?_, ?_, ?_, ?_⟩
    ·omega
    ·omega
    ·omega
    ·intro b2
     try simp only [nrmT] at b2
     exact (cmpL_short h3 (by omega) (by omega)).symm
    ·intro b3
     try simp only [nrmT] at b3
     refine ⟨?_, ?_, ?_, cmp_Compare_int__pc (xs.getD i.toNat 0) (ys.getD i.toNat 0), ?_, ?_⟩
     ·omega
     ·omega
     ·omega
     ·intro b4
      try simp only [nrmT] at b4
      rw [cmpL_drop h3 (by omega) (by omega)]
      unfold cmpI at b4 ⊢
      by_cases h5 : xs.getD i.toNat 0 < ys.getD i.toNat 0
      · rw [if_pos h5, if_pos h5]
      · rw [if_neg h5] at b4 ⊢
        by_cases h6 : xs.getD i.toNat 0 > ys.getD i.toNat 0
        · rw [if_pos h6, if_neg h5, if_pos h6]
        · rw [if_neg h6] at b4; omega
     ·intro b5
      try simp only [nrmT] at b5
      refine ⟨?_, ?_⟩
      ·omega
      ·refine ⟨(i + 1), ?_⟩
       refine ⟨?_, ?_, rfl, rfl, rfl, rfl, rfl⟩
       ·refine ⟨?_, ?_, ?_, ?_⟩
        ·omega
        ·omega
        ·omega
        ·have h7 := cmpL_drop h3 (by omega) (by omega)
         unfold cmpI at b5
         rw [h7, show (i + 1).toNat = i.toNat + 1 by omega]
         by_cases h5 : xs.getD i.toNat 0 < ys.getD i.toNat 0
         · rw [if_pos h5] at b5; omega
         · rw [if_neg h5] at b5 ⊢
           by_cases h6 : xs.getD i.toNat 0 > ys.getD i.toNat 0
           · rw [if_pos h6] at b5; omega
           · rw [if_neg h6]
       ·first | (show _ < _; omega) | (simp only [slices_Compare_int_int__mJ0]; omega) | (simp only [slices_Compare_int_int__mJ0] at *; simp at *; omega)
   ·intro b6
    try simp only [nrmT] at b6
    refine ⟨?_, ?_⟩
    ·intro b7
     try simp only [nrmT] at b7
     rw [cmpL_end h3 (by omega) (by omega) (by omega), if_pos (by omega)]
    ·intro b8
     try simp only [nrmT] at b8
     rw [cmpL_end h3 (by omega) (by omega) (by omega), if_neg (by omega)]
theorem slices_Compare_int_int__pc (xs : List Int) (ys : List Int)  : PC Try.prog 236 [.sl (.ints xs), .sl (.ints ys)] (.one (.d (.int .i64 (cmpL xs ys)))) :=
  pc_wf @Try.call236 fun hw => pc_by (by kernel_rfl) Try.func236 @Try.call236 (by kernel_rfl) slices_Compare_int_int__C (slices_Compare_int_int__A xs ys) (by kernel_rfl) (slices_Compare_int_int__vc xs ys hw.1 hw.2.1) (by kernel_rfl)
def slices_Compare_int_int__orc : List D → Orc := orcN [some .ints, some .ints] fun ds => match ds with
  | [.sl (.ints xs), .sl (.ints ys)] => some (.one (.d (.int .i64 (cmpL xs ys))))
  | _ => none
def lst (n code : Nat) : List Int := members (fun k => code.testBit k) n
theorem lst_in {n code : Nat} : ∀ x ∈ lst n code, 0 ≤ x ∧ x < (n : Int) := fun x hx => by
  have := mem_members.1 hx
  omega
theorem lst_len {n code : Nat} : (lst n code).length ≤ n := members_len_le _ _
theorem one_shl (n : Nat) : (1 : Int) * 2 ^ ((n : Int)).toNat = ((2 ^ n : Nat) : Int) := by
  rw [Int.toNat_natCast]; simp
theorem allN_len (n : Nat) : (allN n).length = n := by
  unfold allN members
  have e : (List.range n).filter (fun _ => true) = List.range n := List.filter_eq_self.2 fun _ _ => rfl
  rw [e]; simp
def cmpS (a b : List Int) : Int := if cmpI (a.length : Int) (b.length : Int) = 0 then cmpL a b else cmpI (a.length : Int) (b.length : Int)
theorem cmpL_self : ∀ x : List Int, cmpL x x = 0
  | [] => rfl
  | x :: r => by unfold cmpL; rw [if_neg (by omega), if_neg (by omega)]; exact cmpL_self r
theorem cmpL_zero : ∀ {x y : List Int}, cmpL x y = 0 → x = y
  | [], [], _ => rfl
  | [], _ :: _, h => by simp [cmpL] at h
  | _ :: _, [], h => by simp [cmpL] at h
  | x :: r, y :: s, h => by
    unfold cmpL at h
    by_cases h1 : x < y
    · rw [if_pos h1] at h; omega
    · rw [if_neg h1] at h
      by_cases h2 : x > y
      · rw [if_pos h2] at h; omega
      · rw [if_neg h2] at h
        have : x = y := by omega
        rw [this, cmpL_zero h]
theorem cmpL_flip : ∀ {x y : List Int}, cmpL x y < 0 ↔ 0 < cmpL y x
  | [], [] => by simp [cmpL]
  | [], _ :: _ => by simp [cmpL]
  | _ :: _, [] => by simp [cmpL]
  | x :: r, y :: s => by
    unfold cmpL
    by_cases h1 : x < y
    · rw [if_pos h1, if_neg (by omega), if_pos (by omega)]; omega
    · rw [if_neg h1]
      by_cases h2 : x > y
      · rw [if_pos h2, if_pos (by omega)]; omega
      · rw [if_neg h2, if_neg (by omega), if_neg (by omega)]; exact cmpL_flip
theorem cmpL_tr : ∀ {x y z : List Int}, cmpL x y < 0 → cmpL y z < 0 → cmpL x z < 0
  | [], _, [], h1, h2 => by
    exfalso
    rename_i y
    cases y with
    | nil => simp [cmpL] at h1
    | cons y s => simp [cmpL] at h2
  | [], _, _ :: _, _, _ => by simp [cmpL]
  | _ :: _, [], _, h, _ => by simp [cmpL] at h
  | _ :: _, _ :: _, [], _, h => by simp [cmpL] at h
  | x :: r, y :: s, z :: t, h1, h2 => by
    unfold cmpL at h1 h2 ⊢
    by_cases a1 : x < y
    · by_cases a2 : y < z
      · rw [if_pos (by omega)]; omega
      · rw [if_neg a2] at h2
        by_cases a3 : y > z
        · rw [if_pos a3] at h2; omega
        · rw [if_pos (by omega)]; omega
    · rw [if_neg a1] at h1
      by_cases a4 : x > y
      · rw [if_pos a4] at h1; omega
      · rw [if_neg a4] at h1
        by_cases a2 : y < z
        · rw [if_pos (by omega)]; omega
        · rw [if_neg a2] at h2
          by_cases a3 : y > z
          · rw [if_pos a3] at h2; omega
          · rw [if_neg a3] at h2
            rw [if_neg (by omega), if_neg (by omega)]
            exact cmpL_tr h1 h2
theorem cmpS_cases (a b : List Int) : (a.length < b.length ∧ cmpS a b < 0) ∨ (b.length < a.length ∧ 0 < cmpS a b) ∨ (a.length = b.length ∧ cmpS a b = cmpL a b) := by
  unfold cmpS cmpI
  by_cases h1 : (a.length : Int) < b.length
  · rw [if_pos h1]; left; exact ⟨by omega, by rw [if_neg (by omega)]; omega⟩
  · rw [if_neg h1]
    by_cases h2 : (a.length : Int) > b.length
    · rw [if_pos h2]; right; left; exact ⟨by omega, by rw [if_neg (by omega)]; omega⟩
    · rw [if_neg h2]; right; right; exact ⟨by omega, by rw [if_pos rfl]⟩
theorem cmpS_self (a : List Int) : cmpS a a = 0 := by
  rcases cmpS_cases a a with h | h | h
  · omega
  · omega
  · rw [h.2, cmpL_self]
theorem cmpS_zero {a b : List Int} (h : cmpS a b = 0) : a = b := by
  rcases cmpS_cases a b with h1 | h1 | h1
  · omega
  · omega
  · exact cmpL_zero (h1.2 ▸ h)
theorem cmpS_flip {a b : List Int} : cmpS a b < 0 ↔ 0 < cmpS b a := by
  rcases cmpS_cases a b with h1 | h1 | h1 <;> rcases cmpS_cases b a with h2 | h2 | h2
  · omega
  · omega
  · omega
  · omega
  · omega
  · omega
  · omega
  · omega
  · rw [h1.2, h2.2]; exact cmpL_flip
theorem cmpS_tr {a b c : List Int} (h : cmpS a b < 0) (k : cmpS b c < 0) : cmpS a c < 0 := by
  rcases cmpS_cases a b with h1 | h1 | h1 <;> rcases cmpS_cases b c with h2 | h2 | h2 <;> rcases cmpS_cases a c with h3 | h3 | h3
  all_goals first | omega | (rw [h3.2]; exact cmpL_tr (h1.2 ▸ h) (h2.2 ▸ k))
theorem swo_of {β : Type} {c : β → β → Int} (hs : ∀ x, c x x = 0) (h0 : ∀ {x y}, c x y = 0 → x = y) (hf : ∀ {x y}, c x y < 0 ↔ 0 < c y x) (ht : ∀ {x y z}, c x y < 0 → c y z < 0 → c x z < 0) :
    Go.Sort.SWO (ltOf c) ∧ ∀ x y, ltOf c x y = false → ltOf c y x = false → x = y := by
  refine ⟨⟨fun x => ?_, fun x y z h1 h2 => ?_, fun x y z h1 h2 => ?_⟩, fun x y h1 h2 => ?_⟩
  · exact decide_eq_false (by rw [hs]; omega)
  · exact decide_eq_true (ht (of_decide_eq_true h1) (of_decide_eq_true h2))
  · have h1 := of_decide_eq_false h1
    have h2 := of_decide_eq_false h2
    refine decide_eq_false fun h3 => ?_
    by_cases e1 : c x y = 0
    · rw [h0 e1] at h3; omega
    · by_cases e2 : c y z = 0
      · rw [← h0 e2] at h3; omega
      · have a1 : c y x < 0 := hf.2 (by omega)
        have a2 : c z y < 0 := hf.2 (by omega)
        have a3 := ht a2 a1
        have a4 := hf.1 h3
        omega
  · have h1 := of_decide_eq_false h1
    have h2 := of_decide_eq_false h2
    refine h0 ?_
    by_cases e1 : 0 < c x y
    · have := hf.2 e1; omega
    · omega
theorem swoS : Go.Sort.SWO (ltOf cmpS) := (swo_of cmpS_self cmpS_zero cmpS_flip cmpS_tr).1
theorem totS : ∀ x y, ltOf cmpS x y = false → ltOf cmpS y x = false → x = y := (swo_of cmpS_self cmpS_zero cmpS_flip cmpS_tr).2
def orI : List Int → Int
  | [] => 0
  | x :: r => if x = 0 then orI r else x
theorem orI_drop {xs : List Int} {i : Nat} (h : orI xs = orI (xs.drop i)) (hi : i < xs.length) : orI xs = if xs.getD i 0 = 0 then orI (xs.drop (i + 1)) else xs.getD i 0 := by
  rw [h, List.drop_eq_getElem_cons hi, getD_get hi]; rfl
theorem orI_end {xs : List Int} {i : Nat} (h : orI xs = orI (xs.drop i)) (hi : xs.length ≤ i) : orI xs = 0 := by
  rw [h, List.drop_eq_nil_of_le hi]; rfl
theorem orI_two (a b : Int) : orI [a, b] = if a = 0 then b else a := by
  unfold orI orI orI
  by_cases h : b = 0
  · rw [if_pos h, h]
  · rw [if_neg h]
def preS (n m : Nat) : List (List Int) := (List.range m).map fun c => lst n (c + 1)
def setsL (n : Nat) : List (List Int) := (preS n (2 ^ n - 1)).mergeSort fun x9 y9 => !(ltOf cmpS) y9 x9
theorem preS_len (n m : Nat) : (preS n m).length = m := by simp [preS]
theorem setsL_len (n : Nat) : (setsL n).length = 2 ^ n - 1 := by unfold setsL; rw [List.length_mergeSort, preS_len]
theorem preS_succ (n m : Nat) : preS n (m + 1) = preS n m ++ [lst n (m + 1)] := by simp [preS, List.range_succ]
theorem setsL_mem {n : Nat} {s : List Int} : s ∈ setsL n ↔ ∃ c, 1 ≤ c ∧ c < 2 ^ n ∧ lst n c = s := by
  unfold setsL
  rw [(List.mergeSort_perm _ _).mem_iff, preS, List.mem_map]
  constructor
  · rintro ⟨c, hc, rfl⟩
    have := List.mem_range.1 hc
    exact ⟨c + 1, by omega, by omega, rfl⟩
  · rintro ⟨c, h1, h2, rfl⟩
    exact ⟨c - 1, List.mem_range.2 (by omega), by rw [show c - 1 + 1 = c by omega]⟩
theorem lst_pos {n c : Nat} (h1 : 1 ≤ c) (h2 : c < 2 ^ n) : 0 < (lst n c).length := by
  rcases Nat.eq_zero_or_pos (lst n c).length with h | h
  · exfalso
    have e : lst n c = [] := List.eq_nil_of_length_eq_zero h
    have : c = 0 := by
      apply Nat.eq_of_testBit_eq
      intro i
      rw [Nat.zero_testBit]
      by_cases hi : i < n
      · cases hb : c.testBit i with
        | false => rfl
        | true =>
          have hm : (i : Int) ∈ lst n c := mem_members.2 ⟨by omega, by omega, by rw [Int.toNat_natCast]; exact hb⟩
          rw [e] at hm; cases hm
      · exact Nat.testBit_lt_two_pow (Nat.lt_of_lt_of_le h2 (Nat.pow_le_pow_right (by omega) (by omega)))
    omega
  · exact h
theorem list62 {n c : Nat} (hn : n ≤ 62) (h : c < 2 ^ n) : members (fun k => c.testBit k) 62 = lst n c :=
  members_stop (fun k hk => Nat.testBit_lt_two_pow (Nat.lt_of_lt_of_le h (Nat.pow_le_pow_right (by omega) hk))) 62 hn
theorem ins_sorted {out : List (List Int)} {s : List Int} {k : Nat} (ho : out.Pairwise fun x9 y9 => ltOf cmpS y9 x9 = false) (hk : k ≤ out.length) (h1 : ∀ j, k ≤ j → j < out.length → cmpS s (out.getD j []) < 0) (h2 : k = 0 ∨ ¬ cmpS s (out.getD (k - 1) []) < 0) :
    ((out.take k ++ [s]) ++ out.drop k).Pairwise fun x9 y9 => ltOf cmpS y9 x9 = false := by
  have hle : ∀ x ∈ out.take k, ltOf cmpS s x = false := by
    intro x hx
    obtain ⟨j, hj, rfl⟩ := List.mem_iff_getElem.1 hx
    have hj' : j < k ∧ j < out.length := by rw [List.length_take] at hj; omega
    rcases h2 with h2 | h2
    · omega
    · have hs : ltOf cmpS s (out.getD (k - 1) []) = false := decide_eq_false h2
      by_cases e : j = k - 1
      · subst e; rw [getD_get (by omega)] at hs; simpa using hs
      · have := List.pairwise_iff_getElem.1 ho j (k - 1) (by omega) (by omega) (by omega)
        rw [getD_get (by omega)] at hs
        simpa using swoS.ntrans _ _ _ hs this
  have hgt : ∀ y ∈ out.drop k, ltOf cmpS y s = false := by
    intro y hy
    obtain ⟨j, hj, rfl⟩ := List.mem_iff_getElem.1 hy
    have hj' : k + j < out.length := by rw [List.length_drop] at hj; omega
    have := h1 (k + j) (by omega) hj'
    rw [getD_get hj'] at this
    rw [List.getElem_drop]
    refine decide_eq_false fun h => ?_
    have := cmpS_flip.1 h
    omega
  refine List.pairwise_append.2 ⟨List.pairwise_append.2 ⟨ho.sublist (List.take_sublist _ _), by simp, fun a ha b hb => ?_⟩, ho.sublist (List.drop_sublist _ _), fun a ha b hb => ?_⟩
  · have : b = s := by simpa using hb
    subst this; exact hle a ha
  · rcases List.mem_append.1 ha with ha | ha
    · obtain ⟨i, hi, rfl⟩ := List.mem_iff_getElem.1 ha
      obtain ⟨j, hj, rfl⟩ := List.mem_iff_getElem.1 hb
      have hi' : i < k ∧ i < out.length := by rw [List.length_take] at hi; omega
      have hj' : k + j < out.length := by rw [List.length_drop] at hj; omega
      have := List.pairwise_iff_getElem.1 ho i (k + j) hi'.2 hj' (by omega)
      simpa using this
    · have : a = s := by simpa using ha
      subst this; exact hgt b hb
theorem ins_perm {out : List (List Int)} {s : List Int} {n m k : Nat} (hp : out.Perm (preS n m)) (hs : s = lst n (m + 1)) : ((out.take k ++ [s]) ++ out.drop k).Perm (preS n (m + 1)) := by
  rw [preS_succ, ← hs, List.append_assoc]
  refine List.Perm.trans (List.perm_append_comm_assoc _ _ _) ?_
  refine List.Perm.trans ?_ (List.perm_append_comm)
  rw [List.take_append_drop]
  exact hp.append_left [s]
theorem sets_done {out : List (List Int)} {n m : Nat} (hp : out.Perm (preS n m)) (hm : m = 2 ^ n - 1) (ho : out.Pairwise fun x9 y9 => ltOf cmpS y9 x9 = false) : out = setsL n := by
  subst hm
  exact sortedBy_unique swoS totS hp ho
abbrev cmp_Or_int__JJ0 (xs : List Int) (i : Int) : Prop := (0 ≤ i) ∧ (i ≤ (xs.length : Int)) ∧ (orI xs = orI (xs.drop i.toNat))
abbrev cmp_Or_int__mJ0 (xs : List Int) (i : Int) : Nat := (xs.length - i).toNat
def cmp_Or_int__C (f : FuncId) (ds : List D) : Orc := .no
def cmp_Or_int__A (xs : List Int) : Ann := .two (.none) (.two (.none) (.two (.two (.none) (.loop (cut1 (fun (i : Int) => cmp_Or_int__JJ0 xs i) (fun (i : Int) => [(3, .d true (.int .i64 0)), (6, .d false (.sl (.ints xs))), (7, .d true (.int .i64 (xs.length : Int))), (8, .d true (.int .i64 i))]) (fun (i : Int) => [])) (fun g => cmp_Or_int__mJ0 xs g) (fun _ => .none))) (.none)))
def cmp_Or_int__P (xs : List Int) : Prop :=
  ((∃ i' : Int, (cmp_Or_int__JJ0 xs i') ∧ ((0 : Int) = 0) ∧ (xs = xs) ∧ ((xs.length : Int) = (xs.length : Int)) ∧ ((0 : Int) = i')) ∧ (∀ i : Int, (cmp_Or_int__JJ0 xs i) → (((decide (i < (xs.length : Int))) = true → ((0 : Int) ≤ i) ∧ ((i : Int) < xs.length) ∧ (i.toNat < xs.length) ∧ ((((xs.getD i.toNat 0) != 0) = true → (((xs.getD i.toNat 0) = (orI xs)))) ∧ (((xs.getD i.toNat 0) != 0) = false → (-9223372036854775808 ≤ (i + 1) ∧ (i + 1) ≤ 9223372036854775807) ∧ (∃ i' : Int, (cmp_Or_int__JJ0 xs i') ∧ (cmp_Or_int__mJ0 xs i' < cmp_Or_int__mJ0 xs i) ∧ ((0 : Int) = 0) ∧ (xs = xs) ∧ ((xs.length : Int) = (xs.length : Int)) ∧ ((i + 1) = i'))))) ∧ ((decide (i < (xs.length : Int))) = false → (((0 : Int) = (orI xs)))))))
theorem cmp_Or_int__vc (xs : List Int)  (w_xs : (xs.length : Int) ≤ 9223372036854775807) : cmp_Or_int__P xs := by
  unfold cmp_Or_int__P
  refine ⟨?_, ?_⟩
  ·refine ⟨0, ?_⟩
   refine ⟨?_, rfl, rfl, rfl, rfl⟩
   ·refine ⟨?_, ?_, ?_⟩
    ·omega
    ·omega
    ·rfl
  ·intro i hJ
   obtain ⟨h1, h2, h3⟩ := hJ
   refine ⟨?_, ?_⟩
   ·intro b1
    try simp only [nrmT] at b1
    refine ⟨?_, ?_, ?_, ?_, ?_⟩
    ·omega
    ·omega
    ·omega
    ·intro b2
     try simp only [nrmT] at b2
     rw [orI_drop h3 (by omega), if_neg (by omega)]
    ·intro b3
     try simp only [nrmT] at b3
     refine ⟨?_, ?_⟩
     ·omega
     ·refine ⟨(i + 1), ?_⟩
      refine ⟨?_, ?_, rfl, rfl, rfl, rfl⟩
      ·refine ⟨?_, ?_, ?_⟩
       ·omega
       ·omega
       ·rw [orI_drop h3 (by omega), if_pos (by omega), show (i + 1).toNat = i.toNat + 1 by omega]
      ·first | (show _ < _; omega) | (simp only [cmp_Or_int__mJ0]; omega) | (simp only [cmp_Or_int__mJ0] at *; simp at *; omega)
   ·intro b4
    try simp only [nrmT] at b4
    exact (orI_end h3 (by omega)).symm
theorem cmp_Or_int__pc (xs : List Int)  : PC Try.prog 234 [.sl (.ints xs)] (.one (.d (.int .i64 (orI xs)))) :=
  pc_wf @Try.call234 fun hw => pc_by (by kernel_rfl) Try.func234 @Try.call234 (by kernel_rfl) cmp_Or_int__C (cmp_Or_int__A xs) (by kernel_rfl) (cmp_Or_int__vc xs hw.1) (by kernel_rfl)
def cmp_Or_int__orc : List D → Orc := orcN [some .ints] fun ds => match ds with
  | [.sl (.ints xs)] => some (.one (.d (.int .i64 (orI xs))))
  | _ => none
def i_compareSets_C (f : FuncId) (ds : List D) : Orc := bif Nat.beq f 235 then cmp_Compare_int__orc ds else bif Nat.beq f 236 then slices_Compare_int_int__orc ds else bif Nat.beq f 234 then cmp_Or_int__orc ds else .no
def i_compareSets_A (xs : List Int) (ys : List Int) : Ann := .none
def i_compareSets_P (xs : List Int) (ys : List Int) : Prop :=
  (PC Try.prog 235 [.int .i64 (xs.length : Int), .int .i64 (ys.length : Int)] (.one (.d (.int .i64 (cmpI (xs.length : Int) (ys.length : Int)))))) ∧ (PC Try.prog 236 [.sl (.ints xs), .sl (.ints ys)] (.one (.d (.int .i64 (cmpL xs ys))))) ∧ ((2 : Nat) = 2) ∧ (PC Try.prog 234 [.sl (.ints ([(cmpI (xs.length : Int) (ys.length : Int)), (cmpL xs ys)]))] (.one (.d (.int .i64 (orI ([(cmpI (xs.length : Int) (ys.length : Int)), (cmpL xs ys)])))))) ∧ (((orI ([(cmpI (xs.length : Int) (ys.length : Int)), (cmpL xs ys)])) = (cmpS xs ys)))
theorem i_compareSets_vc (xs : List Int) (ys : List Int)  (w_xs : (xs.length : Int) ≤ 9223372036854775807) (w_ys : (ys.length : Int) ≤ 9223372036854775807) : i_compareSets_P xs ys := by
  unfold i_compareSets_P
  refine ⟨cmp_Compare_int__pc (xs.length : Int) (ys.length : Int), slices_Compare_int_int__pc xs ys, rfl, cmp_Or_int__pc ([(cmpI (xs.length : Int) (ys.length : Int)), (cmpL xs ys)]), ?_⟩
  ·rw [orI_two]; rfl
theorem i_compareSets_pc (xs : List Int) (ys : List Int)  : PC Try.prog 208 [.sl (.ints xs), .sl (.ints ys)] (.one (.d (.int .i64 (cmpS xs ys)))) :=
  pc_wf @Try.call208 fun hw => pc_by (by kernel_rfl) Try.func208 @Try.call208 (by kernel_rfl) i_compareSets_C (i_compareSets_A xs ys) (by kernel_rfl) (i_compareSets_vc xs ys hw.1 hw.2.1) (by kernel_rfl)
abbrev s_l2Before_JJ0 (xs : List Int) (ys : List Int) (i : Int) : Prop := (0 ≤ i) ∧ (i ≤ (xs.length : Int)) ∧ (xs.length = ys.length) ∧ (cmpL xs ys = cmpL (xs.drop i.toNat) (ys.drop i.toNat))
abbrev s_l2Before_mJ0 (xs : List Int) (ys : List Int) (i : Int) : Nat := (xs.length - i).toNat
def s_l2Before_C (f : FuncId) (ds : List D) : Orc := .no
def s_l2Before_A (xs : List Int) (ys : List Int) : Ann := .two (.none) (.two (.none) (.two (.two (.none) (.loop (cut1 (fun (i : Int) => s_l2Before_JJ0 xs ys i) (fun (i : Int) => [(0, .d false (.sl (.ints xs))), (1, .d false (.sl (.ints ys))), (5, .d true (.int .i64 i))]) (fun (i : Int) => [])) (fun g => s_l2Before_mJ0 xs ys g) (fun _ => .none))) (.none)))
def s_l2Before_P (xs : List Int) (ys : List Int) : Prop :=
  ((((xs.length : Int) != (ys.length : Int)) = true → (((decide ((xs.length : Int) < (ys.length : Int))) = (decide (cmpS xs ys < 0))))) ∧ (((xs.length : Int) != (ys.length : Int)) = false → ((∃ i' : Int, (s_l2Before_JJ0 xs ys i') ∧ (xs = xs) ∧ (ys = ys) ∧ ((0 : Int) = i')) ∧ (∀ i : Int, (s_l2Before_JJ0 xs ys i) → (((decide (i < (xs.length : Int))) = true → (true = true) ∧ ((0 : Int) ≤ i) ∧ ((i : Int) < xs.length) ∧ (i.toNat < xs.length) ∧ ((0 : Int) ≤ i) ∧ ((i : Int) < ys.length) ∧ (i.toNat < ys.length) ∧ ((((xs.getD i.toNat 0) != (ys.getD i.toNat 0)) = true → (true = true) ∧ ((0 : Int) ≤ i) ∧ ((i : Int) < xs.length) ∧ (i.toNat < xs.length) ∧ ((0 : Int) ≤ i) ∧ ((i : Int) < ys.length) ∧ (i.toNat < ys.length) ∧ (((decide ((xs.getD i.toNat 0) < (ys.getD i.toNat 0))) = (decide (cmpS xs ys < 0))))) ∧ (((xs.getD i.toNat 0) != (ys.getD i.toNat 0)) = false → (-9223372036854775808 ≤ (i + 1) ∧ (i + 1) ≤ 9223372036854775807) ∧ (∃ i' : Int, (s_l2Before_JJ0 xs ys i') ∧ (s_l2Before_mJ0 xs ys i' < s_l2Before_mJ0 xs ys i) ∧ (xs = xs) ∧ (ys = ys) ∧ ((i + 1) = i'))))) ∧ ((decide (i < (xs.length : Int))) = false → ((false = (decide (cmpS xs ys < 0))))))))))
theorem s_l2Before_vc (xs : List Int) (ys : List Int)  (w_xs : (xs.length : Int) ≤ 9223372036854775807) (w_ys : (ys.length : Int) ≤ 9223372036854775807) : s_l2Before_P xs ys := by
  unfold s_l2Before_P
  refine ⟨?_, ?_⟩
  ·intro b1
   try simp only [nrmT] at b1
   rcases cmpS_cases xs ys with h | h | h
   · rw [decide_eq_true h.2, decide_eq_true (by omega)]
   · rw [decide_eq_false (by omega), decide_eq_false (by omega)]
   · omega
  ·intro b2
   try simp only [nrmT] at b2
   refine ⟨?_, ?_⟩
   ·refine ⟨0, ?_⟩
    refine ⟨?_, rfl, rfl, rfl⟩
    ·refine ⟨?_, ?_, ?_, ?_⟩
     ·omega
     ·omega
     ·omega
     ·rfl
   ·intro i hJ
    obtain ⟨h1, h2, hl, h3⟩ := hJ
    refine ⟨?_, ?_⟩
    ·intro b3
     try simp only [nrmT] at b3
     refine ⟨rfl, ?_, ?_, ?_, ?_, ?_, ?_, ?_, ?_⟩
     ·omega
     ·omega
     ·omega
     ·omega
     ·omega
     ·omega
     ·intro b4
      try simp only [nrmT] at b4
      refine ⟨rfl, ?_, ?_, ?_, ?_, ?_, ?_, ?_⟩
      ·omega
      ·omega
      ·omega
      ·omega
      ·omega
      ·omega
      ·have h5 : cmpS xs ys = cmpL xs ys := by rcases cmpS_cases xs ys with h | h | h <;> first | omega | exact h.2
       rw [h5, cmpL_drop h3 (by omega) (by omega)]
       by_cases h6 : xs.getD i.toNat 0 < ys.getD i.toNat 0
       · rw [if_pos h6, decide_eq_true h6]; rfl
       · rw [if_neg h6, if_pos (by omega), decide_eq_false h6]; rfl
     ·intro b5
      try simp only [nrmT] at b5
      refine ⟨?_, ?_⟩
      ·omega
      ·refine ⟨(i + 1), ?_⟩
       refine ⟨?_, ?_, rfl, rfl, rfl⟩
       ·refine ⟨?_, ?_, ?_, ?_⟩
        ·omega
        ·omega
        ·exact hl
        ·rw [cmpL_drop h3 (by omega) (by omega), show (i + 1).toNat = i.toNat + 1 by omega, if_neg (by omega), if_neg (by omega)]
       ·first | (show _ < _; omega) | (simp only [s_l2Before_mJ0]; omega) | (simp only [s_l2Before_mJ0] at *; simp at *; omega)
    ·intro b6
     try simp only [nrmT] at b6
     have h5 : cmpS xs ys = cmpL xs ys := by rcases cmpS_cases xs ys with h | h | h <;> first | omega | exact h.2
     rw [h5, cmpL_end h3 (by omega) (by omega) (by omega), if_neg (by omega)]; rfl
theorem s_l2Before_pc (xs : List Int) (ys : List Int)  : PC Try.prog 239 [.sl (.ints xs), .sl (.ints ys)] (.one (.d (.bool (decide (cmpS xs ys < 0))))) :=
  pc_wf @Try.call239 fun hw => pc_by (by kernel_rfl) Try.func239 @Try.call239 (by kernel_rfl) s_l2Before_C (s_l2Before_A xs ys) (by kernel_rfl) (s_l2Before_vc xs ys hw.1 hw.2.1) (by kernel_rfl)
def s_l2Before_orc : List D → Orc := orcN [some .ints, some .ints] fun ds => match ds with
  | [.sl (.ints xs), .sl (.ints ys)] => some (.one (.d (.bool (decide (cmpS xs ys < 0)))))
  | _ => none
theorem slices_SortFunc_int_int_rows_pu (xss : List (List Int)) (hz : xss.length < 4611686018427387904) : PU Try.prog 207 26 (.rows xss) (.rows (xss.mergeSort (fun x9 y9 => !(ltOf cmpS) y9 x9))) [.fn 208 0 []] false :=
  pu_sortFunc Try.laySortRows 26 xss (fun x => .sl (.ints x)) cmpS swoS totS 208 (fun x _ y _ => i_compareSets_pc x y) _ _ rfl rfl rfl (List.length_mergeSort _) (fun _ => rfl) (fun i x h => by simp [Mem.get, h]) (fun i x h => by simp [Mem.get, h]) hz @Try.call208
abbrev i_bag_list_d_JJ0 (b : Int) (out : List Int) (x : Int) : Prop := (0 ≤ x) ∧ (x ≤ 62) ∧ (out = members (fun k => b.toNat.testBit k) x.toNat)
abbrev i_bag_list_d_mJ0 (b : Int) (out : List Int) (x : Int) : Nat := (62 - x).toNat
def i_bag_list_d_C (f : FuncId) (ds : List D) : Orc := bif Nat.beq f 226 then i_bag_has_orc ds else .no
def i_bag_list_d_A (b : Int) : Ann := .two (.none) (.two (.none) (.two (.two (.none) (.loop (cut2 (fun (out : List Int) (x : Int) => i_bag_list_d_JJ0 b out x) (fun (out : List Int) (x : Int) => [(0, .d false (.int .u64 b)), (3, .own 1000000 out.length), (4, .d true (.int .i64 x))]) (fun (out : List Int) (x : Int) => [(1000000, .arr true 3 (.ints out))])) (fun g => i_bag_list_d_mJ0 b g.1 g.2) (fun _ => .none))) (.none)))
def i_bag_list_d_P (b : Int) : Prop :=
  ((∃ out' : List Int, ∃ x' : Int, (i_bag_list_d_JJ0 b out' x') ∧ (b = b) ∧ ((0 : Nat) = out'.length) ∧ ((0 : Int) = x') ∧ ([] = out')) ∧ (∀ out : List Int, ∀ x : Int, (i_bag_list_d_JJ0 b out x) → ((0 : Int) ≤ b ∧ (b : Int) ≤ 18446744073709551615) ∧ ((0 : Int) ≤ x) ∧ (((decide ((b / 2 ^ x.toNat) > 0)) = true → (PC Try.prog 226 [.int .u64 b, .int .i64 x] (.one (.d (.bool (b.toNat.testBit x.toNat))))) ∧ (((b.toNat.testBit x.toNat) = true → (out.length = out.length) ∧ ((1 : Nat) = 1) ∧ ((out.length + 1) * 8 ≤ 140737488355328) ∧ (-9223372036854775808 ≤ (x + 1) ∧ (x + 1) ≤ 9223372036854775807) ∧ (∃ out' : List Int, ∃ x' : Int, (i_bag_list_d_JJ0 b out' x') ∧ (i_bag_list_d_mJ0 b out' x' < i_bag_list_d_mJ0 b out x) ∧ (b = b) ∧ ((out.length + 1) = out'.length) ∧ ((x + 1) = x') ∧ ((out ++ [x]) = out'))) ∧ ((b.toNat.testBit x.toNat) = false → (-9223372036854775808 ≤ (x + 1) ∧ (x + 1) ≤ 9223372036854775807) ∧ (∃ out' : List Int, ∃ x' : Int, (i_bag_list_d_JJ0 b out' x') ∧ (i_bag_list_d_mJ0 b out' x' < i_bag_list_d_mJ0 b out x) ∧ (b = b) ∧ (out.length = out'.length) ∧ ((x + 1) = x') ∧ (out = out'))))) ∧ ((decide ((b / 2 ^ x.toNat) > 0)) = false → ((out.length = out.length) ∧ ((out : List Int) = (members (fun k => b.toNat.testBit k) 62)))))))
theorem i_bag_list_d_vc (b : Int) (hb : 0 ≤ b ∧ b ≤ 4611686018427387903)  : i_bag_list_d_P b := by
  unfold i_bag_list_d_P
  refine ⟨?_, ?_⟩
  ·refine ⟨([]), 0, ?_⟩
   refine ⟨?_, rfl, rfl, rfl, ?_⟩
   ·refine ⟨?_, ?_, ?_⟩
    ·omega
    ·omega
    ·rfl
   ·rfl
  ·intro out x hJ
   obtain ⟨h1, h2, h3⟩ := hJ
   refine ⟨?_, ?_, ?_, ?_⟩
   ·omega
   ·omega
   ·intro b1
    try simp only [nrmT] at b1
    refine ⟨?_, ?_, ?_⟩
    ·refine i_bag_has_pc b x ?_ ?_
     ·omega
     ·omega
    ·intro b2
     try simp only [nrmT] at b2
     refine ⟨rfl, rfl, ?_, ?_, ?_⟩
     ·rw [h3]; have := members_len_le (fun k => b.toNat.testBit k) x.toNat; omega
     ·omega
     ·refine ⟨(out ++ [x]), (x + 1), ?_⟩
      refine ⟨?_, ?_, rfl, ?_, rfl, rfl⟩
      ·refine ⟨?_, ?_, ?_⟩
       ·omega
       ·have := lt62 hb h2 b1; omega
       ·rw [h3, show (x + 1).toNat = x.toNat + 1 by omega, members_succ, b2]; simp; try omega
      ·have := lt62 hb h2 b1
       first | (show _ < _; omega) | (simp only [i_bag_list_d_mJ0]; omega) | (simp only [i_bag_list_d_mJ0] at *; simp at *; omega)
      ·(simp_all; done)
    ·intro b3
     try simp only [nrmT] at b3
     refine ⟨?_, ?_⟩
     ·omega
     ·refine ⟨out, (x + 1), ?_⟩
      refine ⟨?_, ?_, rfl, rfl, rfl, rfl⟩
      ·refine ⟨?_, ?_, ?_⟩
       ·omega
       ·have := lt62 hb h2 b1; omega
       ·rw [h3, show (x + 1).toNat = x.toNat + 1 by omega, members_succ, b3]; simp; try omega
      ·have := lt62 hb h2 b1
       first | (show _ < _; omega) | (simp only [i_bag_list_d_mJ0]; omega) | (simp only [i_bag_list_d_mJ0] at *; simp at *; omega)
   ·intro b4
    try simp only [nrmT] at b4
    refine ⟨rfl, ?_⟩
    ·rw [h3]; refine (members_stop (fun k hk => bit_out hb.1 (m := x.toNat) (by omega) k hk) 62 (by omega)).symm
theorem i_bag_list_d_pc (b : Int) (hb : 0 ≤ b ∧ b ≤ 4611686018427387903) : PC Try.prog 188 [.int .u64 b] (.one (.d (.sl (.ints (members (fun k => b.toNat.testBit k) 62))))) :=
  pc_wf @Try.call188 fun _ => pc_by (by kernel_rfl) Try.func188 @Try.call188 (by kernel_rfl) i_bag_list_d_C (i_bag_list_d_A b) (by kernel_rfl) (i_bag_list_d_vc b hb) (by kernel_rfl)
abbrev i_sets_JJ0 (n : Int) (out : List (List Int)) (b : Int) : Prop := (1 ≤ b) ∧ (b ≤ ((2 ^ n.toNat : Nat) : Int)) ∧ (out = preS n.toNat (b.toNat - 1))
abbrev i_sets_mJ0 (n : Int) (out : List (List Int)) (b : Int) : Nat := (((2 ^ n.toNat : Nat) : Int) - b).toNat
abbrev i_sets_JA0 (n : Int) (out2 : List (List Int)) : Prop := (out2 = preS n.toNat (2 ^ n.toNat - 1))
def i_sets_C (f : FuncId) (ds : List D) : Orc := .no
def i_sets_A (n : Int) : Ann := .two (.none) (.two (.none) (.cut (.two (.none) (.loop (cut2 (fun (out : List (List Int)) (b : Int) => i_sets_JJ0 n out b) (fun (out : List (List Int)) (b : Int) => [(0, .d false (.int .i64 n)), (3, .own 1000000 out.length), (4, .d true (.int .u64 b))]) (fun (out : List (List Int)) (b : Int) => [(1000000, .arr true 26 (.rows out))])) (fun g => i_sets_mJ0 n g.1 g.2) (fun g => (fun (out : List (List Int)) (b : Int) => .two (.none) (.two (.reg [(2, .call none (.one (.d (.sl (.ints (members (fun k => b.toNat.testBit k) 62))))))]) (.none))) (g.1) (g.2)))) (cut1 (fun (out2 : List (List Int)) => i_sets_JA0 n out2) (fun (out2 : List (List Int)) => [(3, .own 1000050 out2.length)]) (fun (out2 : List (List Int)) => [(1000050, .arr true 26 (.rows out2))])) (fun g => (fun (out2 : List (List Int)) => .two (.mark [] [(1, .up (.rows (out2.mergeSort (fun x9 y9 => !(ltOf cmpS) y9 x9))) false)]) (.none)) g)))
def i_sets_P (n : Int) : Prop :=
  ((((∃ out' : List (List Int), ∃ b' : Int, (i_sets_JJ0 n out' b') ∧ (n = n) ∧ ((0 : Nat) = out'.length) ∧ ((1 : Int) = b') ∧ ([] = out')) ∧ (∀ out : List (List Int), ∀ b : Int, (i_sets_JJ0 n out b) → ((0 : Int) ≤ 1) ∧ ((0 : Int) ≤ n) ∧ ((0 : Int) ≤ ((1 : Int) * 2 ^ n.toNat) ∧ (((1 : Int) * 2 ^ n.toNat) : Int) ≤ 18446744073709551615) ∧ (((decide (b < ((1 : Int) * 2 ^ n.toNat))) = true → (PC Try.prog 188 [.int .u64 b] (.one (.d (.sl (.ints (members (fun k => b.toNat.testBit k) 62)))))) ∧ (out.length = out.length) ∧ ((1 : Nat) = 1) ∧ ((out.length + 1) * 24 ≤ 140737488355328) ∧ (0 ≤ (b + 1) ∧ (b + 1) ≤ 18446744073709551615) ∧ (∃ out' : List (List Int), ∃ b' : Int, (i_sets_JJ0 n out' b') ∧ (i_sets_mJ0 n out' b' < i_sets_mJ0 n out b) ∧ (n = n) ∧ ((out.length + 1) = out'.length) ∧ ((b + 1) = b') ∧ ((out ++ [(members (fun k => b.toNat.testBit k) 62)]) = out'))) ∧ ((decide (b < ((1 : Int) * 2 ^ n.toNat))) = false → (∃ out2' : List (List Int), (i_sets_JA0 n out2') ∧ (out.length = out2'.length) ∧ (out = out2'))))))) ∧ (∀ out2 : List (List Int), (i_sets_JA0 n out2) → (out2.length = out2.length) ∧ (PU Try.prog 207 26 (.rows out2) (.rows (out2.mergeSort (fun x9 y9 => !(ltOf cmpS) y9 x9))) [.fn 208 0 []] false) ∧ ((out2.length = (out2.mergeSort (fun x9 y9 => !(ltOf cmpS) y9 x9)).length) ∧ (((out2.mergeSort (fun x9 y9 => !(ltOf cmpS) y9 x9)) : List (List Int)) = setsL n.toNat))))
theorem i_sets_vc (n : Int) (hn : 0 ≤ n ∧ n ≤ 8)  : i_sets_P n := by
  unfold i_sets_P
  have p7 := pow8 (n := n.toNat) (by omega)
  have pp := Nat.two_pow_pos n.toNat
  have e0 := one_shl n.toNat
  have e1 : ((2 : Int) ^ n.toNat) = ((2 ^ n.toNat : Nat) : Int) := by simp
  refine ⟨?_, ?_⟩
  ·refine ⟨?_, ?_⟩
   ·refine ⟨([]), 1, ?_⟩
    refine ⟨?_, rfl, rfl, rfl, ?_⟩
    ·refine ⟨?_, ?_, ?_⟩
     ·omega
     ·generalize 2 ^ n.toNat = M at *
      omega
     ·rfl
    ·rfl
   ·intro out b hJ
    obtain ⟨h1, h2, h3⟩ := hJ
    refine ⟨?_, ?_, ?_, ?_, ?_⟩
    ·omega
    ·omega
    ·rw [Int.one_mul, e1]
     generalize 2 ^ n.toNat = M at *
     omega
    ·intro b1
     try simp only [nrmT] at b1
     refine ⟨?_, rfl, rfl, ?_, ?_, ?_⟩
     ·refine i_bag_list_d_pc b ?_
      ·rw [Int.one_mul, e1] at b1
       generalize 2 ^ n.toNat = M at *
       omega
     ·rw [Int.one_mul, e1] at b1
      rw [h3, preS_len]
      generalize 2 ^ n.toNat = M at *
      omega
     ·rw [Int.one_mul, e1] at b1
      generalize 2 ^ n.toNat = M at *
      omega
     ·refine ⟨(out ++ [(members (fun k => b.toNat.testBit k) 62)]), (b + 1), ?_⟩
      refine ⟨?_, ?_, rfl, ?_, rfl, rfl⟩
      ·refine ⟨?_, ?_, ?_⟩
       ·omega
       ·rw [Int.one_mul, e1] at b1
        generalize 2 ^ n.toNat = M at *
        omega
       ·rw [Int.one_mul, e1] at b1
        have hb : b.toNat < 2 ^ n.toNat := by
          generalize 2 ^ n.toNat = M at *
          omega
        rw [h3, show (b + 1).toNat - 1 = (b.toNat - 1) + 1 by omega, preS_succ, show b.toNat - 1 + 1 = b.toNat by omega, list62 (n := n.toNat) (by omega) hb]
      ·rw [Int.one_mul, e1] at b1
       first | (show _ < _; omega) | (simp only [i_sets_mJ0]; omega) | (simp only [i_sets_mJ0] at *; simp at *; omega)
      ·first | omega | rfl | (intro hg; simp only [nrmT] at hg; omega) | (intro g1 g2; simp [g1, g2]; done) | (intro g1; simp at g1 ⊢; simp [g1]; done) | (simp only [nrmT] at *; omega) | (simp at * <;> omega) | (simp_all <;> omega) | (simp_all; done)
    ·intro b2
     try simp only [nrmT] at b2
     refine ⟨out, ?_⟩
     refine ⟨?_, rfl, rfl⟩
     ·unfold i_sets_JA0
      rw [Int.one_mul, e1] at b2
      have hm : b.toNat - 1 = 2 ^ n.toNat - 1 := by
        generalize 2 ^ n.toNat = M at *
        omega
      rw [h3, hm]
  ·intro out2 hJ
   have h8 := hJ
   refine ⟨rfl, ?_, ?_, ?_⟩
   ·refine slices_SortFunc_int_int_rows_pu out2 ?_
    ·rw [h8, preS_len]
     generalize 2 ^ n.toNat = M at *
     omega
   ·simp
   ·rw [h8]; rfl
theorem i_sets_pc (n : Int) (hn : 0 ≤ n ∧ n ≤ 8) : PC Try.prog 134 [.int .i64 n] (.one (.own 26 (.rows (setsL n.toNat)))) :=
  pc_wf @Try.call134 fun _ => pc_by (by kernel_rfl) Try.func134 @Try.call134 (by kernel_rfl) i_sets_C (i_sets_A n) (by kernel_rfl) (i_sets_vc n hn) (by kernel_rfl)
def i_sets_orc : List D → Orc := orcN [none] fun ds => match ds with
  | [.int .i64 n] => some (.one (.own 26 (.rows (setsL n.toNat))))
  | _ => none
abbrev s_l2Sets_JJ0 (n : Int) (out : List (List Int)) (code : Int) : Prop := (1 ≤ code) ∧ (code ≤ ((2 ^ n.toNat : Nat) : Int)) ∧ (out.Perm (preS n.toNat (code.toNat - 1))) ∧ (out.Pairwise (fun x9 y9 => ltOf cmpS y9 x9 = false))
abbrev s_l2Sets_mJ0 (n : Int) (out : List (List Int)) (code : Int) : Nat := (((2 ^ n.toNat : Nat) : Int) - code).toNat
abbrev s_l2Sets_JJ1 (n : Int) (out : List (List Int)) (code : Int) (k : Int) : Prop := (0 ≤ k) ∧ (k ≤ (out.length : Int)) ∧ (∀ j, k.toNat ≤ j → j < out.length → cmpS (lst n.toNat code.toNat) (out.getD j []) < 0)
abbrev s_l2Sets_mJ1 (n : Int) (out : List (List Int)) (code : Int) (k : Int) : Nat := k.toNat
def s_l2Sets_C (f : FuncId) (ds : List D) : Orc := bif Nat.beq f 164 then s_l2Bits_orc ds else bif Nat.beq f 239 then s_l2Before_orc ds else .no
def s_l2Sets_A (n : Int) : Ann := .two (.none) (.two (.reg [(0, .frz)]) (.two (.two (.none) (.loop (cut2 (fun (out : List (List Int)) (code : Int) => s_l2Sets_JJ0 n out code) (fun (out : List (List Int)) (code : Int) => [(0, .d false (.int .i64 n)), (3, .d true (.sl (.rows out))), (4, .d true (.int .i64 code))]) (fun (out : List (List Int)) (code : Int) => [])) (fun g => s_l2Sets_mJ0 n g.1 g.2) (fun g => (fun (out : List (List Int)) (code : Int) => .two (.none) (.two (.two (.none) (.two (.loop (cut1 (fun (k : Int) => s_l2Sets_JJ1 n out code k) (fun (k : Int) => [(0, .d false (.int .i64 n)), (3, .d true (.sl (.rows out))), (4, .d true (.int .i64 code)), (5, .d true (.sl (.ints (members (fun k => code.toNat.testBit k) n.toNat)))), (6, .d true (.int .i64 k))]) (fun (k : Int) => [])) (fun g => s_l2Sets_mJ1 n out code g) (fun _ => .none)) (.none))) (.none))) (g.1) (g.2)))) (.none)))
def s_l2Sets_P (n : Int) : Prop :=
  ((∃ out' : List (List Int), ∃ code' : Int, (s_l2Sets_JJ0 n out' code') ∧ (n = n) ∧ ([] = out') ∧ ((1 : Int) = code')) ∧ (∀ out : List (List Int), ∀ code : Int, (s_l2Sets_JJ0 n out code) → ((0 : Int) ≤ 1) ∧ ((0 : Int) ≤ n) ∧ ((0 : Int) ≤ ((1 : Int) * 2 ^ n.toNat) ∧ (((1 : Int) * 2 ^ n.toNat) : Int) ≤ 9223372036854775807) ∧ (((decide (code < ((1 : Int) * 2 ^ n.toNat))) = true → (PC Try.prog 164 [.int .i64 n, .int .i64 code] (.one (.d (.sl (.ints (members (fun k => code.toNat.testBit k) n.toNat)))))) ∧ ((∃ k' : Int, (s_l2Sets_JJ1 n out code k') ∧ (n = n) ∧ (out = out) ∧ (code = code) ∧ ((members (fun k => code.toNat.testBit k) n.toNat) = (members (fun k => code.toNat.testBit k) n.toNat)) ∧ ((out.length : Int) = k')) ∧ (∀ k : Int, (s_l2Sets_JJ1 n out code k) → ((decide (k > 0)) = true → (decide (k > 0)) = true) ∧ (((decide (k > 0)) = true → -9223372036854775808 ≤ (k - 1) ∧ (k - 1) ≤ 9223372036854775807)) ∧ ((decide (k > 0)) = true → (decide (k > 0)) = true) ∧ ((decide (k > 0)) = true → (decide (k > 0)) = true) ∧ (((decide (k > 0)) = true → (0 : Int) ≤ (k - 1))) ∧ (((decide (k > 0)) = true → ((k - 1) : Int) < out.length)) ∧ ((decide (k > 0)) = true → (decide (k > 0)) = true) ∧ (((decide (k > 0)) = true → (k - 1).toNat < out.length)) ∧ ((decide (k > 0)) = true → (decide (k > 0)) = true) ∧ ((decide (k > 0)) = true → (decide (k > 0)) = true) ∧ ((decide (k > 0)) = true → PC Try.prog 239 [.sl (.ints (members (fun k => code.toNat.testBit k) n.toNat)), .sl (.ints (out.getD ((k - 1).toNat) []))] (.one (.d (.bool (decide (cmpS (members (fun k => code.toNat.testBit k) n.toNat) (out.getD ((k - 1).toNat) []) < 0)))))) ∧ (true = true) ∧ (((decide (k > 0)) = true → (decide (k > 0)) = true)) ∧ (((decide (k > 0)) = false → true = true)) ∧ (((cond (decide (k > 0)) (decide (cmpS (members (fun k => code.toNat.testBit k) n.toNat) (out.getD ((k - 1).toNat) []) < 0)) false) = true → (-9223372036854775808 ≤ (k - 1) ∧ (k - 1) ≤ 9223372036854775807) ∧ (∃ k' : Int, (s_l2Sets_JJ1 n out code k') ∧ (s_l2Sets_mJ1 n out code k' < s_l2Sets_mJ1 n out code k) ∧ (n = n) ∧ (out = out) ∧ (code = code) ∧ ((members (fun k => code.toNat.testBit k) n.toNat) = (members (fun k => code.toNat.testBit k) n.toNat)) ∧ ((k - 1) = k'))) ∧ ((cond (decide (k > 0)) (decide (cmpS (members (fun k => code.toNat.testBit k) n.toNat) (out.getD ((k - 1).toNat) []) < 0)) false) = false → (true = true) ∧ ((0 : Int) ≤ k) ∧ ((k : Int) ≤ out.length) ∧ ((0 : Nat) = 0) ∧ (True) ∧ ((0 + ((out.take k.toNat).drop 0).length) * 24 ≤ 140737488355328) ∧ ((0 + ((out.take k.toNat).drop 0).length) = ([] ++ ((out.take k.toNat).drop 0)).length) ∧ ((1 : Nat) = 1) ∧ ((([] ++ ((out.take k.toNat).drop 0)).length + 1) * 24 ≤ 140737488355328) ∧ ((0 : Int) ≤ k) ∧ ((k : Int) ≤ out.length) ∧ (((0 + ((out.take k.toNat).drop 0).length) + 1) = (([] ++ ((out.take k.toNat).drop 0)) ++ [(members (fun k => code.toNat.testBit k) n.toNat)]).length) ∧ (True) ∧ (((([] ++ ((out.take k.toNat).drop 0)) ++ [(members (fun k => code.toNat.testBit k) n.toNat)]).length + ((out.take out.length).drop k.toNat).length) * 24 ≤ 140737488355328) ∧ (-9223372036854775808 ≤ (code + 1) ∧ (code + 1) ≤ 9223372036854775807) ∧ (∃ out' : List (List Int), ∃ code' : Int, (s_l2Sets_JJ0 n out' code') ∧ (s_l2Sets_mJ0 n out' code' < s_l2Sets_mJ0 n out code) ∧ (n = n) ∧ ((((0 + ((out.take k.toNat).drop 0).length) + 1) + ((out.take out.length).drop k.toNat).length) = ((([] ++ ((out.take k.toNat).drop 0)) ++ [(members (fun k => code.toNat.testBit k) n.toNat)]) ++ ((out.take out.length).drop k.toNat)).length) ∧ (((([] ++ ((out.take k.toNat).drop 0)) ++ [(members (fun k => code.toNat.testBit k) n.toNat)]) ++ ((out.take out.length).drop k.toNat)) = out') ∧ ((code + 1) = code'))))))) ∧ ((decide (code < ((1 : Int) * 2 ^ n.toNat))) = false → (((out : List (List Int)) = (setsL n.toNat)))))))
theorem s_l2Sets_vc (n : Int) (hn : 0 ≤ n ∧ n ≤ 8)  : s_l2Sets_P n := by
  unfold s_l2Sets_P
  have p7 := pow8 (n := n.toNat) (by omega)
  have pp := Nat.two_pow_pos n.toNat
  have e0 := one_shl n.toNat
  have e1 : ((2 : Int) ^ n.toNat) = ((2 ^ n.toNat : Nat) : Int) := by simp
  refine ⟨?_, ?_⟩
  ·refine ⟨([]), 1, ?_⟩
   refine ⟨?_, rfl, ?_, rfl⟩
   ·refine ⟨?_, ?_, ?_, ?_⟩
    ·omega
    ·generalize 2 ^ n.toNat = M at *
     omega
    ·exact List.Perm.refl _
    ·exact List.Pairwise.nil
   ·rfl
  ·intro out code hJ
   obtain ⟨h1, h2, h3, h4⟩ := hJ
   refine ⟨?_, ?_, ?_, ?_, ?_⟩
   ·omega
   ·omega
   ·rw [Int.one_mul, e1]
    generalize 2 ^ n.toNat = M at *
    omega
   ·intro b1
    try simp only [nrmT] at b1
    refine ⟨?_, ?_, ?_⟩
    ·refine s_l2Bits_pc n code ?_ ?_
     ·omega
     ·rw [Int.one_mul, e1] at b1
      generalize 2 ^ n.toNat = M at *
      omega
    ·refine ⟨(out.length : Int), ?_⟩
     refine ⟨?_, rfl, rfl, rfl, rfl, rfl⟩
     ·refine ⟨?_, ?_, ?_⟩
      ·omega
      ·omega
      ·intro j h8 h9; omega
    ·intro k hJ
     obtain ⟨h5, h6, h7⟩ := hJ
     refine ⟨id, ?_, id, id, ?_, ?_, id, ?_, id, id, fun _ => s_l2Before_pc (members (fun k => code.toNat.testBit k) n.toNat) (out.getD ((k - 1).toNat) []), rfl, id, fun _ => rfl, ?_, ?_⟩
     ·have ol := h3.length_eq
      rw [preS_len] at ol
      rw [Int.one_mul, e1] at b1
      intro hg2
      have := of_decide_eq_true hg2
      generalize 2 ^ n.toNat = M at *
      omega
     ·(intro hg; simp only [nrmT] at hg; omega)
     ·omega
     ·(intro hg; simp only [nrmT] at hg; omega)
     ·intro b2
      refine ⟨?_, ?_⟩
      ·have ol := h3.length_eq
       rw [preS_len] at ol
       rw [Int.one_mul, e1] at b1
       have hk : 0 < k := by
         revert b2
         by_cases h : k > 0
         · intro _; exact h
         · rw [decide_eq_false h]; intro g; cases g
       generalize 2 ^ n.toNat = M at *
       omega
      ·refine ⟨(k - 1), ?_⟩
       refine ⟨?_, ?_, rfl, rfl, rfl, rfl, rfl⟩
       ·refine ⟨?_, ?_, ?_⟩
        ·have ol := h3.length_eq
         rw [preS_len] at ol
         rw [Int.one_mul, e1] at b1
         have hk : 0 < k := by
           revert b2
           by_cases h : k > 0
           · intro _; exact h
           · rw [decide_eq_false h]; intro g; cases g
         generalize 2 ^ n.toNat = M at *
         omega
        ·have ol := h3.length_eq
         rw [preS_len] at ol
         rw [Int.one_mul, e1] at b1
         have hk : 0 < k := by
           revert b2
           by_cases h : k > 0
           · intro _; exact h
           · rw [decide_eq_false h]; intro g; cases g
         generalize 2 ^ n.toNat = M at *
         omega
        ·intro j h8 h9
         have hk : 0 < k ∧ cmpS (lst n.toNat code.toNat) (out.getD (k - 1).toNat []) < 0 := by
           revert b2
           by_cases h : k > 0
           · rw [decide_eq_true h]; intro g; exact ⟨h, of_decide_eq_true g⟩
           · rw [decide_eq_false h]; intro g; cases g
         by_cases e : j = (k - 1).toNat
         · rw [e]; exact hk.2
         · exact h7 j (by omega) h9
       ·have hk : 0 < k := by
          revert b2
          by_cases h : k > 0
          · intro _; exact h
          · rw [decide_eq_false h]; intro g; cases g
        first | (show _ < _; omega) | (simp only [s_l2Sets_mJ1]; omega) | (simp only [s_l2Sets_mJ1] at *; simp at *; omega)
     ·intro b3
      refine ⟨rfl, ?_, ?_, rfl, trivial, ?_, ?_, rfl, ?_, ?_, ?_, ?_, trivial, ?_, ?_, ?_⟩
      ·omega
      ·omega
      ·have ol := h3.length_eq
       rw [preS_len] at ol
       rw [Int.one_mul, e1] at b1
       simp only [List.length_append, List.length_drop, List.length_take, List.length_cons, List.length_nil]
       generalize 2 ^ n.toNat = M at *
       omega
      ·simp only [List.length_append, List.length_cons, List.length_nil] <;> omega
      ·have ol := h3.length_eq
       rw [preS_len] at ol
       rw [Int.one_mul, e1] at b1
       simp only [List.length_append, List.length_drop, List.length_take, List.length_cons, List.length_nil]
       generalize 2 ^ n.toNat = M at *
       omega
      ·omega
      ·omega
      ·first | omega | rfl | (intro hg; simp only [nrmT] at hg; omega) | (intro g1 g2; simp [g1, g2]; done) | (intro g1; simp at g1 ⊢; simp [g1]; done) | (simp only [nrmT] at *; omega) | (simp at * <;> omega) | (simp_all <;> omega) | (simp_all; done)
      ·have ol := h3.length_eq
       rw [preS_len] at ol
       rw [Int.one_mul, e1] at b1
       simp only [List.length_append, List.length_drop, List.length_take, List.length_cons, List.length_nil]
       generalize 2 ^ n.toNat = M at *
       omega
      ·rw [Int.one_mul, e1] at b1
       generalize 2 ^ n.toNat = M at *
       omega
      ·refine ⟨((([] ++ ((out.take k.toNat).drop 0)) ++ [(members (fun k => code.toNat.testBit k) n.toNat)]) ++ ((out.take out.length).drop k.toNat)), (code + 1), ?_⟩
       refine ⟨?_, ?_, rfl, ?_, rfl, rfl⟩
       ·refine ⟨?_, ?_, ?_, ?_⟩
        ·omega
        ·rw [Int.one_mul, e1] at b1
         generalize 2 ^ n.toNat = M at *
         omega
        ·have hq : (((([] : List (List Int)) ++ ((out.take k.toNat).drop 0)) ++ [(members (fun k => code.toNat.testBit k) n.toNat)]) ++ ((out.take out.length).drop k.toNat)) = (out.take k.toNat ++ [lst n.toNat code.toNat]) ++ out.drop k.toNat := by
           rw [List.nil_append, List.drop_zero, List.take_length]; rfl
         rw [hq, show (code + 1).toNat - 1 = (code.toNat - 1) + 1 by omega]
         exact ins_perm h3 (by rw [show code.toNat - 1 + 1 = code.toNat by omega])
        ·have hq : (((([] : List (List Int)) ++ ((out.take k.toNat).drop 0)) ++ [(members (fun k => code.toNat.testBit k) n.toNat)]) ++ ((out.take out.length).drop k.toNat)) = (out.take k.toNat ++ [lst n.toNat code.toNat]) ++ out.drop k.toNat := by
           rw [List.nil_append, List.drop_zero, List.take_length]; rfl
         rw [hq]
         refine ins_sorted h4 (by omega) h7 ?_
         by_cases e : k.toNat = 0
         · exact .inl e
         · refine .inr fun h => ?_
           rw [decide_eq_true (show k > 0 by omega), decide_eq_true (by rw [show (k - 1).toNat = k.toNat - 1 by omega]; exact h)] at b3
           cases b3
       ·rw [Int.one_mul, e1] at b1
        first | (show _ < _; omega) | (simp only [s_l2Sets_mJ0]; omega) | (simp only [s_l2Sets_mJ0] at *; simp at *; omega)
       ·simp only [List.length_append, List.length_cons, List.length_nil] <;> omega
   ·intro b4
    try simp only [nrmT] at b4
    rw [Int.one_mul, e1] at b4
    exact sets_done h3 (by
      generalize 2 ^ n.toNat = M at *
      omega) h4
theorem s_l2Sets_pc (n : Int) (hn : 0 ≤ n ∧ n ≤ 8) : PC Try.prog 214 [.int .i64 n] (.one (.d (.sl (.rows (setsL n.toNat))))) :=
  pc_wf @Try.call214 fun _ => pc_by (by kernel_rfl) Try.func214 @Try.call214 (by kernel_rfl) s_l2Sets_C (s_l2Sets_A n) (by kernel_rfl) (s_l2Sets_vc n hn) (by kernel_rfl)
def s_l2Sets_orc : List D → Orc := orcN [none] fun ds => match ds with
  | [.int .i64 n] => some (.one (.d (.sl (.rows (setsL n.toNat)))))
  | _ => none
theorem rising_of {l : List Int} {lo hi : Int} (ha : Asc l) (hb : ∀ x ∈ l, lo ≤ x ∧ x ≤ hi) : rising l lo hi = true :=
  allTo_iff.2 fun k hk => by
    unfold risingP
    rw [Bool.and_eq_true, Bool.or_eq_true]
    refine ⟨decide_eq_true (hb _ (getD_mem hk)), ?_⟩
    by_cases e : k = 0
    · exact .inl (decide_eq_true e)
    · right
      have := List.pairwise_iff_getElem.1 ha (k - 1) k (by omega) hk (by omega)
      rw [getD_get hk, getD_get (by omega)]
      exact decide_eq_true this
theorem lst_asc {n c : Nat} : Asc (lst n c) := asc_members _ _
theorem set_two {Open : List Int} {Dist : List (List Int)} (hg : goodField Open Dist = true) {s : List Int} (hs : s ∈ setsL (Open.length : Int).toNat) :
    (goodField Open Dist && rising s 0 ((Open.length : Int) - 1) && decide (0 < s.length)) = true ∧ s.length ≤ 7 := by
  obtain ⟨g1, g2, g3⟩ := gf_open hg
  rw [Int.toNat_natCast] at hs
  obtain ⟨c, h1, h2, rfl⟩ := setsL_mem.1 hs
  have hl := lst_len (n := Open.length) (code := c)
  refine ⟨?_, by omega⟩
  rw [hg, rising_of lst_asc (fun x hx => by have := lst_in x hx; omega), decide_eq_true (lst_pos h1 h2)]
  rfl
theorem sets_big {n : Nat} (h : 1 ≤ n) : 0 < (setsL n).length := by
  rw [setsL_len]
  have := Nat.pow_le_pow_right (n := 2) (by omega) h
  omega
theorem sets_small {n : Nat} (h : n ≤ 7) : (setsL n).length ≤ 127 := by
  rw [setsL_len]
  have := Nat.pow_le_pow_right (n := 2) (by omega) h
  have e : (2 : Nat) ^ 7 = 128 := by decide
  omega
def s_l4K_C (f : FuncId) (ds : List D) : Orc := bif Nat.beq f 115 then s_l2Good_orc ds else bif Nat.beq f 116 then s_l1In_orc ds else .no
def s_l4K_A (Open : List Int) (Dist : List (List Int)) (k : Int) : Ann := .none
def s_l4K_P (Open : List Int) (Dist : List (List Int)) (k : Int) : Prop :=
  (PC Try.prog 115 [.agg [.sl (.ints Open), .sl (.rows Dist)]] (.one (.d (.bool (goodField Open Dist))))) ∧ ((goodField Open Dist) = true → (goodField Open Dist) = true) ∧ ((goodField Open Dist) = true → (goodField Open Dist) = true) ∧ ((goodField Open Dist) = true → (goodField Open Dist) = true) ∧ ((goodField Open Dist) = true → (goodField Open Dist) = true) ∧ ((goodField Open Dist) = true → PC Try.prog 116 [.int .i64 k, .int .i64 1, .int .i64 (Open.length : Int)] (.one (.d (.bool (inB k 1 (Open.length : Int)))))) ∧ (true = true) ∧ (((goodField Open Dist) = true → (goodField Open Dist) = true)) ∧ (((goodField Open Dist) = false → true = true)) ∧ (((cond (goodField Open Dist) (inB k 1 (Open.length : Int)) false) = (goodField Open Dist && inB k 1 (Open.length : Int))))
theorem s_l4K_vc (Open : List Int) (Dist : List (List Int)) (k : Int)  (w_Open : (Open.length : Int) ≤ 9223372036854775807) (w_Dist : (Dist.length : Int) ≤ 9223372036854775807) (v_Dist : ∀ x9 ∈ Dist, (x9.length : Int) ≤ 9223372036854775807) : s_l4K_P Open Dist k := by
  unfold s_l4K_P
  refine ⟨s_l2Good_pc Open Dist, id, id, id, id, fun _ => s_l1In_pc k 1 (Open.length : Int), rfl, id, fun _ => rfl, ?_⟩
  ·cases goodField Open Dist <;> rfl
theorem s_l4K_pc (Open : List Int) (Dist : List (List Int)) (k : Int)  : PC Try.prog 158 [.agg [.sl (.ints Open), .sl (.rows Dist)], .int .i64 k] (.one (.d (.bool (goodField Open Dist && inB k 1 (Open.length : Int))))) :=
  pc_wf @Try.call158 fun hw => pc_by (by kernel_rfl) Try.func158 @Try.call158 (by kernel_rfl) s_l4K_C (s_l4K_A Open Dist k) (by kernel_rfl) (s_l4K_vc Open Dist k hw.1.1 hw.1.2.1.1 hw.1.2.1.2) (by kernel_rfl)
def s_l4K_orc : List D → Orc := orcN [none, none] fun ds => match ds with
  | [.agg [.sl (.ints Open), .sl (.rows Dist)], .int .i64 k] => some (.one (.d (.bool (goodField Open Dist && inB k 1 (Open.length : Int)))))
  | _ => none
def lsB (v : List Int → Int) (b s : List Int) : List Int := if v s < v b then s else b
def leastL (v : List Int → Int) (l : List (List Int)) : List Int := l.foldl (lsB v) (l.getD 0 [])
theorem lsB_self (v : List Int → Int) (b : List Int) : lsB v b b = b := by unfold lsB; split <;> rfl
theorem fold_snoc {α β : Type} {f : β → α → β} {b : β} {l : List α} {i : Int} {d : α} (h0 : 0 ≤ i) (h : i < (l.length : Int)) : (l.take (i + 1).toNat).foldl f b = f ((l.take i.toNat).foldl f b) (l.getD i.toNat d) := by
  rw [take_step (d := d) h0 h, List.foldl_append]
  rfl
theorem leastL_mem {v : List Int → Int} {l : List (List Int)} (h : 0 < l.length) : leastL v l ∈ l := by
  have key : ∀ (r : List (List Int)) (b : List Int), b ∈ l → (∀ x ∈ r, x ∈ l) → r.foldl (lsB v) b ∈ l := by
    intro r
    induction r with
    | nil => intro b hb _; exact hb
    | cons x r ih =>
      intro b hb hr
      refine ih _ ?_ fun y hy => hr y (List.mem_cons_of_mem _ hy)
      unfold lsB
      split
      · exact hr x List.mem_cons_self
      · exact hb
  exact key l _ (getD_mem h) fun x hx => hx
def bsB (v : List Int → Int) (k : Int) (b s : List Int) : List Int := if (cond ((s.length : Int) == k) (cond ((b.length : Int) == 0) true (decide (v s < v b))) false) = true then s else b
def bestL (v : List Int → Int) (k : Int) (l : List (List Int)) : List Int := l.foldl (bsB v k) []
theorem bestL_eq {v : List Int → Int} {k : Int} (hk : 1 ≤ k) (l : List (List Int)) : bestL v k l = leastL v (l.filter fun x9 => !(decide ((x9.length : Int) ≠ k))) := by
  have aux : ∀ (r : List (List Int)) (b : List Int), (b.length : Int) = k → r.foldl (bsB v k) b = (r.filter fun x9 => !(decide ((x9.length : Int) ≠ k))).foldl (lsB v) b := by
    intro r
    induction r with
    | nil => intro b _; rfl
    | cons x r ih =>
      intro b hb
      rw [List.foldl_cons]
      by_cases e : (x.length : Int) = k
      · rw [List.filter_cons, if_pos (by simp [e]), List.foldl_cons]
        have e2 : bsB v k b x = lsB v b x := by
          unfold bsB lsB
          rw [beq_iff_eq.2 e, beq_eq_false_iff_ne.2 (show (b.length : Int) ≠ 0 by omega)]
          simp only [cond_true, cond_false]
          by_cases e3 : v x < v b
          · rw [if_pos e3, if_pos (decide_eq_true e3)]
          · rw [if_neg e3, if_neg (by simp [e3])]
        rw [e2]
        refine ih _ ?_
        unfold lsB
        split
        · exact e
        · exact hb
      · rw [List.filter_cons, if_neg (by simp [e])]
        have e2 : bsB v k b x = b := by unfold bsB; rw [beq_eq_false_iff_ne.2 e]; rfl
        rw [e2]
        exact ih b hb
  unfold bestL leastL
  induction l with
  | nil => rfl
  | cons x r ih =>
    rw [List.foldl_cons]
    by_cases e : (x.length : Int) = k
    · rw [List.filter_cons, if_pos (by simp [e]), List.foldl_cons]
      have e2 : bsB v k [] x = x := by unfold bsB; rw [beq_iff_eq.2 e]; rfl
      rw [e2, aux r x e]
      show _ = List.foldl (lsB v) (lsB v x x) _
      rw [lsB_self]
    · rw [List.filter_cons, if_neg (by simp [e])]
      have e2 : bsB v k [] x = [] := by unfold bsB; rw [beq_eq_false_iff_ne.2 e]; rfl
      rw [e2]
      exact ih
def smTo (xs : List Int) (k : Nat) : Int := foldTo (fun m j => m + xs.getD j 0) 0 k
theorem smTo_succ (xs : List Int) (k : Nat) : smTo xs (k + 1) = smTo xs k + xs.getD k 0 := rfl
theorem smTo_in {xs : List Int} (h : ∀ x ∈ xs, 0 ≤ x ∧ x ≤ 99) : ∀ k, k ≤ xs.length → 0 ≤ smTo xs k ∧ smTo xs k ≤ 99 * k
  | 0, _ => by simp [smTo, foldTo]
  | k + 1, hk => by
    have h1 := smTo_in h k (by omega)
    have h2 := h _ (getD_mem (d := 0) (show k < xs.length by omega))
    rw [smTo_succ]
    omega
def servOf (Dist : List (List Int)) (set : List Int) : Int := smTo (lensL Dist set Dist.length) Dist.length
theorem lenAt_in {Open : List Int} {Dist : List (List Int)} {set : List Int} (ht : (goodField Open Dist && rising set 0 ((Open.length : Int) - 1) && decide (0 < set.length)) = true) {j : Nat} (hj : j < Dist.length) : 0 ≤ lenAt Dist set j ∧ lenAt Dist set j ≤ 99 := by
  obtain ⟨hg, hs, hp⟩ := two_facts ht
  obtain ⟨rl, rb⟩ := gf_row hg hj
  have si := siteTo_in (row := Dist.getD j []) (set := set) (n := (Open.length : Int)) (fun k hk => by have := rising_at hs k hk; omega) hp set.length (Nat.le_refl _)
  exact rb _ (by omega)
theorem lensL_in {Open : List Int} {Dist : List (List Int)} {set : List Int} (ht : (goodField Open Dist && rising set 0 ((Open.length : Int) - 1) && decide (0 < set.length)) = true) : ∀ x ∈ lensL Dist set Dist.length, 0 ≤ x ∧ x ≤ 99 := by
  intro x hx
  obtain ⟨j, hj, rfl⟩ := List.mem_map.1 hx
  exact lenAt_in ht (List.mem_range.1 hj)
theorem servOf_in {Open : List Int} {Dist : List (List Int)} {set : List Int} (ht : (goodField Open Dist && rising set 0 ((Open.length : Int) - 1) && decide (0 < set.length)) = true) : 0 ≤ servOf Dist set ∧ servOf Dist set ≤ 693 := by
  have h1 := smTo_in (lensL_in ht) Dist.length (by rw [lensL_len]; exact Nat.le_refl _)
  obtain ⟨hg, hs, hp⟩ := two_facts ht
  have h2 := gf_open hg
  unfold servOf
  omega
theorem slice_form {g : Addr → Option Value} {O : Nat → Prop} {v : Value} {x : List Int} (h : R g O v (.sl (.ints x))) : ∃ (ad : Option Addr) (cap : Nat), v = .slice ad x.length cap := by
  cases h with
  | slnil _ h0 => exact ⟨none, 0, by rw [show x.length = 0 from h0]⟩
  | sl _ a n cap hn _ _ _ _ => exact ⟨some a, cap, by rw [hn]; rfl⟩
theorem box_form {g : Addr → Option Value} {O : Nat → Prop} {v : Value} {k : Int} (h : R g O v (.bx [.int .i64 k] 0)) : ∃ b : Addr, v = .pointer (some b) ∧ g b = some (.int .i64 k) := by
  cases h with
  | bx _ a _ f hc hr =>
    refine ⟨a.add 0, rfl, ?_⟩
    have h1 := (hc 0 (by simp)).1
    have h2 := hr 0 (.int .i64 k) rfl
    rw [h1]
    cases hf : f 0 <;> rw [hf] at h2 <;> cases h2
    rfl
theorem lst_full {n k : Nat} (h : k ≤ n) : (lst n (2 ^ k - 1)).length = k := by
  unfold lst
  rw [members_stop (m := k) (fun i hi => Nat.testBit_lt_two_pow (Nat.lt_of_lt_of_le (Nat.sub_lt (Nat.two_pow_pos k) (by omega)) (Nat.pow_le_pow_right (by omega) hi))) n h, allN_bits, allN_len]
theorem sets_size {n : Nat} {k : Int} (h1 : 1 ≤ k) (h2 : k ≤ n) : ∃ s ∈ setsL n, (s.length : Int) = k := by
  refine ⟨lst n (2 ^ k.toNat - 1), setsL_mem.2 ⟨_, ?_, ?_, rfl⟩, by rw [lst_full (by omega)]; omega⟩
  · have := Nat.pow_le_pow_right (n := 2) (by omega) (show 1 ≤ k.toNat by omega)
    omega
  · have h3 := Nat.pow_le_pow_right (n := 2) (by omega) (show k.toNat ≤ n by omega)
    have h4 := Nat.two_pow_pos k.toNat
    omega
theorem filter_pos {p : List Int → Bool} {l : List (List Int)} (h : ∃ s ∈ l, p s = true) : 0 < (l.filter p).length := by
  obtain ⟨s, h1, h2⟩ := h
  exact List.length_pos_of_mem (List.mem_filter.2 ⟨h1, h2⟩)
def medS (Open : List Int) (Dist : List (List Int)) (k : Int) : List Int := leastL (servOf Dist) ((setsL (Open.length : Int).toNat).filter fun x9 => !(decide ((x9.length : Int) ≠ k)))
theorem med_pos {Open : List Int} {k : Int} (hk : 1 ≤ k ∧ k ≤ (Open.length : Int)) : 0 < ((setsL (Open.length : Int).toNat).filter fun x9 => !(decide ((x9.length : Int) ≠ k))).length := by
  obtain ⟨s, h1, h2⟩ := sets_size (n := (Open.length : Int).toNat) hk.1 (by omega)
  exact filter_pos ⟨s, h1, by simp [h2]⟩
theorem medS_in {Open : List Int} {k : Int} {Dist : List (List Int)} (hk : 1 ≤ k ∧ k ≤ (Open.length : Int)) : medS Open Dist k ∈ setsL (Open.length : Int).toNat :=
  (List.mem_filter.1 (leastL_mem (med_pos hk))).1
abbrev i_sum_JJ0 (list : List Int) (m : Int) (i : Int) : Prop := (0 ≤ i) ∧ (i ≤ (list.length : Int)) ∧ (m = smTo list i.toNat)
abbrev i_sum_mJ0 (list : List Int) (m : Int) (i : Int) : Nat := (list.length - i).toNat
def i_sum_C (f : FuncId) (ds : List D) : Orc := .no
def i_sum_A (list : List Int) : Ann := .two (.none) (.two (.none) (.two (.two (.none) (.loop (cut2 (fun (m : Int) (i : Int) => i_sum_JJ0 list m i) (fun (m : Int) (i : Int) => [(3, .d true (.int .i64 m)), (6, .d false (.sl (.ints list))), (7, .d true (.int .i64 (list.length : Int))), (8, .d true (.int .i64 i))]) (fun (m : Int) (i : Int) => [])) (fun g => i_sum_mJ0 list g.1 g.2) (fun _ => .none))) (.none)))
def i_sum_P (list : List Int) : Prop :=
  ((∃ m' : Int, ∃ i' : Int, (i_sum_JJ0 list m' i') ∧ ((0 : Int) = m') ∧ (list = list) ∧ ((list.length : Int) = (list.length : Int)) ∧ ((0 : Int) = i')) ∧ (∀ m : Int, ∀ i : Int, (i_sum_JJ0 list m i) → (((decide (i < (list.length : Int))) = true → ((0 : Int) ≤ i) ∧ ((i : Int) < list.length) ∧ (i.toNat < list.length) ∧ (-9223372036854775808 ≤ (m + (list.getD i.toNat 0)) ∧ (m + (list.getD i.toNat 0)) ≤ 9223372036854775807) ∧ (-9223372036854775808 ≤ (i + 1) ∧ (i + 1) ≤ 9223372036854775807) ∧ (∃ m' : Int, ∃ i' : Int, (i_sum_JJ0 list m' i') ∧ (i_sum_mJ0 list m' i' < i_sum_mJ0 list m i) ∧ ((m + (list.getD i.toNat 0)) = m') ∧ (list = list) ∧ ((list.length : Int) = (list.length : Int)) ∧ ((i + 1) = i'))) ∧ ((decide (i < (list.length : Int))) = false → ((m = (smTo list list.length)))))))
theorem i_sum_vc (list : List Int) (hx : ∀ x ∈ list, 0 ≤ x ∧ x ≤ 99) (hl : list.length ≤ 7) (w_list : (list.length : Int) ≤ 9223372036854775807) : i_sum_P list := by
  unfold i_sum_P
  refine ⟨?_, ?_⟩
  ·refine ⟨0, 0, ?_⟩
   refine ⟨?_, rfl, rfl, rfl, rfl⟩
   ·refine ⟨?_, ?_, ?_⟩
    ·omega
    ·omega
    ·rfl
  ·intro m i hJ
   obtain ⟨h1, h2, h3⟩ := hJ
   refine ⟨?_, ?_⟩
   ·intro b1
    try simp only [nrmT] at b1
    refine ⟨?_, ?_, ?_, ?_, ?_, ?_⟩
    ·omega
    ·omega
    ·omega
    ·have h4 := smTo_in hx i.toNat (by omega)
     have h5 := hx _ (getD_memI (d := 0) h1 (by omega))
     omega
    ·omega
    ·refine ⟨(m + (list.getD i.toNat 0)), (i + 1), ?_⟩
     refine ⟨?_, ?_, rfl, rfl, rfl, rfl⟩
     ·refine ⟨?_, ?_, ?_⟩
      ·omega
      ·omega
      ·rw [h3, show (i + 1).toNat = i.toNat + 1 by omega, smTo_succ]
     ·first | (show _ < _; omega) | (simp only [i_sum_mJ0]; omega) | (simp only [i_sum_mJ0] at *; simp at *; omega)
   ·intro b2
    try simp only [nrmT] at b2
    rw [h3, show i.toNat = list.length by omega]
theorem i_sum_pc (list : List Int) (hx : ∀ x ∈ list, 0 ≤ x ∧ x ≤ 99) (hl : list.length ≤ 7) : PC Try.prog 219 [.sl (.ints list)] (.one (.d (.int .i64 (smTo list list.length)))) :=
  pc_wf @Try.call219 fun hw => pc_by (by kernel_rfl) Try.func219 @Try.call219 (by kernel_rfl) i_sum_C (i_sum_A list) (by kernel_rfl) (i_sum_vc list hx hl hw.1) (by kernel_rfl)
def i_sum_orc : List D → Orc := orcN [some .ints] fun ds => match ds with
  | [.sl (.ints list)] => some (.one (.d (.int .i64 (smTo list list.length))))
  | _ => none
abbrev s_l2Serve_JJ0 (Open : List Int) (Dist : List (List Int)) (set : List Int) (m : Int) (i : Int) : Prop := (0 ≤ i) ∧ (i ≤ (Dist.length : Int)) ∧ (m = smTo (lensL Dist set Dist.length) i.toNat)
abbrev s_l2Serve_mJ0 (Open : List Int) (Dist : List (List Int)) (set : List Int) (m : Int) (i : Int) : Nat := (Dist.length - i).toNat
def s_l2Serve_C (f : FuncId) (ds : List D) : Orc := bif Nat.beq f 221 then s_l2Nearest_orc ds else .no
def s_l2Serve_A (Open : List Int) (Dist : List (List Int)) (set : List Int) : Ann := .two (.none) (.two (.none) (.two (.two (.none) (.loop (cut2 (fun (m : Int) (i : Int) => s_l2Serve_JJ0 Open Dist set m i) (fun (m : Int) (i : Int) => [(1, .d false (.sl (.ints set))), (2, .ptr 2 0), (5, .d true (.int .i64 m)), (6, .d true (.int .i64 i))]) (fun (m : Int) (i : Int) => [(2, .box 39 [.d false (.sl (.ints Open)), .d false (.sl (.rows Dist))])])) (fun g => s_l2Serve_mJ0 Open Dist set g.1 g.2) (fun _ => .none))) (.none)))
def s_l2Serve_P (Open : List Int) (Dist : List (List Int)) (set : List Int) : Prop :=
  ((∃ m' : Int, ∃ i' : Int, (s_l2Serve_JJ0 Open Dist set m' i') ∧ (set = set) ∧ ((0 : Int) = m') ∧ ((0 : Int) = i') ∧ (Open = Open) ∧ (Dist = Dist)) ∧ (∀ m : Int, ∀ i : Int, (s_l2Serve_JJ0 Open Dist set m i) → (((decide (i < (Dist.length : Int))) = true → (PC Try.prog 221 [.agg [.sl (.ints Open), .sl (.rows Dist)], .int .i64 i, .sl (.ints set)] (.one (.d (.int .i64 ((Dist.getD i.toNat []).getD (siteTo (Dist.getD i.toNat []) set set.length).toNat 0))))) ∧ (-9223372036854775808 ≤ (m + ((Dist.getD i.toNat []).getD (siteTo (Dist.getD i.toNat []) set set.length).toNat 0)) ∧ (m + ((Dist.getD i.toNat []).getD (siteTo (Dist.getD i.toNat []) set set.length).toNat 0)) ≤ 9223372036854775807) ∧ (-9223372036854775808 ≤ (i + 1) ∧ (i + 1) ≤ 9223372036854775807) ∧ (∃ m' : Int, ∃ i' : Int, (s_l2Serve_JJ0 Open Dist set m' i') ∧ (s_l2Serve_mJ0 Open Dist set m' i' < s_l2Serve_mJ0 Open Dist set m i) ∧ (set = set) ∧ ((m + ((Dist.getD i.toNat []).getD (siteTo (Dist.getD i.toNat []) set set.length).toNat 0)) = m') ∧ ((i + 1) = i') ∧ (Open = Open) ∧ (Dist = Dist))) ∧ ((decide (i < (Dist.length : Int))) = false → ((m = (servOf Dist set)))))))
theorem s_l2Serve_vc (Open : List Int) (Dist : List (List Int)) (set : List Int) (ht : (goodField Open Dist && rising set 0 ((Open.length : Int) - 1) && decide (0 < set.length)) = true) (w_Open : (Open.length : Int) ≤ 9223372036854775807) (w_Dist : (Dist.length : Int) ≤ 9223372036854775807) (v_Dist : ∀ x9 ∈ Dist, (x9.length : Int) ≤ 9223372036854775807) (w_set : (set.length : Int) ≤ 9223372036854775807) : s_l2Serve_P Open Dist set := by
  unfold s_l2Serve_P
  obtain ⟨hg, hs, hp⟩ := two_facts ht
  obtain ⟨g1, g2, g3⟩ := gf_open hg
  refine ⟨?_, ?_⟩
  ·refine ⟨0, 0, ?_⟩
   refine ⟨?_, rfl, rfl, rfl, rfl, rfl⟩
   ·refine ⟨?_, ?_, ?_⟩
    ·omega
    ·omega
    ·rfl
  ·intro m i hJ
   obtain ⟨h1, h2, h3⟩ := hJ
   refine ⟨?_, ?_⟩
   ·intro b1
    try simp only [nrmT] at b1
    refine ⟨?_, ?_, ?_, ?_⟩
    ·refine s_l2Nearest_pc Open Dist i set ?_ ?_
     ·exact ht
     ·omega
    ·have h4 := smTo_in (lensL_in ht) i.toNat (by rw [lensL_len]; omega)
     have h5 := lenAt_in ht (show i.toNat < Dist.length by omega)
     unfold lenAt at h5
     omega
    ·omega
    ·refine ⟨(m + ((Dist.getD i.toNat []).getD (siteTo (Dist.getD i.toNat []) set set.length).toNat 0)), (i + 1), ?_⟩
     refine ⟨?_, ?_, rfl, rfl, rfl, rfl, rfl⟩
     ·refine ⟨?_, ?_, ?_⟩
      ·omega
      ·omega
      ·rw [h3, show (i + 1).toNat = i.toNat + 1 by omega, smTo_succ, lensL_getD _ _ _ _ (by omega)]; rfl
     ·first | (show _ < _; omega) | (simp only [s_l2Serve_mJ0]; omega) | (simp only [s_l2Serve_mJ0] at *; simp at *; omega)
   ·intro b2
    try simp only [nrmT] at b2
    rw [h3, show i.toNat = Dist.length by omega]; rfl
theorem s_l2Serve_pc (Open : List Int) (Dist : List (List Int)) (set : List Int) (ht : (goodField Open Dist && rising set 0 ((Open.length : Int) - 1) && decide (0 < set.length)) = true) : PC Try.prog 162 [.agg [.sl (.ints Open), .sl (.rows Dist)], .sl (.ints set)] (.one (.d (.int .i64 (servOf Dist set)))) :=
  pc_wf @Try.call162 fun hw => pc_by (by kernel_rfl) Try.func162 @Try.call162 (by kernel_rfl) s_l2Serve_C (s_l2Serve_A Open Dist set) (by kernel_rfl) (s_l2Serve_vc Open Dist set ht hw.1.1 hw.1.2.1.1 hw.1.2.1.2 hw.2.1) (by kernel_rfl)
def s_l2Serve_orc : List D → Orc := orcN [none, some .ints] fun ds => match ds with
  | [.agg [.sl (.ints Open), .sl (.rows Dist)], .sl (.ints set)] => some (.one (.d (.int .i64 (servOf Dist set))))
  | _ => none
def i_Field_service_C (f : FuncId) (ds : List D) : Orc := bif Nat.beq f 210 then i_Field_lengths_orc ds else bif Nat.beq f 219 then i_sum_orc ds else .no
def i_Field_service_A (Open : List Int) (Dist : List (List Int)) (set : List Int) : Ann := .none
def i_Field_service_P (Open : List Int) (Dist : List (List Int)) (set : List Int) : Prop :=
  (PC Try.prog 210 [.agg [.sl (.ints Open), .sl (.rows Dist)], .sl (.ints set)] (.one (.own 3 (.ints (lensL Dist set Dist.length))))) ∧ ((lensL Dist set Dist.length).length = (lensL Dist set Dist.length).length) ∧ (PC Try.prog 219 [.sl (.ints (lensL Dist set Dist.length))] (.one (.d (.int .i64 (smTo (lensL Dist set Dist.length) (lensL Dist set Dist.length).length))))) ∧ (((smTo (lensL Dist set Dist.length) (lensL Dist set Dist.length).length) = (servOf Dist set)))
theorem i_Field_service_vc (Open : List Int) (Dist : List (List Int)) (set : List Int) (ht : (goodField Open Dist && rising set 0 ((Open.length : Int) - 1) && decide (0 < set.length)) = true) (w_Open : (Open.length : Int) ≤ 9223372036854775807) (w_Dist : (Dist.length : Int) ≤ 9223372036854775807) (v_Dist : ∀ x9 ∈ Dist, (x9.length : Int) ≤ 9223372036854775807) (w_set : (set.length : Int) ≤ 9223372036854775807) : i_Field_service_P Open Dist set := by
  unfold i_Field_service_P
  obtain ⟨hg, hs, hp⟩ := two_facts ht
  obtain ⟨g1, g2, g3⟩ := gf_open hg
  refine ⟨?_, rfl, ?_, ?_⟩
  ·refine i_Field_lengths_pc Open Dist set ?_
   ·exact ht
  ·refine i_sum_pc (lensL Dist set Dist.length) ?_ ?_
   ·exact lensL_in ht
   ·rw [lensL_len]; exact g3
  ·rw [lensL_len]; rfl
theorem i_Field_service_pc (Open : List Int) (Dist : List (List Int)) (set : List Int) (ht : (goodField Open Dist && rising set 0 ((Open.length : Int) - 1) && decide (0 < set.length)) = true) : PC Try.prog 153 [.agg [.sl (.ints Open), .sl (.rows Dist)], .sl (.ints set)] (.one (.d (.int .i64 (servOf Dist set)))) :=
  pc_wf @Try.call153 fun hw => pc_by (by kernel_rfl) Try.func153 @Try.call153 (by kernel_rfl) i_Field_service_C (i_Field_service_A Open Dist set) (by kernel_rfl) (i_Field_service_vc Open Dist set ht hw.1.1 hw.1.2.1.1 hw.1.2.1.2 hw.2.1) (by kernel_rfl)
def i_Field_service_orc : List D → Orc := orcN [none, some .ints] fun ds => match ds with
  | [.agg [.sl (.ints Open), .sl (.rows Dist)], .sl (.ints set)] => some (.one (.d (.int .i64 (servOf Dist set))))
  | _ => none
abbrev i_least_serv_JJ0 (xss : List (List Int)) (Open : List Int) (Dist : List (List Int)) (best : List Int) (i : Int) : Prop := (0 ≤ i) ∧ (i ≤ (xss.length : Int)) ∧ (best ∈ xss) ∧ (best = (xss.take i.toNat).foldl (lsB (servOf Dist)) (xss.getD 0 []))
abbrev i_least_serv_mJ0 (xss : List (List Int)) (Open : List Int) (Dist : List (List Int)) (best : List Int) (i : Int) : Nat := (xss.length - i).toNat
def i_least_serv_C (f : FuncId) (ds : List D) : Orc := bif Nat.beq f 153 then i_Field_service_orc ds else .no
def i_least_serv_A (xss : List (List Int)) (Open : List Int) (Dist : List (List Int)) : Ann := .two (.none) (.two (.none) (.two (.two (.none) (.loop (cut2 (fun (best : List Int) (i : Int) => i_least_serv_JJ0 xss Open Dist best i) (fun (best : List Int) (i : Int) => [(1, .d false (.fn 153 1 [.agg [.sl (.ints Open), .sl (.rows Dist)]])), (5, .d true (.sl (.ints best))), (11, .d true (.sl (.rows xss))), (12, .d true (.int .i64 (xss.length : Int))), (13, .d true (.int .i64 i))]) (fun (best : List Int) (i : Int) => [])) (fun g => i_least_serv_mJ0 xss Open Dist g.1 g.2) (fun _ => .none))) (.none)))
def i_least_serv_P (xss : List (List Int)) (Open : List Int) (Dist : List (List Int)) : Prop :=
  ((0 : Int) ≤ 0) ∧ ((0 : Int) < xss.length) ∧ (0 < xss.length) ∧ ((∃ best' : List Int, ∃ i' : Int, (i_least_serv_JJ0 xss Open Dist best' i') ∧ ((.fn 153 1 [.agg [.sl (.ints Open), .sl (.rows Dist)]] : D) = (.fn 153 1 [.agg [.sl (.ints Open), .sl (.rows Dist)]] : D)) ∧ ((xss.getD 0 []) = best') ∧ (xss = xss) ∧ ((xss.length : Int) = (xss.length : Int)) ∧ ((0 : Int) = i')) ∧ (∀ best : List Int, ∀ i : Int, (i_least_serv_JJ0 xss Open Dist best i) → (((decide (i < (xss.length : Int))) = true → ((0 : Int) ≤ i) ∧ ((i : Int) < xss.length) ∧ (i.toNat < xss.length) ∧ (PC Try.prog 153 [.agg [.sl (.ints Open), .sl (.rows Dist)], .sl (.ints (xss.getD i.toNat []))] (.one (.d (.int .i64 (servOf Dist (xss.getD i.toNat [])))))) ∧ (PC Try.prog 153 [.agg [.sl (.ints Open), .sl (.rows Dist)], .sl (.ints best)] (.one (.d (.int .i64 (servOf Dist best))))) ∧ (((decide ((servOf Dist (xss.getD i.toNat [])) < (servOf Dist best))) = true → (-9223372036854775808 ≤ (i + 1) ∧ (i + 1) ≤ 9223372036854775807) ∧ (∃ best' : List Int, ∃ i' : Int, (i_least_serv_JJ0 xss Open Dist best' i') ∧ (i_least_serv_mJ0 xss Open Dist best' i' < i_least_serv_mJ0 xss Open Dist best i) ∧ ((.fn 153 1 [.agg [.sl (.ints Open), .sl (.rows Dist)]] : D) = (.fn 153 1 [.agg [.sl (.ints Open), .sl (.rows Dist)]] : D)) ∧ ((xss.getD i.toNat []) = best') ∧ (xss = xss) ∧ ((xss.length : Int) = (xss.length : Int)) ∧ ((i + 1) = i'))) ∧ ((decide ((servOf Dist (xss.getD i.toNat [])) < (servOf Dist best))) = false → (-9223372036854775808 ≤ (i + 1) ∧ (i + 1) ≤ 9223372036854775807) ∧ (∃ best' : List Int, ∃ i' : Int, (i_least_serv_JJ0 xss Open Dist best' i') ∧ (i_least_serv_mJ0 xss Open Dist best' i' < i_least_serv_mJ0 xss Open Dist best i) ∧ ((.fn 153 1 [.agg [.sl (.ints Open), .sl (.rows Dist)]] : D) = (.fn 153 1 [.agg [.sl (.ints Open), .sl (.rows Dist)]] : D)) ∧ (best = best') ∧ (xss = xss) ∧ ((xss.length : Int) = (xss.length : Int)) ∧ ((i + 1) = i'))))) ∧ ((decide (i < (xss.length : Int))) = false → (((best : List Int) = (leastL (servOf Dist) xss)))))))
theorem i_least_serv_vc (xss : List (List Int)) (Open : List Int) (Dist : List (List Int)) (hp : 0 < xss.length) (hx : ∀ s ∈ xss, goodField Open Dist && rising s 0 ((Open.length : Int) - 1) && decide (0 < s.length)) (w_xss : (xss.length : Int) ≤ 9223372036854775807) (v_xss : ∀ x9 ∈ xss, (x9.length : Int) ≤ 9223372036854775807) (w_Open : (Open.length : Int) ≤ 9223372036854775807) (w_Dist : (Dist.length : Int) ≤ 9223372036854775807) (v_Dist : ∀ x9 ∈ Dist, (x9.length : Int) ≤ 9223372036854775807) : i_least_serv_P xss Open Dist := by
  unfold i_least_serv_P
  refine ⟨?_, ?_, ?_, ?_, ?_⟩
  ·omega
  ·omega
  ·omega
  ·refine ⟨(xss.getD 0 []), 0, ?_⟩
   refine ⟨?_, rfl, rfl, rfl, rfl, rfl⟩
   ·refine ⟨?_, ?_, ?_, ?_⟩
    ·omega
    ·omega
    ·exact getD_mem hp
    ·rfl
  ·intro best i hJ
   obtain ⟨h1, h2, h3, h4⟩ := hJ
   refine ⟨?_, ?_⟩
   ·intro b1
    try simp only [nrmT] at b1
    refine ⟨?_, ?_, ?_, ?_, ?_, ?_, ?_⟩
    ·omega
    ·omega
    ·omega
    ·refine i_Field_service_pc Open Dist (xss.getD i.toNat []) ?_
     ·exact hx _ (getD_memI h1 (by omega))
    ·refine i_Field_service_pc Open Dist best ?_
     ·exact hx _ h3
    ·intro b2
     try simp only [nrmT] at b2
     refine ⟨?_, ?_⟩
     ·omega
     ·refine ⟨(xss.getD i.toNat []), (i + 1), ?_⟩
      refine ⟨?_, ?_, rfl, rfl, rfl, rfl, rfl⟩
      ·refine ⟨?_, ?_, ?_, ?_⟩
       ·omega
       ·omega
       ·exact getD_memI h1 (by omega)
       ·rw [fold_snoc (d := []) h1 (by omega), ← h4]; unfold lsB; rw [if_pos b2]
      ·first | (show _ < _; omega) | (simp only [i_least_serv_mJ0]; omega) | (simp only [i_least_serv_mJ0] at *; simp at *; omega)
    ·intro b3
     try simp only [nrmT] at b3
     refine ⟨?_, ?_⟩
     ·omega
     ·refine ⟨best, (i + 1), ?_⟩
      refine ⟨?_, ?_, rfl, rfl, rfl, rfl, rfl⟩
      ·refine ⟨?_, ?_, ?_, ?_⟩
       ·omega
       ·omega
       ·exact h3
       ·rw [fold_snoc (d := []) h1 (by omega), ← h4]; unfold lsB; (try dsimp only); rw [if_neg (by omega)]
      ·first | (show _ < _; omega) | (simp only [i_least_serv_mJ0]; omega) | (simp only [i_least_serv_mJ0] at *; simp at *; omega)
   ·intro b4
    try simp only [nrmT] at b4
    rw [h4, take_all (by omega)]; rfl
theorem i_least_serv_pc (xss : List (List Int)) (Open : List Int) (Dist : List (List Int)) (hp : 0 < xss.length) (hx : ∀ s ∈ xss, goodField Open Dist && rising s 0 ((Open.length : Int) - 1) && decide (0 < s.length)) : PCs Try.prog 172 [.sl (.rows xss), .fn 153 1 [.agg [.sl (.ints Open), .sl (.rows Dist)]]] 0 (.sl (.ints (leastL (servOf Dist) xss))) :=
  pcs_wf @Try.call172 fun hw => pcs_by (by kernel_rfl) Try.func172 @Try.call172 (by kernel_rfl) i_least_serv_C (i_least_serv_A xss Open Dist) (by kernel_rfl) (i_least_serv_vc xss Open Dist hp hx hw.1.1 hw.1.2 hw.2.1.1.1 hw.2.1.1.2.1.1 hw.2.1.1.2.1.2) (by kernel_rfl)
def i_least_serv_orc : List D → Orc := orcS 0 fun ds => match ds with
  | [.sl (.rows xss), .fn f0 1 [.agg [.sl (.ints Open), .sl (.rows Dist)]]] => some (.sl (.ints (leastL (servOf Dist) xss)))
  | _ => none
theorem i_median_1_pb (x : List Int) (k : Int) : PB Try.prog 218 [.sl (.ints x), .bx [.int .i64 k] 0] (decide ((x.length : Int) ≠ k)) := by
  refine ⟨@Try.call218, fun w vs hall => ?_⟩
  obtain ⟨v1, v2, rfl⟩ : ∃ v1 v2, vs = [v1, v2] := by
    match vs, hall.1 with
    | [a, b], _ => exact ⟨a, b, rfl⟩
  obtain ⟨ad, cap, rfl⟩ := slice_form (hall.2 0 v1 _ rfl rfl)
  obtain ⟨b, rfl, hc⟩ := box_form (hall.2 1 v2 _ rfl rfl)
  show Calls Try.prog 218 #[.slice ad x.length cap, .pointer (some b)] w _
  clear hall
  go_enter Try.func218, Try.ntmps218
  go_wp2
  all_goals (go_ret; exact ⟨by first | (simp_all; done) | (simp_all; rfl), 0, rfl⟩)
theorem slices_DeleteFunc_int_int_med_pu (xss : List (List Int)) (k : Int) (hp : 0 < xss.length) : PU Try.prog 217 26 (.rows xss) (.rows (xss.filter (fun x9 => !(decide ((x9.length : Int) ≠ k))))) [.fn 218 0 [.bx [.int .i64 k] 0]] true :=
  pu_deleteFunc Try.layDelete Try.zeroValue26 26 xss (fun x9 => decide ((x9.length : Int) ≠ k)) 218 [.bx [.int .i64 k] 0] (fun x => i_median_1_pb x k) hp
abbrev i_Field_median_JR1 (Open : List Int) (Dist : List (List Int)) (k : Int) (list2 : List (List Int)) : Prop := (list2 = (setsL (Open.length : Int).toNat).filter (fun x9 => !(decide ((x9.length : Int) ≠ k))))
def i_Field_median_C (f : FuncId) (ds : List D) : Orc := bif Nat.beq f 134 then i_sets_orc ds else bif Nat.beq f 172 then i_least_serv_orc ds else .no
def i_Field_median_A (Open : List Int) (Dist : List (List Int)) (k : Int) : Ann := .two (.none) (.cut (.mark [] [(5, .up (.rows ((setsL (Open.length : Int).toNat).filter (fun x9 => !(decide ((x9.length : Int) ≠ k))))) true)]) (cut1 (fun (list2 : List (List Int)) => i_Field_median_JR1 Open Dist k list2) (fun (list2 : List (List Int)) => [(2, .ptr 2 0), (5, .d true (.sl (.rows list2)))]) (fun (list2 : List (List Int)) => [(2, .box 39 [.d false (.sl (.ints Open)), .d false (.sl (.rows Dist))])])) (fun _ => .none))
def i_Field_median_P (Open : List Int) (Dist : List (List Int)) (k : Int) : Prop :=
  (((PC Try.prog 134 [.int .i64 (Open.length : Int)] (.one (.own 26 (.rows (setsL (Open.length : Int).toNat))))) ∧ ((setsL (Open.length : Int).toNat).length = (setsL (Open.length : Int).toNat).length) ∧ (PU Try.prog 217 26 (.rows (setsL (Open.length : Int).toNat)) (.rows ((setsL (Open.length : Int).toNat).filter (fun x9 => !(decide ((x9.length : Int) ≠ k))))) [.fn 218 0 [.bx [.int .i64 k] 0]] true) ∧ (∃ list2' : List (List Int), (i_Field_median_JR1 Open Dist k list2') ∧ (((setsL (Open.length : Int).toNat).filter (fun x9 => !(decide ((x9.length : Int) ≠ k)))).length = ((setsL (Open.length : Int).toNat).filter (fun x9 => !(decide ((x9.length : Int) ≠ k)))).length) ∧ (((setsL (Open.length : Int).toNat).filter (fun x9 => !(decide ((x9.length : Int) ≠ k)))) = list2') ∧ (Open = Open) ∧ (Dist = Dist))) ∧ (∀ list2 : List (List Int), (i_Field_median_JR1 Open Dist k list2) → (PCs Try.prog 172 [.sl (.rows list2), .fn 153 1 [.agg [.sl (.ints Open), .sl (.rows Dist)]]] 0 (.sl (.ints (leastL (servOf Dist) list2)))) ∧ ((((leastL (servOf Dist) list2) : List Int) = (medS Open Dist k)))))
theorem i_Field_median_vc (Open : List Int) (Dist : List (List Int)) (k : Int) (hg : goodField Open Dist = true) (hk : 1 ≤ k ∧ k ≤ (Open.length : Int)) (w_Open : (Open.length : Int) ≤ 9223372036854775807) (w_Dist : (Dist.length : Int) ≤ 9223372036854775807) (v_Dist : ∀ x9 ∈ Dist, (x9.length : Int) ≤ 9223372036854775807) : i_Field_median_P Open Dist k := by
  unfold i_Field_median_P
  obtain ⟨g1, g2, g3⟩ := gf_open hg
  refine ⟨?_, ?_⟩
  ·refine ⟨?_, rfl, ?_, ?_⟩
   ·refine i_sets_pc (Open.length : Int) ?_
    ·omega
   ·refine slices_DeleteFunc_int_int_med_pu (setsL (Open.length : Int).toNat) k ?_
    ·first | (rw [h8]; exact med_pos hk) | exact sets_big (by omega)
   ·refine ⟨((setsL (Open.length : Int).toNat).filter (fun x9 => !(decide ((x9.length : Int) ≠ k)))), ?_⟩
    refine ⟨?_, rfl, rfl, rfl, rfl⟩
    ·unfold i_Field_median_JR1
     rfl
  ·intro list2 hJ
   have h8 := hJ
   refine ⟨?_, ?_⟩
   ·refine i_least_serv_pc list2 Open Dist ?_ ?_
    ·rw [h8]; exact med_pos hk
    ·rw [h8]
     intro s hs
     exact (set_two hg (List.mem_filter.1 hs).1).1
   ·rw [h8]; rfl
theorem i_Field_median_pc (Open : List Int) (Dist : List (List Int)) (k : Int) (hg : goodField Open Dist = true) (hk : 1 ≤ k ∧ k ≤ (Open.length : Int)) : PC Try.prog 143 [.agg [.sl (.ints Open), .sl (.rows Dist)], .int .i64 k] (.one (.d (.sl (.ints (medS Open Dist k))))) :=
  pc_wf @Try.call143 fun hw => pc_by (by kernel_rfl) Try.func143 @Try.call143 (by kernel_rfl) i_Field_median_C (i_Field_median_A Open Dist k) (by kernel_rfl) (i_Field_median_vc Open Dist k hg hk hw.1.1 hw.1.2.1.1 hw.1.2.1.2) (by kernel_rfl)
def i_Field_median_orc : List D → Orc := orcN [none, none] fun ds => match ds with
  | [.agg [.sl (.ints Open), .sl (.rows Dist)], .int .i64 k] => some (.one (.d (.sl (.ints (medS Open Dist k)))))
  | _ => none
abbrev s_l4Best_JJ0 (Open : List Int) (Dist : List (List Int)) (k : Int) (best : List Int) (i : Int) : Prop := (0 ≤ i) ∧ (i ≤ ((setsL (Open.length : Int).toNat).length : Int)) ∧ (best = ((setsL (Open.length : Int).toNat).take i.toNat).foldl (bsB (servOf Dist) k) []) ∧ (best = [] ∨ best ∈ (setsL (Open.length : Int).toNat))
abbrev s_l4Best_mJ0 (Open : List Int) (Dist : List (List Int)) (k : Int) (best : List Int) (i : Int) : Nat := ((setsL (Open.length : Int).toNat).length - i).toNat
def s_l4Best_C (f : FuncId) (ds : List D) : Orc := bif Nat.beq f 214 then s_l2Sets_orc ds else bif Nat.beq f 162 then s_l2Serve_orc ds else .no
def s_l4Best_A (Open : List Int) (Dist : List (List Int)) (k : Int) : Ann := .two (.none) (.two (.reg [(4, .frz)]) (.two (.two (.none) (.loop (cut2 (fun (best : List Int) (i : Int) => s_l4Best_JJ0 Open Dist k best i) (fun (best : List Int) (i : Int) => [(1, .d false (.int .i64 k)), (2, .ptr 2 0), (5, .d true (.sl (.rows (setsL (Open.length : Int).toNat)))), (6, .d true (.sl (.ints best))), (7, .d true (.int .i64 i))]) (fun (best : List Int) (i : Int) => [(2, .box 39 [.d false (.sl (.ints Open)), .d false (.sl (.rows Dist))])])) (fun g => s_l4Best_mJ0 Open Dist k g.1 g.2) (fun _ => .none))) (.none)))
def s_l4Best_e1 (Open : List Int) (Dist : List (List Int)) (k : Int) (best : List Int) (i : Int) : Bool := (cond ((((setsL (Open.length : Int).toNat).getD i.toNat []).length : Int) == k) (cond ((best.length : Int) == 0) true (decide ((servOf Dist ((setsL (Open.length : Int).toNat).getD i.toNat [])) < (servOf Dist best)))) false)
def s_l4Best_P (Open : List Int) (Dist : List (List Int)) (k : Int) : Prop :=
  (PC Try.prog 214 [.int .i64 (Open.length : Int)] (.one (.d (.sl (.rows (setsL (Open.length : Int).toNat)))))) ∧ ((∃ best' : List Int, ∃ i' : Int, (s_l4Best_JJ0 Open Dist k best' i') ∧ (k = k) ∧ ((setsL (Open.length : Int).toNat) = (setsL (Open.length : Int).toNat)) ∧ ([] = best') ∧ ((0 : Int) = i') ∧ (Open = Open) ∧ (Dist = Dist)) ∧ (∀ best : List Int, ∀ i : Int, (s_l4Best_JJ0 Open Dist k best i) → (((decide (i < (((setsL (Open.length : Int).toNat).length) : Int))) = true → (true = true) ∧ ((0 : Int) ≤ i) ∧ ((i : Int) < (setsL (Open.length : Int).toNat).length) ∧ (i.toNat < (setsL (Open.length : Int).toNat).length) ∧ (((((setsL (Open.length : Int).toNat).getD i.toNat []).length : Int) == k) = true → ((((setsL (Open.length : Int).toNat).getD i.toNat []).length : Int) == k) = true) ∧ (((((setsL (Open.length : Int).toNat).getD i.toNat []).length : Int) == k) = true → ((((setsL (Open.length : Int).toNat).getD i.toNat []).length : Int) == k) = true) ∧ (((((setsL (Open.length : Int).toNat).getD i.toNat []).length : Int) == k) = true → ((((setsL (Open.length : Int).toNat).getD i.toNat []).length : Int) == k) = true) ∧ ((((((setsL (Open.length : Int).toNat).getD i.toNat []).length : Int) == k) && (!((best.length : Int) == 0))) = true → (((((setsL (Open.length : Int).toNat).getD i.toNat []).length : Int) == k) && (!((best.length : Int) == 0))) = true) ∧ ((((((setsL (Open.length : Int).toNat).getD i.toNat []).length : Int) == k) && (!((best.length : Int) == 0))) = true → (((((setsL (Open.length : Int).toNat).getD i.toNat []).length : Int) == k) && (!((best.length : Int) == 0))) = true) ∧ (((((((setsL (Open.length : Int).toNat).getD i.toNat []).length : Int) == k) && (!((best.length : Int) == 0))) = true → (0 : Int) ≤ i)) ∧ (((((((setsL (Open.length : Int).toNat).getD i.toNat []).length : Int) == k) && (!((best.length : Int) == 0))) = true → (i : Int) < (setsL (Open.length : Int).toNat).length)) ∧ ((((((setsL (Open.length : Int).toNat).getD i.toNat []).length : Int) == k) && (!((best.length : Int) == 0))) = true → (((((setsL (Open.length : Int).toNat).getD i.toNat []).length : Int) == k) && (!((best.length : Int) == 0))) = true) ∧ (((((((setsL (Open.length : Int).toNat).getD i.toNat []).length : Int) == k) && (!((best.length : Int) == 0))) = true → i.toNat < (setsL (Open.length : Int).toNat).length)) ∧ ((((((setsL (Open.length : Int).toNat).getD i.toNat []).length : Int) == k) && (!((best.length : Int) == 0))) = true → (((((setsL (Open.length : Int).toNat).getD i.toNat []).length : Int) == k) && (!((best.length : Int) == 0))) = true) ∧ ((((((setsL (Open.length : Int).toNat).getD i.toNat []).length : Int) == k) && (!((best.length : Int) == 0))) = true → (((((setsL (Open.length : Int).toNat).getD i.toNat []).length : Int) == k) && (!((best.length : Int) == 0))) = true) ∧ ((((((setsL (Open.length : Int).toNat).getD i.toNat []).length : Int) == k) && (!((best.length : Int) == 0))) = true → PC Try.prog 162 [.agg [.sl (.ints Open), .sl (.rows Dist)], .sl (.ints ((setsL (Open.length : Int).toNat).getD i.toNat []))] (.one (.d (.int .i64 (servOf Dist ((setsL (Open.length : Int).toNat).getD i.toNat [])))))) ∧ ((((((setsL (Open.length : Int).toNat).getD i.toNat []).length : Int) == k) && (!((best.length : Int) == 0))) = true → (((((setsL (Open.length : Int).toNat).getD i.toNat []).length : Int) == k) && (!((best.length : Int) == 0))) = true) ∧ ((((((setsL (Open.length : Int).toNat).getD i.toNat []).length : Int) == k) && (!((best.length : Int) == 0))) = true → (((((setsL (Open.length : Int).toNat).getD i.toNat []).length : Int) == k) && (!((best.length : Int) == 0))) = true) ∧ ((((((setsL (Open.length : Int).toNat).getD i.toNat []).length : Int) == k) && (!((best.length : Int) == 0))) = true → PC Try.prog 162 [.agg [.sl (.ints Open), .sl (.rows Dist)], .sl (.ints best)] (.one (.d (.int .i64 (servOf Dist best))))) ∧ ((((((setsL (Open.length : Int).toNat).getD i.toNat []).length : Int) == k) && (!((best.length : Int) == 0))) = true → (((((setsL (Open.length : Int).toNat).getD i.toNat []).length : Int) == k) && (!((best.length : Int) == 0))) = true) ∧ ((((((setsL (Open.length : Int).toNat).getD i.toNat []).length : Int) == k) && (!((best.length : Int) == 0))) = true → (((((setsL (Open.length : Int).toNat).getD i.toNat []).length : Int) == k) && (!((best.length : Int) == 0))) = true) ∧ ((((((setsL (Open.length : Int).toNat).getD i.toNat []).length : Int) == k) = true → ((((setsL (Open.length : Int).toNat).getD i.toNat []).length : Int) == k) = true)) ∧ ((((((setsL (Open.length : Int).toNat).getD i.toNat []).length : Int) == k) = true → ((best.length : Int) == 0) = true → true = true)) ∧ ((((((setsL (Open.length : Int).toNat).getD i.toNat []).length : Int) == k) = true → ((best.length : Int) == 0) = false → (((((setsL (Open.length : Int).toNat).getD i.toNat []).length : Int) == k) && (!((best.length : Int) == 0))) = true)) ∧ (true = true) ∧ ((((((setsL (Open.length : Int).toNat).getD i.toNat []).length : Int) == k) = true → ((((setsL (Open.length : Int).toNat).getD i.toNat []).length : Int) == k) = true)) ∧ ((((((setsL (Open.length : Int).toNat).getD i.toNat []).length : Int) == k) = false → true = true)) ∧ (((s_l4Best_e1 Open Dist k best i) = true → ((0 : Int) ≤ i) ∧ ((i : Int) < (setsL (Open.length : Int).toNat).length) ∧ (i.toNat < (setsL (Open.length : Int).toNat).length) ∧ (-9223372036854775808 ≤ (i + 1) ∧ (i + 1) ≤ 9223372036854775807) ∧ (∃ best' : List Int, ∃ i' : Int, (s_l4Best_JJ0 Open Dist k best' i') ∧ (s_l4Best_mJ0 Open Dist k best' i' < s_l4Best_mJ0 Open Dist k best i) ∧ (k = k) ∧ ((setsL (Open.length : Int).toNat) = (setsL (Open.length : Int).toNat)) ∧ (((setsL (Open.length : Int).toNat).getD i.toNat []) = best') ∧ ((i + 1) = i') ∧ (Open = Open) ∧ (Dist = Dist))) ∧ ((s_l4Best_e1 Open Dist k best i) = false → (-9223372036854775808 ≤ (i + 1) ∧ (i + 1) ≤ 9223372036854775807) ∧ (∃ best' : List Int, ∃ i' : Int, (s_l4Best_JJ0 Open Dist k best' i') ∧ (s_l4Best_mJ0 Open Dist k best' i' < s_l4Best_mJ0 Open Dist k best i) ∧ (k = k) ∧ ((setsL (Open.length : Int).toNat) = (setsL (Open.length : Int).toNat)) ∧ (best = best') ∧ ((i + 1) = i') ∧ (Open = Open) ∧ (Dist = Dist))))) ∧ ((decide (i < (((setsL (Open.length : Int).toNat).length) : Int))) = false → (((best : List Int) = (medS Open Dist k)))))))
theorem s_l4Best_vc (Open : List Int) (Dist : List (List Int)) (k : Int) (hg : goodField Open Dist = true) (hk : 1 ≤ k ∧ k ≤ (Open.length : Int)) (w_Open : (Open.length : Int) ≤ 9223372036854775807) (w_Dist : (Dist.length : Int) ≤ 9223372036854775807) (v_Dist : ∀ x9 ∈ Dist, (x9.length : Int) ≤ 9223372036854775807) : s_l4Best_P Open Dist k := by
  unfold s_l4Best_P s_l4Best_e1
  obtain ⟨g1, g2, g3⟩ := gf_open hg
  have sl := sets_small (n := (Open.length : Int).toNat) (by omega)
  refine ⟨?_, ?_, ?_⟩
  ·refine s_l2Sets_pc (Open.length : Int) ?_
   ·omega
  ·refine ⟨([]), 0, ?_⟩
   refine ⟨?_, rfl, rfl, ?_, rfl, rfl, rfl⟩
   ·refine ⟨?_, ?_, ?_, ?_⟩
    ·omega
    ·omega
    ·rfl
    ·exact .inl rfl
   ·rfl
  ·intro best i hJ
   obtain ⟨h1, h2, h3, h4⟩ := hJ
   refine ⟨?_, ?_⟩
   ·intro b1
    try simp only [nrmT] at b1
    refine ⟨rfl, ?_, ?_, ?_, id, id, id, id, id, ?_, ?_, id, ?_, id, id, ?_, id, id, ?_, id, id, id, fun _ _ => rfl, ?_, rfl, id, fun _ => rfl, ?_, ?_⟩
    ·omega
    ·omega
    ·omega
    ·intro _; omega
    ·intro _; omega
    ·intro _; omega
    ·intro hg
     refine s_l2Serve_pc Open Dist ((setsL (Open.length : Int).toNat).getD i.toNat []) ?_
     ·exact (set_two (by assumption) (getD_memI (d := []) h1 (by omega : i < ((setsL (Open.length : Int).toNat).length : Int)))).1
    ·intro hg
     refine s_l2Serve_pc Open Dist best ?_
     ·rcases h4 with h5 | h5
      · exfalso
        rw [h5] at hg
        simp at hg
      · exact (set_two (by assumption) h5).1
    ·intro q1 q2; rw [q1, q2]; rfl
    ·intro b2
     refine ⟨?_, ?_, ?_, ?_, ?_⟩
     ·omega
     ·omega
     ·omega
     ·omega
     ·refine ⟨((setsL (Open.length : Int).toNat).getD i.toNat []), (i + 1), ?_⟩
      refine ⟨?_, ?_, rfl, rfl, rfl, rfl, rfl, rfl⟩
      ·refine ⟨?_, ?_, ?_, ?_⟩
       ·omega
       ·omega
       ·rw [fold_snoc (d := []) h1 (by omega), ← h3]; unfold bsB; rw [if_pos b2]
       ·exact .inr (getD_memI (d := []) h1 (by omega : i < ((setsL (Open.length : Int).toNat).length : Int)))
      ·first | (show _ < _; omega) | (simp only [s_l4Best_mJ0]; omega) | (simp only [s_l4Best_mJ0] at *; simp at *; omega)
    ·intro b3
     refine ⟨?_, ?_⟩
     ·omega
     ·refine ⟨best, (i + 1), ?_⟩
      refine ⟨?_, ?_, rfl, rfl, rfl, rfl, rfl, rfl⟩
      ·refine ⟨?_, ?_, ?_, ?_⟩
       ·omega
       ·omega
       ·rw [fold_snoc (d := []) h1 (by omega), ← h3]; unfold bsB; rw [if_neg (by rw [b3]; simp)]
       ·exact h4
      ·first | (show _ < _; omega) | (simp only [s_l4Best_mJ0]; omega) | (simp only [s_l4Best_mJ0] at *; simp at *; omega)
   ·intro b4
    try simp only [nrmT] at b4
    rw [h3, take_all (by omega)]
    exact bestL_eq hk.1 _
theorem s_l4Best_pc (Open : List Int) (Dist : List (List Int)) (k : Int) (hg : goodField Open Dist = true) (hk : 1 ≤ k ∧ k ≤ (Open.length : Int)) : PC Try.prog 140 [.agg [.sl (.ints Open), .sl (.rows Dist)], .int .i64 k] (.one (.d (.sl (.ints (medS Open Dist k))))) :=
  pc_wf @Try.call140 fun hw => pc_by (by kernel_rfl) Try.func140 @Try.call140 (by kernel_rfl) s_l4Best_C (s_l4Best_A Open Dist k) (by kernel_rfl) (s_l4Best_vc Open Dist k hg hk hw.1.1 hw.1.2.1.1 hw.1.2.1.2) (by kernel_rfl)
def s_l4Best_orc : List D → Orc := orcN [none, none] fun ds => match ds with
  | [.agg [.sl (.ints Open), .sl (.rows Dist)], .int .i64 k] => some (.one (.d (.sl (.ints (medS Open Dist k)))))
  | _ => none
def medV (Open : List Int) (Dist : List (List Int)) (k : Int) : Int := if (goodField Open Dist && inB k 1 (Open.length : Int)) = true then servOf Dist (medS Open Dist k) else 0
def i_MedianValue_C (f : FuncId) (ds : List D) : Orc := bif Nat.beq f 141 then i_isMedianCase_orc ds else bif Nat.beq f 143 then i_Field_median_orc ds else bif Nat.beq f 153 then i_Field_service_orc ds else .no
def i_MedianValue_A (Open : List Int) (Dist : List (List Int)) (k : Int) : Ann := .none
def i_MedianValue_P (Open : List Int) (Dist : List (List Int)) (k : Int) : Prop :=
  (PC Try.prog 141 [.agg [.sl (.ints Open), .sl (.rows Dist)], .int .i64 k] (.one (.d (.bool (goodField Open Dist && inB k 1 (Open.length : Int)))))) ∧ (((!(goodField Open Dist && inB k 1 (Open.length : Int))) = true → (((0 : Int) = (medV Open Dist k)) ∧ (false = (goodField Open Dist && inB k 1 (Open.length : Int))))) ∧ ((!(goodField Open Dist && inB k 1 (Open.length : Int))) = false → (true = true) ∧ (PC Try.prog 143 [.agg [.sl (.ints Open), .sl (.rows Dist)], .int .i64 k] (.one (.d (.sl (.ints (medS Open Dist k)))))) ∧ (PC Try.prog 153 [.agg [.sl (.ints Open), .sl (.rows Dist)], .sl (.ints (medS Open Dist k))] (.one (.d (.int .i64 (servOf Dist (medS Open Dist k)))))) ∧ (((servOf Dist (medS Open Dist k)) = (medV Open Dist k)) ∧ (true = (goodField Open Dist && inB k 1 (Open.length : Int))))))
theorem i_MedianValue_vc (Open : List Int) (Dist : List (List Int)) (k : Int)  (w_Open : (Open.length : Int) ≤ 9223372036854775807) (w_Dist : (Dist.length : Int) ≤ 9223372036854775807) (v_Dist : ∀ x9 ∈ Dist, (x9.length : Int) ≤ 9223372036854775807) : i_MedianValue_P Open Dist k := by
  unfold i_MedianValue_P
  refine ⟨i_isMedianCase_pc Open Dist k, ?_, ?_⟩
  ·intro b1
   try simp only [Bool.not_eq_true', Bool.not_eq_false', Bool.not_not] at b1
   refine ⟨?_, ?_⟩
   ·have hgk : (goodField Open Dist && inB k 1 (Open.length : Int)) = false := by simpa using b1
    unfold medV; rw [hgk]; rfl
   ·have hgk : (goodField Open Dist && inB k 1 (Open.length : Int)) = false := by simpa using b1
    exact hgk.symm
  ·intro b2
   try simp only [Bool.not_eq_true', Bool.not_eq_false', Bool.not_not] at b2
   refine ⟨rfl, ?_, ?_, ?_, ?_⟩
   ·refine i_Field_median_pc Open Dist k ?_ ?_
    ·have hgk : (goodField Open Dist && inB k 1 (Open.length : Int)) = true := by simpa using b2
     obtain ⟨hg, hk⟩ := (Bool.and_eq_true _ _ ▸ hgk : _ ∧ _)
     have hk2 := inB_le hk
     exact hg
    ·have hgk : (goodField Open Dist && inB k 1 (Open.length : Int)) = true := by simpa using b2
     obtain ⟨hg, hk⟩ := (Bool.and_eq_true _ _ ▸ hgk : _ ∧ _)
     have hk2 := inB_le hk
     exact hk2
   ·refine i_Field_service_pc Open Dist (medS Open Dist k) ?_
    ·have hgk : (goodField Open Dist && inB k 1 (Open.length : Int)) = true := by simpa using b2
     obtain ⟨hg, hk⟩ := (Bool.and_eq_true _ _ ▸ hgk : _ ∧ _)
     have hk2 := inB_le hk
     exact (set_two hg (medS_in hk2)).1
   ·have hgk : (goodField Open Dist && inB k 1 (Open.length : Int)) = true := by simpa using b2
    obtain ⟨hg, hk⟩ := (Bool.and_eq_true _ _ ▸ hgk : _ ∧ _)
    have hk2 := inB_le hk
    unfold medV; rw [if_pos hgk]
   ·have hgk : (goodField Open Dist && inB k 1 (Open.length : Int)) = true := by simpa using b2
    obtain ⟨hg, hk⟩ := (Bool.and_eq_true _ _ ▸ hgk : _ ∧ _)
    have hk2 := inB_le hk
    exact hgk.symm
theorem i_MedianValue_pc (Open : List Int) (Dist : List (List Int)) (k : Int)  : PC Try.prog 59 [.agg [.sl (.ints Open), .sl (.rows Dist)], .int .i64 k] (.tup [.d (.int .i64 (medV Open Dist k)), .d (.bool (goodField Open Dist && inB k 1 (Open.length : Int)))]) :=
  pc_wf @Try.call59 fun hw => pc_by (by kernel_rfl) Try.func59 @Try.call59 (by kernel_rfl) i_MedianValue_C (i_MedianValue_A Open Dist k) (by kernel_rfl) (i_MedianValue_vc Open Dist k hw.1.1 hw.1.2.1.1 hw.1.2.1.2) (by kernel_rfl)
def i_MedianValue_orc : List D → Orc := orcN [none, none] fun ds => match ds with
  | [.agg [.sl (.ints Open), .sl (.rows Dist)], .int .i64 k] => some (.tup [.d (.int .i64 (medV Open Dist k)), .d (.bool (goodField Open Dist && inB k 1 (Open.length : Int)))])
  | _ => none
def valsL (Open : List Int) (Dist : List (List Int)) (n : Nat) : List Int := tabTo (fun j => servOf Dist (medS Open Dist ((j : Int) + 1))) n
theorem valsL_len (Open : List Int) (Dist : List (List Int)) (n : Nat) : (valsL Open Dist n).length = n := tabTo_len _ _
theorem medS_two {Open : List Int} {Dist : List (List Int)} (hg : goodField Open Dist = true) {k : Int} (hk : 1 ≤ k ∧ k ≤ (Open.length : Int)) : (goodField Open Dist && rising (medS Open Dist k) 0 ((Open.length : Int) - 1) && decide (0 < (medS Open Dist k).length)) = true := (set_two hg (medS_in hk)).1
theorem valsL_in {Open : List Int} {Dist : List (List Int)} (hg : goodField Open Dist = true) : ∀ x ∈ valsL Open Dist Open.length, 0 ≤ x ∧ x ≤ 693 := by
  intro x hx
  obtain ⟨j, hj, rfl⟩ := List.mem_map.1 hx
  have hj := List.mem_range.1 hj
  exact servOf_in (medS_two hg (by omega))
def stepsL (Open : List Int) (Dist : List (List Int)) : List Int := if goodField Open Dist = true then valsL Open Dist Open.length else []
theorem stepsL_len {Open : List Int} {Dist : List (List Int)} : (stepsL Open Dist).length ≤ 7 := by
  unfold stepsL
  split
  · rename_i h
    have := gf_open h
    rw [valsL_len]; omega
  · simp
def mnTo (f : Nat → Int) (n : Nat) : Int := foldTo (fun b i => min b (f i)) (f 0) n
theorem mnTo_succ (f : Nat → Int) (n : Nat) : mnTo f (n + 1) = min (mnTo f n) (f n) := rfl
theorem mnTo_one (f : Nat → Int) : mnTo f 1 = f 0 := by
  show min (f 0) (f 0) = f 0
  omega
theorem mnTo_le (f : Nat → Int) : ∀ n, 0 < n → (∀ j, j < n → mnTo f n ≤ f j) ∧ ∃ j, j < n ∧ mnTo f n = f j
  | 0, h => by omega
  | k + 1, _ => by
    rw [mnTo_succ]
    by_cases hk : 0 < k
    · obtain ⟨h1, j, h2, h3⟩ := mnTo_le f k hk
      refine ⟨fun i hi => ?_, ?_⟩
      · by_cases e : i = k
        · subst e; omega
        · have := h1 i (by omega); omega
      · by_cases e : mnTo f k ≤ f k
        · exact ⟨j, by omega, by omega⟩
        · exact ⟨k, by omega, by omega⟩
    · have : k = 0 := by omega
      subst this
      have e : mnTo f 0 = f 0 := rfl
      refine ⟨fun i hi => ?_, 0, by omega, by omega⟩
      have : i = 0 := by omega
      subst this; omega
theorem mulB {p q m n : Int} (hp : 0 ≤ p ∧ p ≤ m) (hq : 0 ≤ q ∧ q ≤ n) : 0 ≤ p * q ∧ p * q ≤ m * n :=
  ⟨Int.mul_nonneg hp.1 hq.1, Int.mul_le_mul hp.2 hq.2 hq.1 (by omega)⟩
def prF (values : List Int) (price : Int) (i : Nat) : Int := values.getD i 0 + price * ((i : Int) + 1)
def prcd (values : List Int) (k price : Int) : Int := mnTo (prF values price) values.length - price * k
def bnF (Dist S : List (List Int)) (price : Int) (i : Nat) : Int := servOf Dist (S.getD i []) + price * ((S.getD i []).length : Int)
theorem leastL_le {v : List Int → Int} {l : List (List Int)} : ∀ x ∈ l, v (leastL v l) ≤ v x := by
  have key : ∀ (r : List (List Int)) (b : List Int), v (r.foldl (lsB v) b) ≤ v b ∧ ∀ x ∈ r, v (r.foldl (lsB v) b) ≤ v x := by
    intro r
    induction r with
    | nil => intro b; exact ⟨Int.le_refl _, fun x hx => by cases hx⟩
    | cons y r ih =>
      intro b
      obtain ⟨h1, h2⟩ := ih (lsB v b y)
      have h3 : v (lsB v b y) ≤ v b ∧ v (lsB v b y) ≤ v y := by
        unfold lsB
        split <;> omega
      refine ⟨Int.le_trans h1 h3.1, fun x hx => ?_⟩
      rcases List.mem_cons.1 hx with rfl | hx
      · exact Int.le_trans h1 h3.2
      · exact h2 x hx
  exact fun x hx => (key l _).2 x hx
theorem medS_len {Open : List Int} {Dist : List (List Int)} {k : Int} (hk : 1 ≤ k ∧ k ≤ (Open.length : Int)) : ((medS Open Dist k).length : Int) = k := by
  have h := (List.mem_filter.1 (leastL_mem (v := servOf Dist) (med_pos hk))).2
  have h : (!(decide (((medS Open Dist k).length : Int) ≠ k))) = true := h
  simpa using h
theorem bound_eq {Open : List Int} {Dist : List (List Int)} (hg : goodField Open Dist = true) {price : Int} : mnTo (bnF Dist (setsL (Open.length : Int).toNat) price) (setsL (Open.length : Int).toNat).length = mnTo (prF (valsL Open Dist Open.length) price) Open.length := by
  obtain ⟨g1, g2, g3⟩ := gf_open hg
  have sb := sets_big (n := (Open.length : Int).toNat) (by omega)
  obtain ⟨a1, i, a2, a3⟩ := mnTo_le (bnF Dist (setsL (Open.length : Int).toNat) price) _ sb
  obtain ⟨b1, j, b2, b3⟩ := mnTo_le (prF (valsL Open Dist Open.length) price) Open.length (by omega)
  have hv : ∀ j, j < Open.length → (valsL Open Dist Open.length).getD j 0 = servOf Dist (medS Open Dist ((j : Int) + 1)) := fun j hj => tabTo_get hj
  refine Int.le_antisymm ?_ ?_
  · rw [b3]
    obtain ⟨q, hq, e⟩ := List.mem_iff_getElem.1 (medS_in (Open := Open) (Dist := Dist) (k := (j : Int) + 1) (by omega))
    refine Int.le_trans (a1 q hq) (Int.le_of_eq ?_)
    unfold bnF prF
    rw [getD_get hq, e, hv j b2, medS_len (by omega)]
  · rw [a3]
    have hs := getD_mem (d := []) a2
    have ht := set_two hg hs
    obtain ⟨_, hsr, hpos⟩ := two_facts ht.1
    obtain ⟨c, c1, c2, c3⟩ := setsL_mem.1 hs
    have hl := lst_len (n := (Open.length : Int).toNat) (code := c)
    rw [c3] at hl
    have hlk := b1 (((setsL (Open.length : Int).toNat).getD i []).length - 1) (by omega)
    refine Int.le_trans hlk ?_
    unfold bnF prF
    rw [hv _ (by omega)]
    have e : ((((setsL (Open.length : Int).toNat).getD i []).length - 1 : Nat) : Int) + 1 = (((setsL (Open.length : Int).toNat).getD i []).length : Int) := by omega
    rw [e]
    have := leastL_le (v := servOf Dist) (l := (setsL (Open.length : Int).toNat).filter fun x9 => !(decide ((x9.length : Int) ≠ (((setsL (Open.length : Int).toNat).getD i []).length : Int)))) ((setsL (Open.length : Int).toNat).getD i []) (List.mem_filter.2 ⟨hs, by simp⟩)
    unfold medS
    omega
def pbL (Open : List Int) (Dist : List (List Int)) (k price : Int) : Int := if ((goodField Open Dist && inB k 1 (Open.length : Int)) && inB price 0 999) = true then prcd (valsL Open Dist Open.length) k price else 0
def bpF (V : List Int) (k : Int) (b : Int) (p : Nat) : Int := if prcd V k (p : Int) > prcd V k b then (p : Int) else b
def bpTo (V : List Int) (k : Int) (m : Nat) : Int := foldTo (bpF V k) 0 m
theorem bpTo_succ (V : List Int) (k : Int) (m : Nat) : bpTo V k (m + 1) = bpF V k (bpTo V k m) m := rfl
theorem bpTo_one (V : List Int) (k : Int) : bpTo V k 1 = 0 := by
  show bpF V k 0 0 = 0
  unfold bpF; split <;> rfl
def bpA (Open : List Int) (Dist : List (List Int)) (k : Int) : Int := if (goodField Open Dist && inB k 1 (Open.length : Int)) = true then bpTo (valsL Open Dist Open.length) k 1000 else 0
def bpB (Open : List Int) (Dist : List (List Int)) (k : Int) : Int := if (goodField Open Dist && inB k 1 (Open.length : Int)) = true then prcd (valsL Open Dist Open.length) k (bpTo (valsL Open Dist Open.length) k 1000) else 0
abbrev i_Field_values_JJ0 (Open : List Int) (Dist : List (List Int)) (out : List Int) (i : Int) : Prop := (0 ≤ i) ∧ (i ≤ (Open.length : Int)) ∧ (out = valsL Open Dist i.toNat)
abbrev i_Field_values_mJ0 (Open : List Int) (Dist : List (List Int)) (out : List Int) (i : Int) : Nat := (Open.length - i).toNat
def i_Field_values_C (f : FuncId) (ds : List D) : Orc := bif Nat.beq f 143 then i_Field_median_orc ds else bif Nat.beq f 153 then i_Field_service_orc ds else .no
def i_Field_values_A (Open : List Int) (Dist : List (List Int)) : Ann := .two (.none) (.two (.none) (.two (.two (.none) (.loop (cut2 (fun (out : List Int) (i : Int) => i_Field_values_JJ0 Open Dist out i) (fun (out : List Int) (i : Int) => [(1, .ptr 1 0), (3, .own 1000000 out.length), (8, .d true (.int .i64 (Open.length : Int))), (9, .d true (.int .i64 i))]) (fun (out : List Int) (i : Int) => [(1000000, .arr true 3 (.ints out)), (1, .box 39 [.d false (.sl (.ints Open)), .d false (.sl (.rows Dist))])])) (fun g => i_Field_values_mJ0 Open Dist g.1 g.2) (fun _ => .none))) (.none)))
def i_Field_values_P (Open : List Int) (Dist : List (List Int)) : Prop :=
  ((∃ out' : List Int, ∃ i' : Int, (i_Field_values_JJ0 Open Dist out' i') ∧ ((0 : Nat) = out'.length) ∧ ((Open.length : Int) = (Open.length : Int)) ∧ ((0 : Int) = i') ∧ ([] = out') ∧ (Open = Open) ∧ (Dist = Dist)) ∧ (∀ out : List Int, ∀ i : Int, (i_Field_values_JJ0 Open Dist out i) → (((decide (i < (Open.length : Int))) = true → (true = true) ∧ (-9223372036854775808 ≤ (i + 1) ∧ (i + 1) ≤ 9223372036854775807) ∧ (PC Try.prog 143 [.agg [.sl (.ints Open), .sl (.rows Dist)], .int .i64 (i + 1)] (.one (.d (.sl (.ints (medS Open Dist (i + 1))))))) ∧ (PC Try.prog 153 [.agg [.sl (.ints Open), .sl (.rows Dist)], .sl (.ints (medS Open Dist (i + 1)))] (.one (.d (.int .i64 (servOf Dist (medS Open Dist (i + 1))))))) ∧ (out.length = out.length) ∧ ((1 : Nat) = 1) ∧ ((out.length + 1) * 8 ≤ 140737488355328) ∧ (-9223372036854775808 ≤ (i + 1) ∧ (i + 1) ≤ 9223372036854775807) ∧ (∃ out' : List Int, ∃ i' : Int, (i_Field_values_JJ0 Open Dist out' i') ∧ (i_Field_values_mJ0 Open Dist out' i' < i_Field_values_mJ0 Open Dist out i) ∧ ((out.length + 1) = out'.length) ∧ ((Open.length : Int) = (Open.length : Int)) ∧ ((i + 1) = i') ∧ ((out ++ [(servOf Dist (medS Open Dist (i + 1)))]) = out') ∧ (Open = Open) ∧ (Dist = Dist))) ∧ ((decide (i < (Open.length : Int))) = false → ((out.length = out.length) ∧ ((out : List Int) = valsL Open Dist Open.length))))))
theorem i_Field_values_vc (Open : List Int) (Dist : List (List Int)) (hg : goodField Open Dist = true) (w_Open : (Open.length : Int) ≤ 9223372036854775807) (w_Dist : (Dist.length : Int) ≤ 9223372036854775807) (v_Dist : ∀ x9 ∈ Dist, (x9.length : Int) ≤ 9223372036854775807) : i_Field_values_P Open Dist := by
  unfold i_Field_values_P
  obtain ⟨g1, g2, g3⟩ := gf_open hg
  refine ⟨?_, ?_⟩
  ·refine ⟨([]), 0, ?_⟩
   refine ⟨?_, rfl, rfl, rfl, ?_, rfl, rfl⟩
   ·refine ⟨?_, ?_, ?_⟩
    ·omega
    ·omega
    ·rfl
   ·rfl
  ·intro out i hJ
   obtain ⟨h1, h2, h3⟩ := hJ
   refine ⟨?_, ?_⟩
   ·intro b1
    try simp only [nrmT] at b1
    refine ⟨rfl, ?_, ?_, ?_, rfl, rfl, ?_, ?_, ?_⟩
    ·omega
    ·refine i_Field_median_pc Open Dist (i + 1) ?_ ?_
     ·omega
     ·omega
    ·refine i_Field_service_pc Open Dist (medS Open Dist (i + 1)) ?_
     ·exact medS_two hg (by omega)
    ·rw [h3, valsL_len]; omega
    ·omega
    ·refine ⟨(out ++ [(servOf Dist (medS Open Dist (i + 1)))]), (i + 1), ?_⟩
     refine ⟨?_, ?_, ?_, rfl, rfl, rfl, rfl, rfl⟩
     ·refine ⟨?_, ?_, ?_⟩
      ·omega
      ·omega
      ·rw [h3, show (i + 1).toNat = i.toNat + 1 by omega]
       unfold valsL
       rw [tabTo_succ, show ((i.toNat : Nat) : Int) + 1 = i + 1 by omega]
     ·first | (show _ < _; omega) | (simp only [i_Field_values_mJ0]; omega) | (simp only [i_Field_values_mJ0] at *; simp at *; omega)
     ·(simp_all; done)
   ·intro b2
    try simp only [nrmT] at b2
    refine ⟨rfl, ?_⟩
    ·rw [h3, show i.toNat = Open.length by omega]
theorem i_Field_values_pc (Open : List Int) (Dist : List (List Int)) (hg : goodField Open Dist = true) : PC Try.prog 157 [.agg [.sl (.ints Open), .sl (.rows Dist)]] (.one (.own 3 (.ints (valsL Open Dist Open.length)))) :=
  pc_wf @Try.call157 fun hw => pc_by (by kernel_rfl) Try.func157 @Try.call157 (by kernel_rfl) i_Field_values_C (i_Field_values_A Open Dist) (by kernel_rfl) (i_Field_values_vc Open Dist hg hw.1.1 hw.1.2.1.1 hw.1.2.1.2) (by kernel_rfl)
def i_Field_values_orc : List D → Orc := orcN [none] fun ds => match ds with
  | [.agg [.sl (.ints Open), .sl (.rows Dist)]] => some (.one (.own 3 (.ints (valsL Open Dist Open.length))))
  | _ => none
abbrev s_l4Values_JJ0 (Open : List Int) (Dist : List (List Int)) (out : List Int) (k : Int) : Prop := (1 ≤ k) ∧ (k ≤ (Open.length : Int) + 1) ∧ (out = valsL Open Dist (k.toNat - 1))
abbrev s_l4Values_mJ0 (Open : List Int) (Dist : List (List Int)) (out : List Int) (k : Int) : Nat := (Open.length + 1 - k).toNat
def s_l4Values_C (f : FuncId) (ds : List D) : Orc := bif Nat.beq f 140 then s_l4Best_orc ds else bif Nat.beq f 162 then s_l2Serve_orc ds else .no
def s_l4Values_A (Open : List Int) (Dist : List (List Int)) : Ann := .two (.none) (.two (.none) (.two (.two (.none) (.loop (cut2 (fun (out : List Int) (k : Int) => s_l4Values_JJ0 Open Dist out k) (fun (out : List Int) (k : Int) => [(1, .ptr 1 0), (3, .own 1000000 out.length), (4, .d true (.int .i64 k))]) (fun (out : List Int) (k : Int) => [(1000000, .arr true 3 (.ints out)), (1, .box 39 [.d false (.sl (.ints Open)), .d false (.sl (.rows Dist))])])) (fun g => s_l4Values_mJ0 Open Dist g.1 g.2) (fun _ => .none))) (.none)))
def s_l4Values_P (Open : List Int) (Dist : List (List Int)) : Prop :=
  ((∃ out' : List Int, ∃ k' : Int, (s_l4Values_JJ0 Open Dist out' k') ∧ ((0 : Nat) = out'.length) ∧ ((1 : Int) = k') ∧ ([] = out') ∧ (Open = Open) ∧ (Dist = Dist)) ∧ (∀ out : List Int, ∀ k : Int, (s_l4Values_JJ0 Open Dist out k) → (((decide (k ≤ (Open.length : Int))) = true → (true = true) ∧ (PC Try.prog 140 [.agg [.sl (.ints Open), .sl (.rows Dist)], .int .i64 k] (.one (.d (.sl (.ints (medS Open Dist k)))))) ∧ (PC Try.prog 162 [.agg [.sl (.ints Open), .sl (.rows Dist)], .sl (.ints (medS Open Dist k))] (.one (.d (.int .i64 (servOf Dist (medS Open Dist k)))))) ∧ (out.length = out.length) ∧ ((1 : Nat) = 1) ∧ ((out.length + 1) * 8 ≤ 140737488355328) ∧ (-9223372036854775808 ≤ (k + 1) ∧ (k + 1) ≤ 9223372036854775807) ∧ (∃ out' : List Int, ∃ k' : Int, (s_l4Values_JJ0 Open Dist out' k') ∧ (s_l4Values_mJ0 Open Dist out' k' < s_l4Values_mJ0 Open Dist out k) ∧ ((out.length + 1) = out'.length) ∧ ((k + 1) = k') ∧ ((out ++ [(servOf Dist (medS Open Dist k))]) = out') ∧ (Open = Open) ∧ (Dist = Dist))) ∧ ((decide (k ≤ (Open.length : Int))) = false → ((out.length = out.length) ∧ ((out : List Int) = valsL Open Dist Open.length))))))
theorem s_l4Values_vc (Open : List Int) (Dist : List (List Int)) (hg : goodField Open Dist = true) (w_Open : (Open.length : Int) ≤ 9223372036854775807) (w_Dist : (Dist.length : Int) ≤ 9223372036854775807) (v_Dist : ∀ x9 ∈ Dist, (x9.length : Int) ≤ 9223372036854775807) : s_l4Values_P Open Dist := by
  unfold s_l4Values_P
  obtain ⟨g1, g2, g3⟩ := gf_open hg
  refine ⟨?_, ?_⟩
  ·refine ⟨([]), 1, ?_⟩
   refine ⟨?_, rfl, rfl, ?_, rfl, rfl⟩
   ·refine ⟨?_, ?_, ?_⟩
    ·omega
    ·omega
    ·rfl
   ·rfl
  ·intro out k hJ
   obtain ⟨h1, h2, h3⟩ := hJ
   refine ⟨?_, ?_⟩
   ·intro b1
    try simp only [nrmT] at b1
    refine ⟨rfl, ?_, ?_, rfl, rfl, ?_, ?_, ?_⟩
    ·refine s_l4Best_pc Open Dist k ?_ ?_
     ·omega
     ·omega
    ·refine s_l2Serve_pc Open Dist (medS Open Dist k) ?_
     ·exact medS_two hg (by omega)
    ·rw [h3, valsL_len]; omega
    ·omega
    ·refine ⟨(out ++ [(servOf Dist (medS Open Dist k))]), (k + 1), ?_⟩
     refine ⟨?_, ?_, ?_, rfl, rfl, rfl, rfl⟩
     ·refine ⟨?_, ?_, ?_⟩
      ·omega
      ·omega
      ·rw [h3, show (k + 1).toNat - 1 = (k.toNat - 1) + 1 by omega]
       unfold valsL
       rw [tabTo_succ, show ((k.toNat - 1 : Nat) : Int) + 1 = k by omega]
     ·first | (show _ < _; omega) | (simp only [s_l4Values_mJ0]; omega) | (simp only [s_l4Values_mJ0] at *; simp at *; omega)
     ·(simp_all; done)
   ·intro b2
    try simp only [nrmT] at b2
    refine ⟨rfl, ?_⟩
    ·rw [h3, show k.toNat - 1 = Open.length by omega]
theorem s_l4Values_pc (Open : List Int) (Dist : List (List Int)) (hg : goodField Open Dist = true) : PC Try.prog 160 [.agg [.sl (.ints Open), .sl (.rows Dist)]] (.one (.own 3 (.ints (valsL Open Dist Open.length)))) :=
  pc_wf @Try.call160 fun hw => pc_by (by kernel_rfl) Try.func160 @Try.call160 (by kernel_rfl) s_l4Values_C (s_l4Values_A Open Dist) (by kernel_rfl) (s_l4Values_vc Open Dist hg hw.1.1 hw.1.2.1.1 hw.1.2.1.2) (by kernel_rfl)
def s_l4Values_orc : List D → Orc := orcN [none] fun ds => match ds with
  | [.agg [.sl (.ints Open), .sl (.rows Dist)]] => some (.one (.own 3 (.ints (valsL Open Dist Open.length))))
  | _ => none
def s_MedianSteps_C (f : FuncId) (ds : List D) : Orc := bif Nat.beq f 115 then s_l2Good_orc ds else bif Nat.beq f 160 then s_l4Values_orc ds else .no
def s_MedianSteps_A (Open : List Int) (Dist : List (List Int)) : Ann := .none
def s_MedianSteps_P (Open : List Int) (Dist : List (List Int)) : Prop :=
  (PC Try.prog 115 [.agg [.sl (.ints Open), .sl (.rows Dist)]] (.one (.d (.bool (goodField Open Dist))))) ∧ (((!(goodField Open Dist)) = true → (((0 : Nat) = 0) ∧ (([] : List Int) = stepsL Open Dist) ∧ (false = (goodField Open Dist)))) ∧ ((!(goodField Open Dist)) = false → (PC Try.prog 160 [.agg [.sl (.ints Open), .sl (.rows Dist)]] (.one (.own 3 (.ints (valsL Open Dist Open.length))))) ∧ (((valsL Open Dist Open.length).length = (valsL Open Dist Open.length).length) ∧ ((valsL Open Dist Open.length : List Int) = stepsL Open Dist) ∧ (true = (goodField Open Dist)))))
theorem s_MedianSteps_vc (Open : List Int) (Dist : List (List Int))  (w_Open : (Open.length : Int) ≤ 9223372036854775807) (w_Dist : (Dist.length : Int) ≤ 9223372036854775807) (v_Dist : ∀ x9 ∈ Dist, (x9.length : Int) ≤ 9223372036854775807) : s_MedianSteps_P Open Dist := by
  unfold s_MedianSteps_P
  refine ⟨s_l2Good_pc Open Dist, ?_, ?_⟩
  ·intro b1
   try simp only [nrmT] at b1
   refine ⟨rfl, ?_, ?_⟩
   ·unfold stepsL; rw [b1]; rfl
   ·exact b1.symm
  ·intro b2
   try simp only [nrmT] at b2
   refine ⟨?_, rfl, ?_, ?_⟩
   ·refine s_l4Values_pc Open Dist ?_
    ·exact b2
   ·unfold stepsL; rw [if_pos b2]
   ·exact b2.symm
theorem s_MedianSteps_pc (Open : List Int) (Dist : List (List Int))  : PC Try.prog 67 [.agg [.sl (.ints Open), .sl (.rows Dist)]] (.tup [.own 3 (.ints (stepsL Open Dist)), .d (.bool (goodField Open Dist))]) :=
  pc_wf @Try.call67 fun hw => pc_by (by kernel_rfl) Try.func67 @Try.call67 (by kernel_rfl) s_MedianSteps_C (s_MedianSteps_A Open Dist) (by kernel_rfl) (s_MedianSteps_vc Open Dist hw.1.1 hw.1.2.1.1 hw.1.2.1.2) (by kernel_rfl)
def s_MedianSteps_orc : List D → Orc := orcN [none] fun ds => match ds with
  | [.agg [.sl (.ints Open), .sl (.rows Dist)]] => some (.tup [.own 3 (.ints (stepsL Open Dist)), .d (.bool (goodField Open Dist))])
  | _ => none
def i_MedianSteps_C (f : FuncId) (ds : List D) : Orc := bif Nat.beq f 119 then i_IsField_orc ds else bif Nat.beq f 157 then i_Field_values_orc ds else .no
def i_MedianSteps_A (Open : List Int) (Dist : List (List Int)) : Ann := .none
def i_MedianSteps_P (Open : List Int) (Dist : List (List Int)) : Prop :=
  (PC Try.prog 119 [.agg [.sl (.ints Open), .sl (.rows Dist)]] (.one (.d (.bool (goodField Open Dist))))) ∧ (((!(goodField Open Dist)) = true → (((stepsL Open Dist).length = 0) ∧ (false = (goodField Open Dist)))) ∧ ((!(goodField Open Dist)) = false → (PC Try.prog 157 [.agg [.sl (.ints Open), .sl (.rows Dist)]] (.one (.own 3 (.ints (valsL Open Dist Open.length))))) ∧ (((valsL Open Dist Open.length).length = (valsL Open Dist Open.length).length) ∧ ((valsL Open Dist Open.length : List Int) = stepsL Open Dist) ∧ (true = (goodField Open Dist)))))
theorem i_MedianSteps_vc (Open : List Int) (Dist : List (List Int))  (w_Open : (Open.length : Int) ≤ 9223372036854775807) (w_Dist : (Dist.length : Int) ≤ 9223372036854775807) (v_Dist : ∀ x9 ∈ Dist, (x9.length : Int) ≤ 9223372036854775807) : i_MedianSteps_P Open Dist := by
  unfold i_MedianSteps_P
  refine ⟨i_IsField_pc Open Dist, ?_, ?_⟩
  ·intro b1
   try simp only [nrmT] at b1
   refine ⟨?_, ?_⟩
   ·unfold stepsL; rw [b1]; rfl
   ·exact b1.symm
  ·intro b2
   try simp only [nrmT] at b2
   refine ⟨?_, rfl, ?_, ?_⟩
   ·refine i_Field_values_pc Open Dist ?_
    ·exact b2
   ·unfold stepsL; rw [if_pos b2]
   ·exact b2.symm
theorem i_MedianSteps_pc (Open : List Int) (Dist : List (List Int))  : PC Try.prog 66 [.agg [.sl (.ints Open), .sl (.rows Dist)]] (.tup [.own 3 (.ints (stepsL Open Dist)), .d (.bool (goodField Open Dist))]) :=
  pc_wf @Try.call66 fun hw => pc_by (by kernel_rfl) Try.func66 @Try.call66 (by kernel_rfl) i_MedianSteps_C (i_MedianSteps_A Open Dist) (by kernel_rfl) (i_MedianSteps_vc Open Dist hw.1.1 hw.1.2.1.1 hw.1.2.1.2) (by kernel_rfl)
def i_MedianSteps_orc : List D → Orc := orcN [none] fun ds => match ds with
  | [.agg [.sl (.ints Open), .sl (.rows Dist)]] => some (.tup [.own 3 (.ints (stepsL Open Dist)), .d (.bool (goodField Open Dist))])
  | _ => none
abbrev s_l4Priced_JJ0 (values : List Int) (k : Int) (price : Int) (best : Int) (i : Int) : Prop := (1 ≤ i) ∧ (i ≤ (values.length : Int)) ∧ (best = mnTo (prF values price) i.toNat) ∧ (0 ≤ best ∧ best ≤ 1692)
abbrev s_l4Priced_mJ0 (values : List Int) (k : Int) (price : Int) (best : Int) (i : Int) : Nat := (values.length - i).toNat
def s_l4Priced_C (f : FuncId) (ds : List D) : Orc := bif Nat.beq f 165 then s_l1Least_orc ds else .no
def s_l4Priced_A (values : List Int) (k : Int) (price : Int) : Ann := .two (.none) (.two (.none) (.two (.two (.none) (.loop (cut2 (fun (best : Int) (i : Int) => s_l4Priced_JJ0 values k price best i) (fun (best : Int) (i : Int) => [(0, .d false (.sl (.ints values))), (1, .d false (.int .i64 k)), (2, .d false (.int .i64 price)), (7, .d true (.int .i64 best)), (8, .d true (.int .i64 i))]) (fun (best : Int) (i : Int) => [])) (fun g => s_l4Priced_mJ0 values k price g.1 g.2) (fun _ => .none))) (.none)))
def s_l4Priced_P (values : List Int) (k : Int) (price : Int) : Prop :=
  ((0 : Int) ≤ 0) ∧ ((0 : Int) < values.length) ∧ (0 < values.length) ∧ (-9223372036854775808 ≤ ((values.getD 0 0) + price) ∧ ((values.getD 0 0) + price) ≤ 9223372036854775807) ∧ ((∃ best' : Int, ∃ i' : Int, (s_l4Priced_JJ0 values k price best' i') ∧ (values = values) ∧ (k = k) ∧ (price = price) ∧ (((values.getD 0 0) + price) = best') ∧ ((1 : Int) = i')) ∧ (∀ best : Int, ∀ i : Int, (s_l4Priced_JJ0 values k price best i) → (((decide (i < (values.length : Int))) = true → ((0 : Int) ≤ i) ∧ ((i : Int) < values.length) ∧ (i.toNat < values.length) ∧ (-9223372036854775808 ≤ (i + 1) ∧ (i + 1) ≤ 9223372036854775807) ∧ (-9223372036854775808 ≤ (price * (i + 1)) ∧ (price * (i + 1)) ≤ 9223372036854775807) ∧ (-9223372036854775808 ≤ ((values.getD i.toNat 0) + (price * (i + 1))) ∧ ((values.getD i.toNat 0) + (price * (i + 1))) ≤ 9223372036854775807) ∧ (PC Try.prog 165 [.int .i64 best, .int .i64 ((values.getD i.toNat 0) + (price * (i + 1)))] (.one (.d (.int .i64 (min best ((values.getD i.toNat 0) + (price * (i + 1)))))))) ∧ (-9223372036854775808 ≤ (i + 1) ∧ (i + 1) ≤ 9223372036854775807) ∧ (∃ best' : Int, ∃ i' : Int, (s_l4Priced_JJ0 values k price best' i') ∧ (s_l4Priced_mJ0 values k price best' i' < s_l4Priced_mJ0 values k price best i) ∧ (values = values) ∧ (k = k) ∧ (price = price) ∧ ((min best ((values.getD i.toNat 0) + (price * (i + 1)))) = best') ∧ ((i + 1) = i'))) ∧ ((decide (i < (values.length : Int))) = false → (-9223372036854775808 ≤ (price * k) ∧ (price * k) ≤ 9223372036854775807) ∧ (-9223372036854775808 ≤ (best - (price * k)) ∧ (best - (price * k)) ≤ 9223372036854775807) ∧ (((best - (price * k)) = (prcd values k price)))))))
theorem s_l4Priced_vc (values : List Int) (k : Int) (price : Int) (hv : ∀ x ∈ values, 0 ≤ x ∧ x ≤ 693) (hl : 0 < values.length ∧ values.length ≤ 7) (hk : 0 ≤ k ∧ k ≤ 7) (hp : 0 ≤ price ∧ price ≤ 999) (w_values : (values.length : Int) ≤ 9223372036854775807) : s_l4Priced_P values k price := by
  unfold s_l4Priced_P
  refine ⟨?_, ?_, ?_, ?_, ?_, ?_⟩
  ·omega
  ·omega
  ·omega
  ·have v0 := hv _ (getD_mem (d := 0) hl.1)
   omega
  ·refine ⟨((values.getD 0 0) + price), 1, ?_⟩
   refine ⟨?_, rfl, rfl, rfl, rfl, rfl⟩
   ·refine ⟨?_, ?_, ?_, ?_⟩
    ·omega
    ·omega
    ·first | (rw [show (1 : Int).toNat = 1 from rfl, mnTo_one]; unfold prF; omega) | (show _ = prF values price 0; unfold prF; omega)
    ·have v0 := hv _ (getD_mem (d := 0) hl.1)
     omega
  ·intro best i hJ
   obtain ⟨h1, h2, h3, h4⟩ := hJ
   refine ⟨?_, ?_⟩
   ·intro b1
    try simp only [nrmT] at b1
    refine ⟨?_, ?_, ?_, ?_, ?_, ?_, s_l1Least_pc best ((values.getD i.toNat 0) + (price * (i + 1))), ?_, ?_⟩
    ·omega
    ·omega
    ·omega
    ·omega
    ·have v1 := hv _ (getD_mem (d := 0) (show i.toNat < values.length by omega))
     have v2 := mulB hp (q := i + 1) (n := 7) (by omega)
     omega
    ·have v1 := hv _ (getD_mem (d := 0) (show i.toNat < values.length by omega))
     have v2 := mulB hp (q := i + 1) (n := 7) (by omega)
     omega
    ·omega
    ·refine ⟨(min best ((values.getD i.toNat 0) + (price * (i + 1)))), (i + 1), ?_⟩
     refine ⟨?_, ?_, rfl, rfl, rfl, rfl, rfl⟩
     ·refine ⟨?_, ?_, ?_, ?_⟩
      ·omega
      ·omega
      ·rw [show (i + 1).toNat = i.toNat + 1 by omega, mnTo_succ, ← h3]
       unfold prF
       rw [show ((i.toNat : Nat) : Int) + 1 = i + 1 by omega]
      ·have v1 := hv _ (getD_mem (d := 0) (show i.toNat < values.length by omega))
       have v2 := mulB hp (q := i + 1) (n := 7) (by omega)
       omega
     ·first | (show _ < _; omega) | (simp only [s_l4Priced_mJ0]; omega) | (simp only [s_l4Priced_mJ0] at *; simp at *; omega)
   ·intro b2
    try simp only [nrmT] at b2
    refine ⟨?_, ?_, ?_⟩
    ·have v3 := mulB hp (q := k) (n := 7) hk
     omega
    ·have v3 := mulB hp (q := k) (n := 7) hk
     omega
    ·rw [h3, show i.toNat = values.length by omega]; rfl
theorem s_l4Priced_pc (values : List Int) (k : Int) (price : Int) (hv : ∀ x ∈ values, 0 ≤ x ∧ x ≤ 693) (hl : 0 < values.length ∧ values.length ≤ 7) (hk : 0 ≤ k ∧ k ≤ 7) (hp : 0 ≤ price ∧ price ≤ 999) : PC Try.prog 161 [.sl (.ints values), .int .i64 k, .int .i64 price] (.one (.d (.int .i64 (prcd values k price)))) :=
  pc_wf @Try.call161 fun hw => pc_by (by kernel_rfl) Try.func161 @Try.call161 (by kernel_rfl) s_l4Priced_C (s_l4Priced_A values k price) (by kernel_rfl) (s_l4Priced_vc values k price hv hl hk hp hw.1) (by kernel_rfl)
def s_l4Priced_orc : List D → Orc := orcN [some .ints, none, none] fun ds => match ds with
  | [.sl (.ints values), .int .i64 k, .int .i64 price] => some (.one (.d (.int .i64 (prcd values k price))))
  | _ => none
abbrev i_priceBound_JJ0 (values : List Int) (k : Int) (price : Int) (best : Int) (i : Int) : Prop := (0 ≤ i) ∧ (i ≤ (values.length : Int)) ∧ (best = mnTo (prF values price) i.toNat) ∧ (0 ≤ best ∧ best ≤ 1692)
abbrev i_priceBound_mJ0 (values : List Int) (k : Int) (price : Int) (best : Int) (i : Int) : Nat := (values.length - i).toNat
def i_priceBound_C (f : FuncId) (ds : List D) : Orc := .no
def i_priceBound_A (values : List Int) (k : Int) (price : Int) : Ann := .two (.none) (.two (.none) (.two (.two (.none) (.loop (cut2 (fun (best : Int) (i : Int) => i_priceBound_JJ0 values k price best i) (fun (best : Int) (i : Int) => [(1, .d false (.int .i64 k)), (2, .d false (.int .i64 price)), (7, .d true (.int .i64 best)), (15, .d false (.sl (.ints values))), (16, .d true (.int .i64 (values.length : Int))), (17, .d true (.int .i64 i))]) (fun (best : Int) (i : Int) => [])) (fun g => i_priceBound_mJ0 values k price g.1 g.2) (fun _ => .none))) (.none)))
def i_priceBound_P (values : List Int) (k : Int) (price : Int) : Prop :=
  ((0 : Int) ≤ 0) ∧ ((0 : Int) < values.length) ∧ (0 < values.length) ∧ (-9223372036854775808 ≤ ((values.getD 0 0) + price) ∧ ((values.getD 0 0) + price) ≤ 9223372036854775807) ∧ ((∃ best' : Int, ∃ i' : Int, (i_priceBound_JJ0 values k price best' i') ∧ (k = k) ∧ (price = price) ∧ (((values.getD 0 0) + price) = best') ∧ (values = values) ∧ ((values.length : Int) = (values.length : Int)) ∧ ((0 : Int) = i')) ∧ (∀ best : Int, ∀ i : Int, (i_priceBound_JJ0 values k price best i) → (((decide (i < (values.length : Int))) = true → ((0 : Int) ≤ i) ∧ ((i : Int) < values.length) ∧ (i.toNat < values.length) ∧ (-9223372036854775808 ≤ (i + 1) ∧ (i + 1) ≤ 9223372036854775807) ∧ (-9223372036854775808 ≤ (price * (i + 1)) ∧ (price * (i + 1)) ≤ 9223372036854775807) ∧ (-9223372036854775808 ≤ ((values.getD i.toNat 0) + (price * (i + 1))) ∧ ((values.getD i.toNat 0) + (price * (i + 1))) ≤ 9223372036854775807) ∧ (-9223372036854775808 ≤ (i + 1) ∧ (i + 1) ≤ 9223372036854775807) ∧ (∃ best' : Int, ∃ i' : Int, (i_priceBound_JJ0 values k price best' i') ∧ (i_priceBound_mJ0 values k price best' i' < i_priceBound_mJ0 values k price best i) ∧ (k = k) ∧ (price = price) ∧ ((min best ((values.getD i.toNat 0) + (price * (i + 1)))) = best') ∧ (values = values) ∧ ((values.length : Int) = (values.length : Int)) ∧ ((i + 1) = i'))) ∧ ((decide (i < (values.length : Int))) = false → (-9223372036854775808 ≤ (price * k) ∧ (price * k) ≤ 9223372036854775807) ∧ (-9223372036854775808 ≤ (best - (price * k)) ∧ (best - (price * k)) ≤ 9223372036854775807) ∧ (((best - (price * k)) = (prcd values k price)))))))
theorem i_priceBound_vc (values : List Int) (k : Int) (price : Int) (hv : ∀ x ∈ values, 0 ≤ x ∧ x ≤ 693) (hl : 0 < values.length ∧ values.length ≤ 7) (hk : 0 ≤ k ∧ k ≤ 7) (hp : 0 ≤ price ∧ price ≤ 999) (w_values : (values.length : Int) ≤ 9223372036854775807) : i_priceBound_P values k price := by
  unfold i_priceBound_P
  refine ⟨?_, ?_, ?_, ?_, ?_, ?_⟩
  ·omega
  ·omega
  ·omega
  ·have v0 := hv _ (getD_mem (d := 0) hl.1)
   omega
  ·refine ⟨((values.getD 0 0) + price), 0, ?_⟩
   refine ⟨?_, rfl, rfl, rfl, rfl, rfl, rfl⟩
   ·refine ⟨?_, ?_, ?_, ?_⟩
    ·omega
    ·omega
    ·first | (rw [show (1 : Int).toNat = 1 from rfl, mnTo_one]; unfold prF; omega) | (show _ = prF values price 0; unfold prF; omega)
    ·have v0 := hv _ (getD_mem (d := 0) hl.1)
     omega
  ·intro best i hJ
   obtain ⟨h1, h2, h3, h4⟩ := hJ
   refine ⟨?_, ?_⟩
   ·intro b1
    try simp only [nrmT] at b1
    refine ⟨?_, ?_, ?_, ?_, ?_, ?_, ?_, ?_⟩
    ·omega
    ·omega
    ·omega
    ·omega
    ·have v1 := hv _ (getD_mem (d := 0) (show i.toNat < values.length by omega))
     have v2 := mulB hp (q := i + 1) (n := 7) (by omega)
     omega
    ·have v1 := hv _ (getD_mem (d := 0) (show i.toNat < values.length by omega))
     have v2 := mulB hp (q := i + 1) (n := 7) (by omega)
     omega
    ·omega
    ·refine ⟨(min best ((values.getD i.toNat 0) + (price * (i + 1)))), (i + 1), ?_⟩
     refine ⟨?_, ?_, rfl, rfl, rfl, rfl, rfl, rfl⟩
     ·refine ⟨?_, ?_, ?_, ?_⟩
      ·omega
      ·omega
      ·rw [show (i + 1).toNat = i.toNat + 1 by omega, mnTo_succ, ← h3]
       unfold prF
       rw [show ((i.toNat : Nat) : Int) + 1 = i + 1 by omega]
      ·have v1 := hv _ (getD_mem (d := 0) (show i.toNat < values.length by omega))
       have v2 := mulB hp (q := i + 1) (n := 7) (by omega)
       omega
     ·first | (show _ < _; omega) | (simp only [i_priceBound_mJ0]; omega) | (simp only [i_priceBound_mJ0] at *; simp at *; omega)
   ·intro b2
    try simp only [nrmT] at b2
    refine ⟨?_, ?_, ?_⟩
    ·have v3 := mulB hp (q := k) (n := 7) hk
     omega
    ·have v3 := mulB hp (q := k) (n := 7) hk
     omega
    ·rw [h3, show i.toNat = values.length by omega]; rfl
theorem i_priceBound_pc (values : List Int) (k : Int) (price : Int) (hv : ∀ x ∈ values, 0 ≤ x ∧ x ≤ 693) (hl : 0 < values.length ∧ values.length ≤ 7) (hk : 0 ≤ k ∧ k ≤ 7) (hp : 0 ≤ price ∧ price ≤ 999) : PC Try.prog 156 [.sl (.ints values), .int .i64 k, .int .i64 price] (.one (.d (.int .i64 (prcd values k price)))) :=
  pc_wf @Try.call156 fun hw => pc_by (by kernel_rfl) Try.func156 @Try.call156 (by kernel_rfl) i_priceBound_C (i_priceBound_A values k price) (by kernel_rfl) (i_priceBound_vc values k price hv hl hk hp hw.1) (by kernel_rfl)
def i_priceBound_orc : List D → Orc := orcN [some .ints, none, none] fun ds => match ds with
  | [.sl (.ints values), .int .i64 k, .int .i64 price] => some (.one (.d (.int .i64 (prcd values k price))))
  | _ => none
abbrev s_l4Bound_JJ0 (Open : List Int) (Dist : List (List Int)) (k : Int) (price : Int) (best : Int) (i : Int) : Prop := (1 ≤ i) ∧ (i ≤ ((setsL (Open.length : Int).toNat).length : Int)) ∧ (best = mnTo (bnF Dist (setsL (Open.length : Int).toNat) price) i.toNat) ∧ (0 ≤ best ∧ best ≤ 7686)
abbrev s_l4Bound_mJ0 (Open : List Int) (Dist : List (List Int)) (k : Int) (price : Int) (best : Int) (i : Int) : Nat := ((setsL (Open.length : Int).toNat).length - i).toNat
def s_l4Bound_C (f : FuncId) (ds : List D) : Orc := bif Nat.beq f 214 then s_l2Sets_orc ds else bif Nat.beq f 162 then s_l2Serve_orc ds else bif Nat.beq f 165 then s_l1Least_orc ds else .no
def s_l4Bound_A (Open : List Int) (Dist : List (List Int)) (k : Int) (price : Int) : Ann := .two (.none) (.two (.none) (.two (.none) (.two (.two (.none) (.loop (cut2 (fun (best : Int) (i : Int) => s_l4Bound_JJ0 Open Dist k price best i) (fun (best : Int) (i : Int) => [(1, .d false (.int .i64 k)), (2, .d false (.int .i64 price)), (3, .ptr 3 0), (7, .d true (.sl (.rows (setsL (Open.length : Int).toNat)))), (8, .d true (.int .i64 best)), (9, .d true (.int .i64 i))]) (fun (best : Int) (i : Int) => [(3, .box 39 [.d false (.sl (.ints Open)), .d false (.sl (.rows Dist))])])) (fun g => s_l4Bound_mJ0 Open Dist k price g.1 g.2) (fun _ => .none))) (.none))))
def s_l4Bound_P (Open : List Int) (Dist : List (List Int)) (k : Int) (price : Int) : Prop :=
  (PC Try.prog 214 [.int .i64 (Open.length : Int)] (.one (.d (.sl (.rows (setsL (Open.length : Int).toNat)))))) ∧ (true = true) ∧ ((0 : Int) ≤ 0) ∧ ((0 : Int) < (setsL (Open.length : Int).toNat).length) ∧ (0 < (setsL (Open.length : Int).toNat).length) ∧ (PC Try.prog 162 [.agg [.sl (.ints Open), .sl (.rows Dist)], .sl (.ints ((setsL (Open.length : Int).toNat).getD 0 []))] (.one (.d (.int .i64 (servOf Dist ((setsL (Open.length : Int).toNat).getD 0 [])))))) ∧ ((0 : Int) ≤ 0) ∧ ((0 : Int) < (setsL (Open.length : Int).toNat).length) ∧ (0 < (setsL (Open.length : Int).toNat).length) ∧ (-9223372036854775808 ≤ (price * (((setsL (Open.length : Int).toNat).getD 0 []).length : Int)) ∧ (price * (((setsL (Open.length : Int).toNat).getD 0 []).length : Int)) ≤ 9223372036854775807) ∧ (-9223372036854775808 ≤ ((servOf Dist ((setsL (Open.length : Int).toNat).getD 0 [])) + (price * (((setsL (Open.length : Int).toNat).getD 0 []).length : Int))) ∧ ((servOf Dist ((setsL (Open.length : Int).toNat).getD 0 [])) + (price * (((setsL (Open.length : Int).toNat).getD 0 []).length : Int))) ≤ 9223372036854775807) ∧ ((∃ best' : Int, ∃ i' : Int, (s_l4Bound_JJ0 Open Dist k price best' i') ∧ (k = k) ∧ (price = price) ∧ ((setsL (Open.length : Int).toNat) = (setsL (Open.length : Int).toNat)) ∧ (((servOf Dist ((setsL (Open.length : Int).toNat).getD 0 [])) + (price * (((setsL (Open.length : Int).toNat).getD 0 []).length : Int))) = best') ∧ ((1 : Int) = i') ∧ (Open = Open) ∧ (Dist = Dist)) ∧ (∀ best : Int, ∀ i : Int, (s_l4Bound_JJ0 Open Dist k price best i) → (((decide (i < (((setsL (Open.length : Int).toNat).length) : Int))) = true → (true = true) ∧ ((0 : Int) ≤ i) ∧ ((i : Int) < (setsL (Open.length : Int).toNat).length) ∧ (i.toNat < (setsL (Open.length : Int).toNat).length) ∧ (PC Try.prog 162 [.agg [.sl (.ints Open), .sl (.rows Dist)], .sl (.ints ((setsL (Open.length : Int).toNat).getD i.toNat []))] (.one (.d (.int .i64 (servOf Dist ((setsL (Open.length : Int).toNat).getD i.toNat [])))))) ∧ ((0 : Int) ≤ i) ∧ ((i : Int) < (setsL (Open.length : Int).toNat).length) ∧ (i.toNat < (setsL (Open.length : Int).toNat).length) ∧ (-9223372036854775808 ≤ (price * (((setsL (Open.length : Int).toNat).getD i.toNat []).length : Int)) ∧ (price * (((setsL (Open.length : Int).toNat).getD i.toNat []).length : Int)) ≤ 9223372036854775807) ∧ (-9223372036854775808 ≤ ((servOf Dist ((setsL (Open.length : Int).toNat).getD i.toNat [])) + (price * (((setsL (Open.length : Int).toNat).getD i.toNat []).length : Int))) ∧ ((servOf Dist ((setsL (Open.length : Int).toNat).getD i.toNat [])) + (price * (((setsL (Open.length : Int).toNat).getD i.toNat []).length : Int))) ≤ 9223372036854775807) ∧ (PC Try.prog 165 [.int .i64 best, .int .i64 ((servOf Dist ((setsL (Open.length : Int).toNat).getD i.toNat [])) + (price * (((setsL (Open.length : Int).toNat).getD i.toNat []).length : Int)))] (.one (.d (.int .i64 (min best ((servOf Dist ((setsL (Open.length : Int).toNat).getD i.toNat [])) + (price * (((setsL (Open.length : Int).toNat).getD i.toNat []).length : Int)))))))) ∧ (-9223372036854775808 ≤ (i + 1) ∧ (i + 1) ≤ 9223372036854775807) ∧ (∃ best' : Int, ∃ i' : Int, (s_l4Bound_JJ0 Open Dist k price best' i') ∧ (s_l4Bound_mJ0 Open Dist k price best' i' < s_l4Bound_mJ0 Open Dist k price best i) ∧ (k = k) ∧ (price = price) ∧ ((setsL (Open.length : Int).toNat) = (setsL (Open.length : Int).toNat)) ∧ ((min best ((servOf Dist ((setsL (Open.length : Int).toNat).getD i.toNat [])) + (price * (((setsL (Open.length : Int).toNat).getD i.toNat []).length : Int)))) = best') ∧ ((i + 1) = i') ∧ (Open = Open) ∧ (Dist = Dist))) ∧ ((decide (i < (((setsL (Open.length : Int).toNat).length) : Int))) = false → (-9223372036854775808 ≤ (price * k) ∧ (price * k) ≤ 9223372036854775807) ∧ (-9223372036854775808 ≤ (best - (price * k)) ∧ (best - (price * k)) ≤ 9223372036854775807) ∧ (((best - (price * k)) = (prcd (valsL Open Dist Open.length) k price)))))))
theorem s_l4Bound_vc (Open : List Int) (Dist : List (List Int)) (k : Int) (price : Int) (hg : goodField Open Dist = true) (hk : 1 ≤ k ∧ k ≤ (Open.length : Int)) (hp : 0 ≤ price ∧ price ≤ 999) (w_Open : (Open.length : Int) ≤ 9223372036854775807) (w_Dist : (Dist.length : Int) ≤ 9223372036854775807) (v_Dist : ∀ x9 ∈ Dist, (x9.length : Int) ≤ 9223372036854775807) : s_l4Bound_P Open Dist k price := by
  unfold s_l4Bound_P
  obtain ⟨g1, g2, g3⟩ := gf_open hg
  have sb := sets_big (n := (Open.length : Int).toNat) (by omega)
  have sl := sets_small (n := (Open.length : Int).toNat) (by omega)
  refine ⟨?_, rfl, ?_, ?_, ?_, ?_, ?_, ?_, ?_, ?_, ?_, ?_, ?_⟩
  ·refine s_l2Sets_pc (Open.length : Int) ?_
   ·omega
  ·omega
  ·omega
  ·omega
  ·refine s_l2Serve_pc Open Dist ((setsL (Open.length : Int).toNat).getD 0 []) ?_
   ·exact (set_two hg (getD_mem (d := []) sb)).1
  ·omega
  ·omega
  ·omega
  ·have s1 := set_two hg (getD_mem (d := []) (show 0 < (setsL (Open.length : Int).toNat).length by omega))
   have s2 := servOf_in s1.1
   have s3 := mulB hp (q := (((setsL (Open.length : Int).toNat).getD 0 []).length : Int)) (n := 7) (by omega)
   omega
  ·have s1 := set_two hg (getD_mem (d := []) (show 0 < (setsL (Open.length : Int).toNat).length by omega))
   have s2 := servOf_in s1.1
   have s3 := mulB hp (q := (((setsL (Open.length : Int).toNat).getD 0 []).length : Int)) (n := 7) (by omega)
   omega
  ·refine ⟨((servOf Dist ((setsL (Open.length : Int).toNat).getD 0 [])) + (price * (((setsL (Open.length : Int).toNat).getD 0 []).length : Int))), 1, ?_⟩
   refine ⟨?_, rfl, rfl, rfl, rfl, rfl, rfl, rfl⟩
   ·refine ⟨?_, ?_, ?_, ?_⟩
    ·omega
    ·omega
    ·rw [show (1 : Int).toNat = 1 from rfl, mnTo_one]; rfl
    ·have s1 := set_two hg (getD_mem (d := []) (show 0 < (setsL (Open.length : Int).toNat).length by omega))
     have s2 := servOf_in s1.1
     have s3 := mulB hp (q := (((setsL (Open.length : Int).toNat).getD 0 []).length : Int)) (n := 7) (by omega)
     omega
  ·intro best i hJ
   obtain ⟨h1, h2, h3, h4⟩ := hJ
   refine ⟨?_, ?_⟩
   ·intro b1
    try simp only [nrmT] at b1
    refine ⟨rfl, ?_, ?_, ?_, ?_, ?_, ?_, ?_, ?_, ?_, s_l1Least_pc best ((servOf Dist ((setsL (Open.length : Int).toNat).getD i.toNat [])) + (price * (((setsL (Open.length : Int).toNat).getD i.toNat []).length : Int))), ?_, ?_⟩
    ·omega
    ·omega
    ·omega
    ·refine s_l2Serve_pc Open Dist ((setsL (Open.length : Int).toNat).getD i.toNat []) ?_
     ·exact (set_two hg (getD_mem (d := []) (show i.toNat < (setsL (Open.length : Int).toNat).length by omega))).1
    ·omega
    ·omega
    ·omega
    ·have s1 := set_two hg (getD_mem (d := []) (show i.toNat < (setsL (Open.length : Int).toNat).length by omega))
     have s2 := servOf_in s1.1
     have s3 := mulB hp (q := (((setsL (Open.length : Int).toNat).getD i.toNat []).length : Int)) (n := 7) (by omega)
     omega
    ·have s1 := set_two hg (getD_mem (d := []) (show i.toNat < (setsL (Open.length : Int).toNat).length by omega))
     have s2 := servOf_in s1.1
     have s3 := mulB hp (q := (((setsL (Open.length : Int).toNat).getD i.toNat []).length : Int)) (n := 7) (by omega)
     omega
    ·omega
    ·refine ⟨(min best ((servOf Dist ((setsL (Open.length : Int).toNat).getD i.toNat [])) + (price * (((setsL (Open.length : Int).toNat).getD i.toNat []).length : Int)))), (i + 1), ?_⟩
     refine ⟨?_, ?_, rfl, rfl, rfl, rfl, rfl, rfl, rfl⟩
     ·refine ⟨?_, ?_, ?_, ?_⟩
      ·omega
      ·omega
      ·rw [show (i + 1).toNat = i.toNat + 1 by omega, mnTo_succ, ← h3]; rfl
      ·have s1 := set_two hg (getD_mem (d := []) (show i.toNat < (setsL (Open.length : Int).toNat).length by omega))
       have s2 := servOf_in s1.1
       have s3 := mulB hp (q := (((setsL (Open.length : Int).toNat).getD i.toNat []).length : Int)) (n := 7) (by omega)
       omega
     ·first | (show _ < _; omega) | (simp only [s_l4Bound_mJ0]; omega) | (simp only [s_l4Bound_mJ0] at *; simp at *; omega)
   ·intro b2
    try simp only [nrmT] at b2
    refine ⟨?_, ?_, ?_⟩
    ·have v3 := mulB hp (q := k) (n := 7) (by omega)
     omega
    ·have v3 := mulB hp (q := k) (n := 7) (by omega)
     omega
    ·unfold prcd
     rw [h3, show i.toNat = (setsL (Open.length : Int).toNat).length by omega, bound_eq hg, valsL_len]
theorem s_l4Bound_pc (Open : List Int) (Dist : List (List Int)) (k : Int) (price : Int) (hg : goodField Open Dist = true) (hk : 1 ≤ k ∧ k ≤ (Open.length : Int)) (hp : 0 ≤ price ∧ price ≤ 999) : PC Try.prog 159 [.agg [.sl (.ints Open), .sl (.rows Dist)], .int .i64 k, .int .i64 price] (.one (.d (.int .i64 (prcd (valsL Open Dist Open.length) k price)))) :=
  pc_wf @Try.call159 fun hw => pc_by (by kernel_rfl) Try.func159 @Try.call159 (by kernel_rfl) s_l4Bound_C (s_l4Bound_A Open Dist k price) (by kernel_rfl) (s_l4Bound_vc Open Dist k price hg hk hp hw.1.1 hw.1.2.1.1 hw.1.2.1.2) (by kernel_rfl)
def s_l4Bound_orc : List D → Orc := orcN [none, none, none] fun ds => match ds with
  | [.agg [.sl (.ints Open), .sl (.rows Dist)], .int .i64 k, .int .i64 price] => some (.one (.d (.int .i64 (prcd (valsL Open Dist Open.length) k price))))
  | _ => none
def s_PriceBound_C (f : FuncId) (ds : List D) : Orc := bif Nat.beq f 158 then s_l4K_orc ds else bif Nat.beq f 116 then s_l1In_orc ds else bif Nat.beq f 159 then s_l4Bound_orc ds else .no
def s_PriceBound_A (Open : List Int) (Dist : List (List Int)) (k : Int) (price : Int) : Ann := .none
def s_PriceBound_P (Open : List Int) (Dist : List (List Int)) (k : Int) (price : Int) : Prop :=
  (PC Try.prog 158 [.agg [.sl (.ints Open), .sl (.rows Dist)], .int .i64 k] (.one (.d (.bool (goodField Open Dist && inB k 1 (Open.length : Int)))))) ∧ ((!(!(goodField Open Dist && inB k 1 (Open.length : Int)))) = true → (!(!(goodField Open Dist && inB k 1 (Open.length : Int)))) = true) ∧ ((!(!(goodField Open Dist && inB k 1 (Open.length : Int)))) = true → PC Try.prog 116 [.int .i64 price, .int .i64 0, .int .i64 999] (.one (.d (.bool (inB price 0 999))))) ∧ ((!(!(goodField Open Dist && inB k 1 (Open.length : Int)))) = true → (!(!(goodField Open Dist && inB k 1 (Open.length : Int)))) = true) ∧ (true = true) ∧ (((!(goodField Open Dist && inB k 1 (Open.length : Int))) = true → true = true)) ∧ (((!(goodField Open Dist && inB k 1 (Open.length : Int))) = false → (!(!(goodField Open Dist && inB k 1 (Open.length : Int)))) = true)) ∧ (((cond (!(goodField Open Dist && inB k 1 (Open.length : Int))) true (!(inB price 0 999))) = true → (((0 : Int) = (pbL Open Dist k price)) ∧ (false = ((goodField Open Dist && inB k 1 (Open.length : Int)) && inB price 0 999)))) ∧ ((cond (!(goodField Open Dist && inB k 1 (Open.length : Int))) true (!(inB price 0 999))) = false → (PC Try.prog 159 [.agg [.sl (.ints Open), .sl (.rows Dist)], .int .i64 k, .int .i64 price] (.one (.d (.int .i64 (prcd (valsL Open Dist Open.length) k price))))) ∧ (((prcd (valsL Open Dist Open.length) k price) = (pbL Open Dist k price)) ∧ (true = ((goodField Open Dist && inB k 1 (Open.length : Int)) && inB price 0 999)))))
theorem s_PriceBound_vc (Open : List Int) (Dist : List (List Int)) (k : Int) (price : Int)  (w_Open : (Open.length : Int) ≤ 9223372036854775807) (w_Dist : (Dist.length : Int) ≤ 9223372036854775807) (v_Dist : ∀ x9 ∈ Dist, (x9.length : Int) ≤ 9223372036854775807) : s_PriceBound_P Open Dist k price := by
  unfold s_PriceBound_P
  refine ⟨s_l4K_pc Open Dist k, id, fun _ => s_l1In_pc price 0 999, id, rfl, fun _ => rfl, ?_, ?_, ?_⟩
  ·intro h; rw [h]; rfl
  ·intro b1
   refine ⟨?_, ?_⟩
   ·have hq : ((goodField Open Dist && inB k 1 (Open.length : Int)) && inB price 0 999) = false := by
      revert b1; cases (goodField Open Dist && inB k 1 (Open.length : Int)) <;> cases inB price 0 999 <;> simp
    unfold pbL; rw [hq]; rfl
   ·have hq : ((goodField Open Dist && inB k 1 (Open.length : Int)) && inB price 0 999) = false := by
      revert b1; cases (goodField Open Dist && inB k 1 (Open.length : Int)) <;> cases inB price 0 999 <;> simp
    exact hq.symm
  ·intro b2
   refine ⟨?_, ?_, ?_⟩
   ·refine s_l4Bound_pc Open Dist k price ?_ ?_ ?_
    ·have hq : ((goodField Open Dist && inB k 1 (Open.length : Int)) && inB price 0 999) = true := by
       revert b2; cases (goodField Open Dist && inB k 1 (Open.length : Int)) <;> cases inB price 0 999 <;> simp
     obtain ⟨q1, q2⟩ := (Bool.and_eq_true _ _ ▸ hq : _ ∧ _)
     obtain ⟨hg, hk⟩ := (Bool.and_eq_true _ _ ▸ q1 : _ ∧ _)
     have hk2 := inB_le hk
     have hp2 := inB_le q2
     obtain ⟨g1, g2, g3⟩ := gf_open hg
     exact hg
    ·have hq : ((goodField Open Dist && inB k 1 (Open.length : Int)) && inB price 0 999) = true := by
       revert b2; cases (goodField Open Dist && inB k 1 (Open.length : Int)) <;> cases inB price 0 999 <;> simp
     obtain ⟨q1, q2⟩ := (Bool.and_eq_true _ _ ▸ hq : _ ∧ _)
     obtain ⟨hg, hk⟩ := (Bool.and_eq_true _ _ ▸ q1 : _ ∧ _)
     have hk2 := inB_le hk
     have hp2 := inB_le q2
     obtain ⟨g1, g2, g3⟩ := gf_open hg
     exact hk2
    ·have hq : ((goodField Open Dist && inB k 1 (Open.length : Int)) && inB price 0 999) = true := by
       revert b2; cases (goodField Open Dist && inB k 1 (Open.length : Int)) <;> cases inB price 0 999 <;> simp
     obtain ⟨q1, q2⟩ := (Bool.and_eq_true _ _ ▸ hq : _ ∧ _)
     obtain ⟨hg, hk⟩ := (Bool.and_eq_true _ _ ▸ q1 : _ ∧ _)
     have hk2 := inB_le hk
     have hp2 := inB_le q2
     obtain ⟨g1, g2, g3⟩ := gf_open hg
     exact hp2
   ·have hq : ((goodField Open Dist && inB k 1 (Open.length : Int)) && inB price 0 999) = true := by
      revert b2; cases (goodField Open Dist && inB k 1 (Open.length : Int)) <;> cases inB price 0 999 <;> simp
    obtain ⟨q1, q2⟩ := (Bool.and_eq_true _ _ ▸ hq : _ ∧ _)
    obtain ⟨hg, hk⟩ := (Bool.and_eq_true _ _ ▸ q1 : _ ∧ _)
    have hk2 := inB_le hk
    have hp2 := inB_le q2
    obtain ⟨g1, g2, g3⟩ := gf_open hg
    unfold pbL; rw [if_pos hq]
   ·have hq : ((goodField Open Dist && inB k 1 (Open.length : Int)) && inB price 0 999) = true := by
      revert b2; cases (goodField Open Dist && inB k 1 (Open.length : Int)) <;> cases inB price 0 999 <;> simp
    obtain ⟨q1, q2⟩ := (Bool.and_eq_true _ _ ▸ hq : _ ∧ _)
    obtain ⟨hg, hk⟩ := (Bool.and_eq_true _ _ ▸ q1 : _ ∧ _)
    have hk2 := inB_le hk
    have hp2 := inB_le q2
    obtain ⟨g1, g2, g3⟩ := gf_open hg
    exact hq.symm
theorem s_PriceBound_pc (Open : List Int) (Dist : List (List Int)) (k : Int) (price : Int)  : PC Try.prog 63 [.agg [.sl (.ints Open), .sl (.rows Dist)], .int .i64 k, .int .i64 price] (.tup [.d (.int .i64 (pbL Open Dist k price)), .d (.bool ((goodField Open Dist && inB k 1 (Open.length : Int)) && inB price 0 999))]) :=
  pc_wf @Try.call63 fun hw => pc_by (by kernel_rfl) Try.func63 @Try.call63 (by kernel_rfl) s_PriceBound_C (s_PriceBound_A Open Dist k price) (by kernel_rfl) (s_PriceBound_vc Open Dist k price hw.1.1 hw.1.2.1.1 hw.1.2.1.2) (by kernel_rfl)
def s_PriceBound_orc : List D → Orc := orcN [none, none, none] fun ds => match ds with
  | [.agg [.sl (.ints Open), .sl (.rows Dist)], .int .i64 k, .int .i64 price] => some (.tup [.d (.int .i64 (pbL Open Dist k price)), .d (.bool ((goodField Open Dist && inB k 1 (Open.length : Int)) && inB price 0 999))])
  | _ => none
def i_PriceBound_C (f : FuncId) (ds : List D) : Orc := bif Nat.beq f 141 then i_isMedianCase_orc ds else bif Nat.beq f 120 then i_between_orc ds else bif Nat.beq f 157 then i_Field_values_orc ds else bif Nat.beq f 156 then i_priceBound_orc ds else .no
def i_PriceBound_A (Open : List Int) (Dist : List (List Int)) (k : Int) (price : Int) : Ann := .none
def i_PriceBound_P (Open : List Int) (Dist : List (List Int)) (k : Int) (price : Int) : Prop :=
  (PC Try.prog 141 [.agg [.sl (.ints Open), .sl (.rows Dist)], .int .i64 k] (.one (.d (.bool (goodField Open Dist && inB k 1 (Open.length : Int)))))) ∧ ((!(!(goodField Open Dist && inB k 1 (Open.length : Int)))) = true → (!(!(goodField Open Dist && inB k 1 (Open.length : Int)))) = true) ∧ ((!(!(goodField Open Dist && inB k 1 (Open.length : Int)))) = true → PC Try.prog 120 [.int .i64 price, .int .i64 0, .int .i64 999] (.one (.d (.bool (inB price 0 999))))) ∧ ((!(!(goodField Open Dist && inB k 1 (Open.length : Int)))) = true → (!(!(goodField Open Dist && inB k 1 (Open.length : Int)))) = true) ∧ (true = true) ∧ (((!(goodField Open Dist && inB k 1 (Open.length : Int))) = true → true = true)) ∧ (((!(goodField Open Dist && inB k 1 (Open.length : Int))) = false → (!(!(goodField Open Dist && inB k 1 (Open.length : Int)))) = true)) ∧ (((cond (!(goodField Open Dist && inB k 1 (Open.length : Int))) true (!(inB price 0 999))) = true → (((0 : Int) = (pbL Open Dist k price)) ∧ (false = ((goodField Open Dist && inB k 1 (Open.length : Int)) && inB price 0 999)))) ∧ ((cond (!(goodField Open Dist && inB k 1 (Open.length : Int))) true (!(inB price 0 999))) = false → (PC Try.prog 157 [.agg [.sl (.ints Open), .sl (.rows Dist)]] (.one (.own 3 (.ints (valsL Open Dist Open.length))))) ∧ ((valsL Open Dist Open.length).length = (valsL Open Dist Open.length).length) ∧ (PC Try.prog 156 [.sl (.ints (valsL Open Dist Open.length)), .int .i64 k, .int .i64 price] (.one (.d (.int .i64 (prcd (valsL Open Dist Open.length) k price))))) ∧ (((prcd (valsL Open Dist Open.length) k price) = (pbL Open Dist k price)) ∧ (true = ((goodField Open Dist && inB k 1 (Open.length : Int)) && inB price 0 999)))))
theorem i_PriceBound_vc (Open : List Int) (Dist : List (List Int)) (k : Int) (price : Int)  (w_Open : (Open.length : Int) ≤ 9223372036854775807) (w_Dist : (Dist.length : Int) ≤ 9223372036854775807) (v_Dist : ∀ x9 ∈ Dist, (x9.length : Int) ≤ 9223372036854775807) : i_PriceBound_P Open Dist k price := by
  unfold i_PriceBound_P
  refine ⟨i_isMedianCase_pc Open Dist k, id, fun _ => i_between_pc price 0 999, id, rfl, fun _ => rfl, ?_, ?_, ?_⟩
  ·intro h; rw [h]; rfl
  ·intro b1
   refine ⟨?_, ?_⟩
   ·have hq : ((goodField Open Dist && inB k 1 (Open.length : Int)) && inB price 0 999) = false := by
      revert b1; cases (goodField Open Dist && inB k 1 (Open.length : Int)) <;> cases inB price 0 999 <;> simp
    unfold pbL; rw [hq]; rfl
   ·have hq : ((goodField Open Dist && inB k 1 (Open.length : Int)) && inB price 0 999) = false := by
      revert b1; cases (goodField Open Dist && inB k 1 (Open.length : Int)) <;> cases inB price 0 999 <;> simp
    exact hq.symm
  ·intro b2
   refine ⟨?_, rfl, ?_, ?_, ?_⟩
   ·refine i_Field_values_pc Open Dist ?_
    ·have hq : ((goodField Open Dist && inB k 1 (Open.length : Int)) && inB price 0 999) = true := by
       revert b2; cases (goodField Open Dist && inB k 1 (Open.length : Int)) <;> cases inB price 0 999 <;> simp
     obtain ⟨q1, q2⟩ := (Bool.and_eq_true _ _ ▸ hq : _ ∧ _)
     obtain ⟨hg, hk⟩ := (Bool.and_eq_true _ _ ▸ q1 : _ ∧ _)
     have hk2 := inB_le hk
     have hp2 := inB_le q2
     obtain ⟨g1, g2, g3⟩ := gf_open hg
     exact hg
   ·refine i_priceBound_pc (valsL Open Dist Open.length) k price ?_ ?_ ?_ ?_
    ·have hq : ((goodField Open Dist && inB k 1 (Open.length : Int)) && inB price 0 999) = true := by
       revert b2; cases (goodField Open Dist && inB k 1 (Open.length : Int)) <;> cases inB price 0 999 <;> simp
     obtain ⟨q1, q2⟩ := (Bool.and_eq_true _ _ ▸ hq : _ ∧ _)
     obtain ⟨hg, hk⟩ := (Bool.and_eq_true _ _ ▸ q1 : _ ∧ _)
     have hk2 := inB_le hk
     have hp2 := inB_le q2
     obtain ⟨g1, g2, g3⟩ := gf_open hg
     exact valsL_in hg
    ·have hq : ((goodField Open Dist && inB k 1 (Open.length : Int)) && inB price 0 999) = true := by
       revert b2; cases (goodField Open Dist && inB k 1 (Open.length : Int)) <;> cases inB price 0 999 <;> simp
     obtain ⟨q1, q2⟩ := (Bool.and_eq_true _ _ ▸ hq : _ ∧ _)
     obtain ⟨hg, hk⟩ := (Bool.and_eq_true _ _ ▸ q1 : _ ∧ _)
     have hk2 := inB_le hk
     have hp2 := inB_le q2
     obtain ⟨g1, g2, g3⟩ := gf_open hg
     rw [valsL_len]; omega
    ·have hq : ((goodField Open Dist && inB k 1 (Open.length : Int)) && inB price 0 999) = true := by
       revert b2; cases (goodField Open Dist && inB k 1 (Open.length : Int)) <;> cases inB price 0 999 <;> simp
     obtain ⟨q1, q2⟩ := (Bool.and_eq_true _ _ ▸ hq : _ ∧ _)
     obtain ⟨hg, hk⟩ := (Bool.and_eq_true _ _ ▸ q1 : _ ∧ _)
     have hk2 := inB_le hk
     have hp2 := inB_le q2
     obtain ⟨g1, g2, g3⟩ := gf_open hg
     omega
    ·have hq : ((goodField Open Dist && inB k 1 (Open.length : Int)) && inB price 0 999) = true := by
       revert b2; cases (goodField Open Dist && inB k 1 (Open.length : Int)) <;> cases inB price 0 999 <;> simp
     obtain ⟨q1, q2⟩ := (Bool.and_eq_true _ _ ▸ hq : _ ∧ _)
     obtain ⟨hg, hk⟩ := (Bool.and_eq_true _ _ ▸ q1 : _ ∧ _)
     have hk2 := inB_le hk
     have hp2 := inB_le q2
     obtain ⟨g1, g2, g3⟩ := gf_open hg
     exact hp2
   ·have hq : ((goodField Open Dist && inB k 1 (Open.length : Int)) && inB price 0 999) = true := by
      revert b2; cases (goodField Open Dist && inB k 1 (Open.length : Int)) <;> cases inB price 0 999 <;> simp
    obtain ⟨q1, q2⟩ := (Bool.and_eq_true _ _ ▸ hq : _ ∧ _)
    obtain ⟨hg, hk⟩ := (Bool.and_eq_true _ _ ▸ q1 : _ ∧ _)
    have hk2 := inB_le hk
    have hp2 := inB_le q2
    obtain ⟨g1, g2, g3⟩ := gf_open hg
    unfold pbL; rw [if_pos hq]
   ·have hq : ((goodField Open Dist && inB k 1 (Open.length : Int)) && inB price 0 999) = true := by
      revert b2; cases (goodField Open Dist && inB k 1 (Open.length : Int)) <;> cases inB price 0 999 <;> simp
    obtain ⟨q1, q2⟩ := (Bool.and_eq_true _ _ ▸ hq : _ ∧ _)
    obtain ⟨hg, hk⟩ := (Bool.and_eq_true _ _ ▸ q1 : _ ∧ _)
    have hk2 := inB_le hk
    have hp2 := inB_le q2
    obtain ⟨g1, g2, g3⟩ := gf_open hg
    exact hq.symm
theorem i_PriceBound_pc (Open : List Int) (Dist : List (List Int)) (k : Int) (price : Int)  : PC Try.prog 62 [.agg [.sl (.ints Open), .sl (.rows Dist)], .int .i64 k, .int .i64 price] (.tup [.d (.int .i64 (pbL Open Dist k price)), .d (.bool ((goodField Open Dist && inB k 1 (Open.length : Int)) && inB price 0 999))]) :=
  pc_wf @Try.call62 fun hw => pc_by (by kernel_rfl) Try.func62 @Try.call62 (by kernel_rfl) i_PriceBound_C (i_PriceBound_A Open Dist k price) (by kernel_rfl) (i_PriceBound_vc Open Dist k price hw.1.1 hw.1.2.1.1 hw.1.2.1.2) (by kernel_rfl)
def i_PriceBound_orc : List D → Orc := orcN [none, none, none] fun ds => match ds with
  | [.agg [.sl (.ints Open), .sl (.rows Dist)], .int .i64 k, .int .i64 price] => some (.tup [.d (.int .i64 (pbL Open Dist k price)), .d (.bool ((goodField Open Dist && inB k 1 (Open.length : Int)) && inB price 0 999))])
  | _ => none
abbrev s_BestPrice_JJ0 (Open : List Int) (Dist : List (List Int)) (k : Int) (best : Int) (price : Int) : Prop := (1 ≤ price) ∧ (price ≤ 1000) ∧ (best = bpTo (valsL Open Dist Open.length) k price.toNat) ∧ (0 ≤ best ∧ best ≤ 999)
abbrev s_BestPrice_mJ0 (Open : List Int) (Dist : List (List Int)) (k : Int) (best : Int) (price : Int) : Nat := (1000 - price).toNat
def s_BestPrice_C (f : FuncId) (ds : List D) : Orc := bif Nat.beq f 158 then s_l4K_orc ds else bif Nat.beq f 160 then s_l4Values_orc ds else bif Nat.beq f 161 then s_l4Priced_orc ds else .no
def s_BestPrice_A (Open : List Int) (Dist : List (List Int)) (k : Int) : Ann := .two (.none) (.two (.none) (.two (.none) (.two (.two (.none) (.loop (cut2 (fun (best : Int) (price : Int) => s_BestPrice_JJ0 Open Dist k best price) (fun (best : Int) (price : Int) => [(1, .d false (.int .i64 k)), (7, .own 15 ((valsL Open Dist Open.length).length)), (8, .d true (.int .i64 best)), (9, .d true (.int .i64 price))]) (fun (best : Int) (price : Int) => [(15, .arr true 3 (.ints (valsL Open Dist Open.length)))])) (fun g => s_BestPrice_mJ0 Open Dist k g.1 g.2) (fun _ => .none))) (.none))))
def s_BestPrice_P (Open : List Int) (Dist : List (List Int)) (k : Int) : Prop :=
  (PC Try.prog 158 [.agg [.sl (.ints Open), .sl (.rows Dist)], .int .i64 k] (.one (.d (.bool (goodField Open Dist && inB k 1 (Open.length : Int)))))) ∧ (((!(goodField Open Dist && inB k 1 (Open.length : Int))) = true → (((0 : Int) = (bpA Open Dist k)) ∧ ((0 : Int) = (bpB Open Dist k)) ∧ (false = (goodField Open Dist && inB k 1 (Open.length : Int))))) ∧ ((!(goodField Open Dist && inB k 1 (Open.length : Int))) = false → (PC Try.prog 160 [.agg [.sl (.ints Open), .sl (.rows Dist)]] (.one (.own 3 (.ints (valsL Open Dist Open.length))))) ∧ ((∃ best' : Int, ∃ price' : Int, (s_BestPrice_JJ0 Open Dist k best' price') ∧ (k = k) ∧ ((valsL Open Dist Open.length).length = (valsL Open Dist Open.length).length) ∧ ((0 : Int) = best') ∧ ((1 : Int) = price') ∧ (valsL Open Dist Open.length = valsL Open Dist Open.length)) ∧ (∀ best : Int, ∀ price : Int, (s_BestPrice_JJ0 Open Dist k best price) → (((decide (price ≤ 999)) = true → ((valsL Open Dist Open.length).length = (valsL Open Dist Open.length).length) ∧ (PC Try.prog 161 [.sl (.ints (valsL Open Dist Open.length)), .int .i64 k, .int .i64 price] (.one (.d (.int .i64 (prcd (valsL Open Dist Open.length) k price))))) ∧ ((valsL Open Dist Open.length).length = (valsL Open Dist Open.length).length) ∧ (PC Try.prog 161 [.sl (.ints (valsL Open Dist Open.length)), .int .i64 k, .int .i64 best] (.one (.d (.int .i64 (prcd (valsL Open Dist Open.length) k best))))) ∧ (((decide ((prcd (valsL Open Dist Open.length) k price) > (prcd (valsL Open Dist Open.length) k best))) = true → (-9223372036854775808 ≤ (price + 1) ∧ (price + 1) ≤ 9223372036854775807) ∧ (∃ best' : Int, ∃ price' : Int, (s_BestPrice_JJ0 Open Dist k best' price') ∧ (s_BestPrice_mJ0 Open Dist k best' price' < s_BestPrice_mJ0 Open Dist k best price) ∧ (k = k) ∧ ((valsL Open Dist Open.length).length = (valsL Open Dist Open.length).length) ∧ (price = best') ∧ ((price + 1) = price') ∧ (valsL Open Dist Open.length = valsL Open Dist Open.length))) ∧ ((decide ((prcd (valsL Open Dist Open.length) k price) > (prcd (valsL Open Dist Open.length) k best))) = false → (-9223372036854775808 ≤ (price + 1) ∧ (price + 1) ≤ 9223372036854775807) ∧ (∃ best' : Int, ∃ price' : Int, (s_BestPrice_JJ0 Open Dist k best' price') ∧ (s_BestPrice_mJ0 Open Dist k best' price' < s_BestPrice_mJ0 Open Dist k best price) ∧ (k = k) ∧ ((valsL Open Dist Open.length).length = (valsL Open Dist Open.length).length) ∧ (best = best') ∧ ((price + 1) = price') ∧ (valsL Open Dist Open.length = valsL Open Dist Open.length))))) ∧ ((decide (price ≤ 999)) = false → ((valsL Open Dist Open.length).length = (valsL Open Dist Open.length).length) ∧ (PC Try.prog 161 [.sl (.ints (valsL Open Dist Open.length)), .int .i64 k, .int .i64 best] (.one (.d (.int .i64 (prcd (valsL Open Dist Open.length) k best))))) ∧ ((best = (bpA Open Dist k)) ∧ ((prcd (valsL Open Dist Open.length) k best) = (bpB Open Dist k)) ∧ (true = (goodField Open Dist && inB k 1 (Open.length : Int))))))))))
theorem s_BestPrice_vc (Open : List Int) (Dist : List (List Int)) (k : Int)  (w_Open : (Open.length : Int) ≤ 9223372036854775807) (w_Dist : (Dist.length : Int) ≤ 9223372036854775807) (v_Dist : ∀ x9 ∈ Dist, (x9.length : Int) ≤ 9223372036854775807) : s_BestPrice_P Open Dist k := by
  unfold s_BestPrice_P
  refine ⟨s_l4K_pc Open Dist k, ?_, ?_⟩
  ·intro b1
   try simp only [Bool.not_eq_true', Bool.not_eq_false', Bool.not_not] at b1
   refine ⟨?_, ?_, ?_⟩
   ·have hgk : (goodField Open Dist && inB k 1 (Open.length : Int)) = false := by simpa using b1
    unfold bpA; rw [hgk]; rfl
   ·have hgk : (goodField Open Dist && inB k 1 (Open.length : Int)) = false := by simpa using b1
    unfold bpB; rw [hgk]; rfl
   ·have hgk : (goodField Open Dist && inB k 1 (Open.length : Int)) = false := by simpa using b1
    exact hgk.symm
  ·intro b2
   try simp only [Bool.not_eq_true', Bool.not_eq_false', Bool.not_not] at b2
   refine ⟨?_, ?_, ?_⟩
   ·refine s_l4Values_pc Open Dist ?_
    ·have hgk : (goodField Open Dist && inB k 1 (Open.length : Int)) = true := by simpa using b2
     obtain ⟨hg, hk⟩ := (Bool.and_eq_true _ _ ▸ hgk : _ ∧ _)
     have hk2 := inB_le hk
     obtain ⟨g1, g2, g3⟩ := gf_open hg
     exact hg
   ·refine ⟨0, 1, ?_⟩
    refine ⟨?_, rfl, rfl, rfl, rfl, rfl⟩
    ·refine ⟨?_, ?_, ?_, ?_⟩
     ·omega
     ·omega
     ·first | rfl | exact (bpTo_one _ _).symm
     ·omega
   ·intro best price hJ
    obtain ⟨h1, h2, h3, h4⟩ := hJ
    refine ⟨?_, ?_⟩
    ·intro b3
     try simp only [nrmT] at b3
     refine ⟨rfl, ?_, rfl, ?_, ?_, ?_⟩
     ·refine s_l4Priced_pc (valsL Open Dist Open.length) k price ?_ ?_ ?_ ?_
      ·have hgk : (goodField Open Dist && inB k 1 (Open.length : Int)) = true := by simpa using b2
       obtain ⟨hg, hk⟩ := (Bool.and_eq_true _ _ ▸ hgk : _ ∧ _)
       have hk2 := inB_le hk
       obtain ⟨g1, g2, g3⟩ := gf_open hg
       exact valsL_in hg
      ·have hgk : (goodField Open Dist && inB k 1 (Open.length : Int)) = true := by simpa using b2
       obtain ⟨hg, hk⟩ := (Bool.and_eq_true _ _ ▸ hgk : _ ∧ _)
       have hk2 := inB_le hk
       obtain ⟨g1, g2, g3⟩ := gf_open hg
       rw [valsL_len]; omega
      ·have hgk : (goodField Open Dist && inB k 1 (Open.length : Int)) = true := by simpa using b2
       obtain ⟨hg, hk⟩ := (Bool.and_eq_true _ _ ▸ hgk : _ ∧ _)
       have hk2 := inB_le hk
       obtain ⟨g1, g2, g3⟩ := gf_open hg
       omega
      ·omega
     ·refine s_l4Priced_pc (valsL Open Dist Open.length) k best ?_ ?_ ?_ ?_
      ·have hgk : (goodField Open Dist && inB k 1 (Open.length : Int)) = true := by simpa using b2
       obtain ⟨hg, hk⟩ := (Bool.and_eq_true _ _ ▸ hgk : _ ∧ _)
       have hk2 := inB_le hk
       obtain ⟨g1, g2, g3⟩ := gf_open hg
       exact valsL_in hg
      ·have hgk : (goodField Open Dist && inB k 1 (Open.length : Int)) = true := by simpa using b2
       obtain ⟨hg, hk⟩ := (Bool.and_eq_true _ _ ▸ hgk : _ ∧ _)
       have hk2 := inB_le hk
       obtain ⟨g1, g2, g3⟩ := gf_open hg
       rw [valsL_len]; omega
      ·have hgk : (goodField Open Dist && inB k 1 (Open.length : Int)) = true := by simpa using b2
       obtain ⟨hg, hk⟩ := (Bool.and_eq_true _ _ ▸ hgk : _ ∧ _)
       have hk2 := inB_le hk
       obtain ⟨g1, g2, g3⟩ := gf_open hg
       omega
      ·omega
     ·intro b4
      try simp only [nrmT] at b4
      refine ⟨?_, ?_⟩
      ·omega
      ·refine ⟨price, (price + 1), ?_⟩
       refine ⟨?_, ?_, rfl, rfl, rfl, rfl, rfl⟩
       ·refine ⟨?_, ?_, ?_, ?_⟩
        ·omega
        ·omega
        ·rw [show (price + 1).toNat = price.toNat + 1 by omega, bpTo_succ, ← h3]
         unfold bpF
         rw [show ((price.toNat : Nat) : Int) = price by omega, if_pos b4]
        ·omega
       ·first | (show _ < _; omega) | (simp only [s_BestPrice_mJ0]; omega) | (simp only [s_BestPrice_mJ0] at *; simp at *; omega)
     ·intro b5
      try simp only [nrmT] at b5
      refine ⟨?_, ?_⟩
      ·omega
      ·refine ⟨best, (price + 1), ?_⟩
       refine ⟨?_, ?_, rfl, rfl, rfl, rfl, rfl⟩
       ·refine ⟨?_, ?_, ?_, ?_⟩
        ·omega
        ·omega
        ·rw [show (price + 1).toNat = price.toNat + 1 by omega, bpTo_succ, ← h3]
         unfold bpF
         rw [show ((price.toNat : Nat) : Int) = price by omega, if_neg (by omega)]
        ·omega
       ·first | (show _ < _; omega) | (simp only [s_BestPrice_mJ0]; omega) | (simp only [s_BestPrice_mJ0] at *; simp at *; omega)
    ·intro b6
     try simp only [nrmT] at b6
     refine ⟨rfl, ?_, ?_, ?_, ?_⟩
     ·refine s_l4Priced_pc (valsL Open Dist Open.length) k best ?_ ?_ ?_ ?_
      ·have hgk : (goodField Open Dist && inB k 1 (Open.length : Int)) = true := by simpa using b2
       obtain ⟨hg, hk⟩ := (Bool.and_eq_true _ _ ▸ hgk : _ ∧ _)
       have hk2 := inB_le hk
       obtain ⟨g1, g2, g3⟩ := gf_open hg
       exact valsL_in hg
      ·have hgk : (goodField Open Dist && inB k 1 (Open.length : Int)) = true := by simpa using b2
       obtain ⟨hg, hk⟩ := (Bool.and_eq_true _ _ ▸ hgk : _ ∧ _)
       have hk2 := inB_le hk
       obtain ⟨g1, g2, g3⟩ := gf_open hg
       rw [valsL_len]; omega
      ·have hgk : (goodField Open Dist && inB k 1 (Open.length : Int)) = true := by simpa using b2
       obtain ⟨hg, hk⟩ := (Bool.and_eq_true _ _ ▸ hgk : _ ∧ _)
       have hk2 := inB_le hk
       obtain ⟨g1, g2, g3⟩ := gf_open hg
       omega
      ·omega
     ·have hgk : (goodField Open Dist && inB k 1 (Open.length : Int)) = true := by simpa using b2
      obtain ⟨hg, hk⟩ := (Bool.and_eq_true _ _ ▸ hgk : _ ∧ _)
      have hk2 := inB_le hk
      obtain ⟨g1, g2, g3⟩ := gf_open hg
      unfold bpA; rw [if_pos hgk, h3, show price.toNat = 1000 by omega]
     ·have hgk : (goodField Open Dist && inB k 1 (Open.length : Int)) = true := by simpa using b2
      obtain ⟨hg, hk⟩ := (Bool.and_eq_true _ _ ▸ hgk : _ ∧ _)
      have hk2 := inB_le hk
      obtain ⟨g1, g2, g3⟩ := gf_open hg
      unfold bpB; rw [if_pos hgk, h3, show price.toNat = 1000 by omega]
     ·have hgk : (goodField Open Dist && inB k 1 (Open.length : Int)) = true := by simpa using b2
      obtain ⟨hg, hk⟩ := (Bool.and_eq_true _ _ ▸ hgk : _ ∧ _)
      have hk2 := inB_le hk
      obtain ⟨g1, g2, g3⟩ := gf_open hg
      exact hgk.symm
theorem s_BestPrice_pc (Open : List Int) (Dist : List (List Int)) (k : Int)  : PC Try.prog 65 [.agg [.sl (.ints Open), .sl (.rows Dist)], .int .i64 k] (.tup [.d (.int .i64 (bpA Open Dist k)), .d (.int .i64 (bpB Open Dist k)), .d (.bool (goodField Open Dist && inB k 1 (Open.length : Int)))]) :=
  pc_wf @Try.call65 fun hw => pc_by (by kernel_rfl) Try.func65 @Try.call65 (by kernel_rfl) s_BestPrice_C (s_BestPrice_A Open Dist k) (by kernel_rfl) (s_BestPrice_vc Open Dist k hw.1.1 hw.1.2.1.1 hw.1.2.1.2) (by kernel_rfl)
def s_BestPrice_orc : List D → Orc := orcN [none, none] fun ds => match ds with
  | [.agg [.sl (.ints Open), .sl (.rows Dist)], .int .i64 k] => some (.tup [.d (.int .i64 (bpA Open Dist k)), .d (.int .i64 (bpB Open Dist k)), .d (.bool (goodField Open Dist && inB k 1 (Open.length : Int)))])
  | _ => none
abbrev i_BestPrice_JJ0 (Open : List Int) (Dist : List (List Int)) (k : Int) (best : Int) (price : Int) : Prop := (0 ≤ price) ∧ (price ≤ 1000) ∧ (best = bpTo (valsL Open Dist Open.length) k price.toNat) ∧ (0 ≤ best ∧ best ≤ 999)
abbrev i_BestPrice_mJ0 (Open : List Int) (Dist : List (List Int)) (k : Int) (best : Int) (price : Int) : Nat := (1000 - price).toNat
def i_BestPrice_C (f : FuncId) (ds : List D) : Orc := bif Nat.beq f 141 then i_isMedianCase_orc ds else bif Nat.beq f 157 then i_Field_values_orc ds else bif Nat.beq f 156 then i_priceBound_orc ds else .no
def i_BestPrice_A (Open : List Int) (Dist : List (List Int)) (k : Int) : Ann := .two (.none) (.two (.none) (.two (.none) (.two (.two (.none) (.loop (cut2 (fun (best : Int) (price : Int) => i_BestPrice_JJ0 Open Dist k best price) (fun (best : Int) (price : Int) => [(1, .d false (.int .i64 k)), (7, .own 15 ((valsL Open Dist Open.length).length)), (8, .d true (.int .i64 best)), (16, .d true (.int .i64 price))]) (fun (best : Int) (price : Int) => [(15, .arr true 3 (.ints (valsL Open Dist Open.length)))])) (fun g => i_BestPrice_mJ0 Open Dist k g.1 g.2) (fun _ => .none))) (.none))))
def i_BestPrice_P (Open : List Int) (Dist : List (List Int)) (k : Int) : Prop :=
  (PC Try.prog 141 [.agg [.sl (.ints Open), .sl (.rows Dist)], .int .i64 k] (.one (.d (.bool (goodField Open Dist && inB k 1 (Open.length : Int)))))) ∧ (((!(goodField Open Dist && inB k 1 (Open.length : Int))) = true → (((0 : Int) = (bpA Open Dist k)) ∧ ((0 : Int) = (bpB Open Dist k)) ∧ (false = (goodField Open Dist && inB k 1 (Open.length : Int))))) ∧ ((!(goodField Open Dist && inB k 1 (Open.length : Int))) = false → (PC Try.prog 157 [.agg [.sl (.ints Open), .sl (.rows Dist)]] (.one (.own 3 (.ints (valsL Open Dist Open.length))))) ∧ ((∃ best' : Int, ∃ price' : Int, (i_BestPrice_JJ0 Open Dist k best' price') ∧ (k = k) ∧ ((valsL Open Dist Open.length).length = (valsL Open Dist Open.length).length) ∧ ((0 : Int) = best') ∧ ((0 : Int) = price') ∧ (valsL Open Dist Open.length = valsL Open Dist Open.length)) ∧ (∀ best : Int, ∀ price : Int, (i_BestPrice_JJ0 Open Dist k best price) → (((decide (price < 1000)) = true → ((valsL Open Dist Open.length).length = (valsL Open Dist Open.length).length) ∧ (PC Try.prog 156 [.sl (.ints (valsL Open Dist Open.length)), .int .i64 k, .int .i64 price] (.one (.d (.int .i64 (prcd (valsL Open Dist Open.length) k price))))) ∧ ((valsL Open Dist Open.length).length = (valsL Open Dist Open.length).length) ∧ (PC Try.prog 156 [.sl (.ints (valsL Open Dist Open.length)), .int .i64 k, .int .i64 best] (.one (.d (.int .i64 (prcd (valsL Open Dist Open.length) k best))))) ∧ (((decide ((prcd (valsL Open Dist Open.length) k price) > (prcd (valsL Open Dist Open.length) k best))) = true → (-9223372036854775808 ≤ (price + 1) ∧ (price + 1) ≤ 9223372036854775807) ∧ (∃ best' : Int, ∃ price' : Int, (i_BestPrice_JJ0 Open Dist k best' price') ∧ (i_BestPrice_mJ0 Open Dist k best' price' < i_BestPrice_mJ0 Open Dist k best price) ∧ (k = k) ∧ ((valsL Open Dist Open.length).length = (valsL Open Dist Open.length).length) ∧ (price = best') ∧ ((price + 1) = price') ∧ (valsL Open Dist Open.length = valsL Open Dist Open.length))) ∧ ((decide ((prcd (valsL Open Dist Open.length) k price) > (prcd (valsL Open Dist Open.length) k best))) = false → (-9223372036854775808 ≤ (price + 1) ∧ (price + 1) ≤ 9223372036854775807) ∧ (∃ best' : Int, ∃ price' : Int, (i_BestPrice_JJ0 Open Dist k best' price') ∧ (i_BestPrice_mJ0 Open Dist k best' price' < i_BestPrice_mJ0 Open Dist k best price) ∧ (k = k) ∧ ((valsL Open Dist Open.length).length = (valsL Open Dist Open.length).length) ∧ (best = best') ∧ ((price + 1) = price') ∧ (valsL Open Dist Open.length = valsL Open Dist Open.length))))) ∧ ((decide (price < 1000)) = false → ((valsL Open Dist Open.length).length = (valsL Open Dist Open.length).length) ∧ (PC Try.prog 156 [.sl (.ints (valsL Open Dist Open.length)), .int .i64 k, .int .i64 best] (.one (.d (.int .i64 (prcd (valsL Open Dist Open.length) k best))))) ∧ ((best = (bpA Open Dist k)) ∧ ((prcd (valsL Open Dist Open.length) k best) = (bpB Open Dist k)) ∧ (true = (goodField Open Dist && inB k 1 (Open.length : Int))))))))))
theorem i_BestPrice_vc (Open : List Int) (Dist : List (List Int)) (k : Int)  (w_Open : (Open.length : Int) ≤ 9223372036854775807) (w_Dist : (Dist.length : Int) ≤ 9223372036854775807) (v_Dist : ∀ x9 ∈ Dist, (x9.length : Int) ≤ 9223372036854775807) : i_BestPrice_P Open Dist k := by
  unfold i_BestPrice_P
  refine ⟨i_isMedianCase_pc Open Dist k, ?_, ?_⟩
  ·intro b1
   try simp only [Bool.not_eq_true', Bool.not_eq_false', Bool.not_not] at b1
   refine ⟨?_, ?_, ?_⟩
   ·have hgk : (goodField Open Dist && inB k 1 (Open.length : Int)) = false := by simpa using b1
    unfold bpA; rw [hgk]; rfl
   ·have hgk : (goodField Open Dist && inB k 1 (Open.length : Int)) = false := by simpa using b1
    unfold bpB; rw [hgk]; rfl
   ·have hgk : (goodField Open Dist && inB k 1 (Open.length : Int)) = false := by simpa using b1
    exact hgk.symm
  ·intro b2
   try simp only [Bool.not_eq_true', Bool.not_eq_false', Bool.not_not] at b2
   refine ⟨?_, ?_, ?_⟩
   ·refine i_Field_values_pc Open Dist ?_
    ·have hgk : (goodField Open Dist && inB k 1 (Open.length : Int)) = true := by simpa using b2
     obtain ⟨hg, hk⟩ := (Bool.and_eq_true _ _ ▸ hgk : _ ∧ _)
     have hk2 := inB_le hk
     obtain ⟨g1, g2, g3⟩ := gf_open hg
     exact hg
   ·refine ⟨0, 0, ?_⟩
    refine ⟨?_, rfl, rfl, rfl, rfl, rfl⟩
    ·refine ⟨?_, ?_, ?_, ?_⟩
     ·omega
     ·omega
     ·first | rfl | exact (bpTo_one _ _).symm
     ·omega
   ·intro best price hJ
    obtain ⟨h1, h2, h3, h4⟩ := hJ
    refine ⟨?_, ?_⟩
    ·intro b3
     try simp only [nrmT] at b3
     refine ⟨rfl, ?_, rfl, ?_, ?_, ?_⟩
     ·refine i_priceBound_pc (valsL Open Dist Open.length) k price ?_ ?_ ?_ ?_
      ·have hgk : (goodField Open Dist && inB k 1 (Open.length : Int)) = true := by simpa using b2
       obtain ⟨hg, hk⟩ := (Bool.and_eq_true _ _ ▸ hgk : _ ∧ _)
       have hk2 := inB_le hk
       obtain ⟨g1, g2, g3⟩ := gf_open hg
       exact valsL_in hg
      ·have hgk : (goodField Open Dist && inB k 1 (Open.length : Int)) = true := by simpa using b2
       obtain ⟨hg, hk⟩ := (Bool.and_eq_true _ _ ▸ hgk : _ ∧ _)
       have hk2 := inB_le hk
       obtain ⟨g1, g2, g3⟩ := gf_open hg
       rw [valsL_len]; omega
      ·have hgk : (goodField Open Dist && inB k 1 (Open.length : Int)) = true := by simpa using b2
       obtain ⟨hg, hk⟩ := (Bool.and_eq_true _ _ ▸ hgk : _ ∧ _)
       have hk2 := inB_le hk
       obtain ⟨g1, g2, g3⟩ := gf_open hg
       omega
      ·omega
     ·refine i_priceBound_pc (valsL Open Dist Open.length) k best ?_ ?_ ?_ ?_
      ·have hgk : (goodField Open Dist && inB k 1 (Open.length : Int)) = true := by simpa using b2
       obtain ⟨hg, hk⟩ := (Bool.and_eq_true _ _ ▸ hgk : _ ∧ _)
       have hk2 := inB_le hk
       obtain ⟨g1, g2, g3⟩ := gf_open hg
       exact valsL_in hg
      ·have hgk : (goodField Open Dist && inB k 1 (Open.length : Int)) = true := by simpa using b2
       obtain ⟨hg, hk⟩ := (Bool.and_eq_true _ _ ▸ hgk : _ ∧ _)
       have hk2 := inB_le hk
       obtain ⟨g1, g2, g3⟩ := gf_open hg
       rw [valsL_len]; omega
      ·have hgk : (goodField Open Dist && inB k 1 (Open.length : Int)) = true := by simpa using b2
       obtain ⟨hg, hk⟩ := (Bool.and_eq_true _ _ ▸ hgk : _ ∧ _)
       have hk2 := inB_le hk
       obtain ⟨g1, g2, g3⟩ := gf_open hg
       omega
      ·omega
     ·intro b4
      try simp only [nrmT] at b4
      refine ⟨?_, ?_⟩
      ·omega
      ·refine ⟨price, (price + 1), ?_⟩
       refine ⟨?_, ?_, rfl, rfl, rfl, rfl, rfl⟩
       ·refine ⟨?_, ?_, ?_, ?_⟩
        ·omega
        ·omega
        ·rw [show (price + 1).toNat = price.toNat + 1 by omega, bpTo_succ, ← h3]
         unfold bpF
         rw [show ((price.toNat : Nat) : Int) = price by omega, if_pos b4]
        ·omega
       ·first | (show _ < _; omega) | (simp only [i_BestPrice_mJ0]; omega) | (simp only [i_BestPrice_mJ0] at *; simp at *; omega)
     ·intro b5
      try simp only [nrmT] at b5
      refine ⟨?_, ?_⟩
      ·omega
      ·refine ⟨best, (price + 1), ?_⟩
       refine ⟨?_, ?_, rfl, rfl, rfl, rfl, rfl⟩
       ·refine ⟨?_, ?_, ?_, ?_⟩
        ·omega
        ·omega
        ·rw [show (price + 1).toNat = price.toNat + 1 by omega, bpTo_succ, ← h3]
         unfold bpF
         rw [show ((price.toNat : Nat) : Int) = price by omega, if_neg (by omega)]
        ·omega
       ·first | (show _ < _; omega) | (simp only [i_BestPrice_mJ0]; omega) | (simp only [i_BestPrice_mJ0] at *; simp at *; omega)
    ·intro b6
     try simp only [nrmT] at b6
     refine ⟨rfl, ?_, ?_, ?_, ?_⟩
     ·refine i_priceBound_pc (valsL Open Dist Open.length) k best ?_ ?_ ?_ ?_
      ·have hgk : (goodField Open Dist && inB k 1 (Open.length : Int)) = true := by simpa using b2
       obtain ⟨hg, hk⟩ := (Bool.and_eq_true _ _ ▸ hgk : _ ∧ _)
       have hk2 := inB_le hk
       obtain ⟨g1, g2, g3⟩ := gf_open hg
       exact valsL_in hg
      ·have hgk : (goodField Open Dist && inB k 1 (Open.length : Int)) = true := by simpa using b2
       obtain ⟨hg, hk⟩ := (Bool.and_eq_true _ _ ▸ hgk : _ ∧ _)
       have hk2 := inB_le hk
       obtain ⟨g1, g2, g3⟩ := gf_open hg
       rw [valsL_len]; omega
      ·have hgk : (goodField Open Dist && inB k 1 (Open.length : Int)) = true := by simpa using b2
       obtain ⟨hg, hk⟩ := (Bool.and_eq_true _ _ ▸ hgk : _ ∧ _)
       have hk2 := inB_le hk
       obtain ⟨g1, g2, g3⟩ := gf_open hg
       omega
      ·omega
     ·have hgk : (goodField Open Dist && inB k 1 (Open.length : Int)) = true := by simpa using b2
      obtain ⟨hg, hk⟩ := (Bool.and_eq_true _ _ ▸ hgk : _ ∧ _)
      have hk2 := inB_le hk
      obtain ⟨g1, g2, g3⟩ := gf_open hg
      unfold bpA; rw [if_pos hgk, h3, show price.toNat = 1000 by omega]
     ·have hgk : (goodField Open Dist && inB k 1 (Open.length : Int)) = true := by simpa using b2
      obtain ⟨hg, hk⟩ := (Bool.and_eq_true _ _ ▸ hgk : _ ∧ _)
      have hk2 := inB_le hk
      obtain ⟨g1, g2, g3⟩ := gf_open hg
      unfold bpB; rw [if_pos hgk, h3, show price.toNat = 1000 by omega]
     ·have hgk : (goodField Open Dist && inB k 1 (Open.length : Int)) = true := by simpa using b2
      obtain ⟨hg, hk⟩ := (Bool.and_eq_true _ _ ▸ hgk : _ ∧ _)
      have hk2 := inB_le hk
      obtain ⟨g1, g2, g3⟩ := gf_open hg
      exact hgk.symm
theorem i_BestPrice_pc (Open : List Int) (Dist : List (List Int)) (k : Int)  : PC Try.prog 64 [.agg [.sl (.ints Open), .sl (.rows Dist)], .int .i64 k] (.tup [.d (.int .i64 (bpA Open Dist k)), .d (.int .i64 (bpB Open Dist k)), .d (.bool (goodField Open Dist && inB k 1 (Open.length : Int)))]) :=
  pc_wf @Try.call64 fun hw => pc_by (by kernel_rfl) Try.func64 @Try.call64 (by kernel_rfl) i_BestPrice_C (i_BestPrice_A Open Dist k) (by kernel_rfl) (i_BestPrice_vc Open Dist k hw.1.1 hw.1.2.1.1 hw.1.2.1.2) (by kernel_rfl)
def i_BestPrice_orc : List D → Orc := orcN [none, none] fun ds => match ds with
  | [.agg [.sl (.ints Open), .sl (.rows Dist)], .int .i64 k] => some (.tup [.d (.int .i64 (bpA Open Dist k)), .d (.int .i64 (bpB Open Dist k)), .d (.bool (goodField Open Dist && inB k 1 (Open.length : Int)))])
  | _ => none
/-- How far a cursor has read, and its seed. -/
structure Cur where
  pos : Int
  seed : Int
abbrev cur0 : Cur := ⟨0, 0⟩
def okC (c : Cur) (b : Int) : Prop := 0 ≤ c.pos ∧ c.pos ≤ b ∧ 0 ≤ c.seed ∧ c.seed ≤ 18446744073709551615
theorem cond_cur_pos (g : Bool) (a b : Cur) : cond g a.pos b.pos = (cond g a b).pos := by cases g <;> rfl
theorem cond_cur_seed (g : Bool) (a b : Cur) : cond g a.seed b.seed = (cond g a b).seed := by cases g <;> rfl
def nxB (code : List Nat) (c : Cur) : Int := if c.pos < (code.length : Int) then ((code.getD c.pos.toNat 0 : Nat) : Int) else 0
def nextC (code : List Nat) (c : Cur) : Cur := ⟨c.pos + 1, IntKind.u64.wrap (IntKind.u64.wrap (IntKind.u64.wrap (c.seed * 6364136223846793005) + nxB code c) + 462197)⟩
def nextV (code : List Nat) (c : Cur) : Int := if c.pos + 1 ≤ (code.length : Int) then nxB code c else ((((nextC code c).seed / 2 ^ 40).toNat &&& 255 : Nat) : Int)
theorem wrap_u64 (n : Int) : 0 ≤ IntKind.u64.wrap n ∧ IntKind.u64.wrap n ≤ 18446744073709551615 := by
  have h : IntKind.u64.wrap n = n % 18446744073709551616 := rfl
  omega
theorem nxB_in {code : List Nat} (hb : ∀ x9 ∈ code, x9 < 256) (c : Cur) (h0 : 0 ≤ c.pos) : 0 ≤ nxB code c ∧ nxB code c ≤ 255 := by
  unfold nxB
  split
  · have := hb _ (getD_mem (d := 0) (show c.pos.toNat < code.length by omega))
    omega
  · omega
theorem and255 (n : Nat) : n &&& 255 ≤ 255 := Nat.and_le_right
theorem nextV_in {code : List Nat} (hb : ∀ x9 ∈ code, x9 < 256) {c : Cur} (h0 : 0 ≤ c.pos) : 0 ≤ nextV code c ∧ nextV code c ≤ 255 := by
  unfold nextV
  split
  · exact nxB_in hb c h0
  · have := and255 ((nextC code c).seed / 2 ^ 40).toNat
    omega
theorem ok_next {code : List Nat} {c : Cur} {b : Int} (h : okC c b) : okC (nextC code c) (b + 1) := by
  obtain ⟨h1, h2, _, _⟩ := h
  exact ⟨by show 0 ≤ c.pos + 1; omega, by show c.pos + 1 ≤ b + 1; omega, (wrap_u64 _).1, (wrap_u64 _).2⟩
theorem okC_le {c : Cur} {b b' : Int} (h : okC c b) (hb : b ≤ b') : okC c b' := ⟨h.1, Int.le_trans h.2.1 hb, h.2.2⟩
def s_l1Cur_next_C (f : FuncId) (ds : List D) : Orc := .no
def s_l1Cur_next_A (u : Value) (code : List Nat) (c : Cur) : Ann := .two (.none) (.two (.none) (.two (.none) (.two (.none) (.two (.reg [(5, .wrap), (8, .wrap), (9, .wrap)]) (.none)))))
def s_l1Cur_next_P (u : Value) (code : List Nat) (c : Cur) : Prop :=
  (true = true) ∧ (((decide (c.pos < (code.length : Int))) = true → (true = true) ∧ ((0 : Int) ≤ c.pos) ∧ ((c.pos : Int) < code.length) ∧ (c.pos.toNat < code.length) ∧ (-9223372036854775808 ≤ ((code.getD c.pos.toNat 0 : Nat) : Int) ∧ ((code.getD c.pos.toNat 0 : Nat) : Int) ≤ 9223372036854775807) ∧ (-9223372036854775808 ≤ (c.pos + 1) ∧ (c.pos + 1) ≤ 9223372036854775807) ∧ (0 ≤ ((code.getD c.pos.toNat 0 : Nat) : Int) ∧ ((code.getD c.pos.toNat 0 : Nat) : Int) ≤ 18446744073709551615) ∧ (true = true) ∧ (((decide ((c.pos + 1) ≤ (code.length : Int))) = true → (((.lit u (.sl (.bytes code)) : D) = .lit u (.sl (.bytes code))) ∧ ((c.pos + 1) = (nextC code c).pos) ∧ ((IntKind.u64.wrap ((IntKind.u64.wrap ((IntKind.u64.wrap (c.seed * 6364136223846793005)) + ((code.getD c.pos.toNat 0 : Nat) : Int))) + 462197)) = (nextC code c).seed) ∧ (((code.getD c.pos.toNat 0 : Nat) : Int) = (nextV code c)))) ∧ ((decide ((c.pos + 1) ≤ (code.length : Int))) = false → ((0 : Int) ≤ (IntKind.u64.wrap ((IntKind.u64.wrap ((IntKind.u64.wrap (c.seed * 6364136223846793005)) + ((code.getD c.pos.toNat 0 : Nat) : Int))) + 462197)) ∧ ((IntKind.u64.wrap ((IntKind.u64.wrap ((IntKind.u64.wrap (c.seed * 6364136223846793005)) + ((code.getD c.pos.toNat 0 : Nat) : Int))) + 462197)) : Int) ≤ 18446744073709551615) ∧ ((0 : Int) ≤ 40) ∧ ((0 : Int) ≤ ((IntKind.u64.wrap ((IntKind.u64.wrap ((IntKind.u64.wrap (c.seed * 6364136223846793005)) + ((code.getD c.pos.toNat 0 : Nat) : Int))) + 462197)) / 2 ^ 40) ∧ (((IntKind.u64.wrap ((IntKind.u64.wrap ((IntKind.u64.wrap (c.seed * 6364136223846793005)) + ((code.getD c.pos.toNat 0 : Nat) : Int))) + 462197)) / 2 ^ 40) : Int) ≤ 18446744073709551615) ∧ ((0 : Int) ≤ 255 ∧ (255 : Int) ≤ 18446744073709551615) ∧ (-9223372036854775808 ≤ ((((IntKind.u64.wrap ((IntKind.u64.wrap ((IntKind.u64.wrap (c.seed * 6364136223846793005)) + ((code.getD c.pos.toNat 0 : Nat) : Int))) + 462197)) / 2 ^ 40).toNat &&& 255 : Nat) : Int) ∧ ((((IntKind.u64.wrap ((IntKind.u64.wrap ((IntKind.u64.wrap (c.seed * 6364136223846793005)) + ((code.getD c.pos.toNat 0 : Nat) : Int))) + 462197)) / 2 ^ 40).toNat &&& 255 : Nat) : Int) ≤ 9223372036854775807) ∧ (((.lit u (.sl (.bytes code)) : D) = .lit u (.sl (.bytes code))) ∧ ((c.pos + 1) = (nextC code c).pos) ∧ ((IntKind.u64.wrap ((IntKind.u64.wrap ((IntKind.u64.wrap (c.seed * 6364136223846793005)) + ((code.getD c.pos.toNat 0 : Nat) : Int))) + 462197)) = (nextC code c).seed) ∧ (((((IntKind.u64.wrap ((IntKind.u64.wrap ((IntKind.u64.wrap (c.seed * 6364136223846793005)) + ((code.getD c.pos.toNat 0 : Nat) : Int))) + 462197)) / 2 ^ 40).toNat &&& 255 : Nat) : Int) = (nextV code c)))))) ∧ ((decide (c.pos < (code.length : Int))) = false → (-9223372036854775808 ≤ (c.pos + 1) ∧ (c.pos + 1) ≤ 9223372036854775807) ∧ (0 ≤ (0 : Int) ∧ (0 : Int) ≤ 18446744073709551615) ∧ (true = true) ∧ (((decide ((c.pos + 1) ≤ (code.length : Int))) = true → (((.lit u (.sl (.bytes code)) : D) = .lit u (.sl (.bytes code))) ∧ ((c.pos + 1) = (nextC code c).pos) ∧ ((IntKind.u64.wrap ((IntKind.u64.wrap ((IntKind.u64.wrap (c.seed * 6364136223846793005)) + 0)) + 462197)) = (nextC code c).seed) ∧ ((0 : Int) = (nextV code c)))) ∧ ((decide ((c.pos + 1) ≤ (code.length : Int))) = false → ((0 : Int) ≤ (IntKind.u64.wrap ((IntKind.u64.wrap ((IntKind.u64.wrap (c.seed * 6364136223846793005)) + 0)) + 462197)) ∧ ((IntKind.u64.wrap ((IntKind.u64.wrap ((IntKind.u64.wrap (c.seed * 6364136223846793005)) + 0)) + 462197)) : Int) ≤ 18446744073709551615) ∧ ((0 : Int) ≤ 40) ∧ ((0 : Int) ≤ ((IntKind.u64.wrap ((IntKind.u64.wrap ((IntKind.u64.wrap (c.seed * 6364136223846793005)) + 0)) + 462197)) / 2 ^ 40) ∧ (((IntKind.u64.wrap ((IntKind.u64.wrap ((IntKind.u64.wrap (c.seed * 6364136223846793005)) + 0)) + 462197)) / 2 ^ 40) : Int) ≤ 18446744073709551615) ∧ ((0 : Int) ≤ 255 ∧ (255 : Int) ≤ 18446744073709551615) ∧ (-9223372036854775808 ≤ ((((IntKind.u64.wrap ((IntKind.u64.wrap ((IntKind.u64.wrap (c.seed * 6364136223846793005)) + 0)) + 462197)) / 2 ^ 40).toNat &&& 255 : Nat) : Int) ∧ ((((IntKind.u64.wrap ((IntKind.u64.wrap ((IntKind.u64.wrap (c.seed * 6364136223846793005)) + 0)) + 462197)) / 2 ^ 40).toNat &&& 255 : Nat) : Int) ≤ 9223372036854775807) ∧ (((.lit u (.sl (.bytes code)) : D) = .lit u (.sl (.bytes code))) ∧ ((c.pos + 1) = (nextC code c).pos) ∧ ((IntKind.u64.wrap ((IntKind.u64.wrap ((IntKind.u64.wrap (c.seed * 6364136223846793005)) + 0)) + 462197)) = (nextC code c).seed) ∧ (((((IntKind.u64.wrap ((IntKind.u64.wrap ((IntKind.u64.wrap (c.seed * 6364136223846793005)) + 0)) + 462197)) / 2 ^ 40).toNat &&& 255 : Nat) : Int) = (nextV code c)))))))
theorem s_l1Cur_next_vc (u : Value) (code : List Nat) (c : Cur) (hb : ∀ x9 ∈ code, x9 < 256) (hc : okC c 1000000000000)  : s_l1Cur_next_P u code c := by
  unfold s_l1Cur_next_P
  obtain ⟨c1, c2, c3, c4⟩ := hc
  have nb := nxB_in hb c c1
  have w64 := wrap_u64
  refine ⟨rfl, ?_, ?_⟩
  ·intro b1
   try simp only [nrmT] at b1
   refine ⟨rfl, ?_, ?_, ?_, ?_, ?_, ?_, rfl, ?_, ?_⟩
   ·omega
   ·omega
   ·omega
   ·have := hb _ (getD_mem (d := 0) (show c.pos.toNat < code.length by omega))
    omega
   ·omega
   ·have := hb _ (getD_mem (d := 0) (show c.pos.toNat < code.length by omega))
    omega
   ·intro b2
    try simp only [nrmT] at b2
    refine ⟨rfl, ?_, ?_, ?_⟩
    ·rfl
    ·have hs : (nextC code c).seed = IntKind.u64.wrap (IntKind.u64.wrap (IntKind.u64.wrap (c.seed * 6364136223846793005) + nxB code c) + 462197) := rfl
     first | rw [show nxB code c = ((code.getD c.pos.toNat 0 : Nat) : Int) from if_pos (by omega)] at hs | rw [show nxB code c = 0 from if_neg (by omega)] at hs
     first | exact hs.symm | (exfalso; omega)
    ·unfold nextV nxB; rw [if_pos (by omega), if_pos (by omega)]
   ·intro b3
    try simp only [nrmT] at b3
    refine ⟨?_, ?_, ?_, ?_, ?_, rfl, ?_, ?_, ?_⟩
    ·have := hb _ (getD_mem (d := 0) (show c.pos.toNat < code.length by omega))
     omega
    ·omega
    ·have := hb _ (getD_mem (d := 0) (show c.pos.toNat < code.length by omega))
     omega
    ·omega
    ·have := hb _ (getD_mem (d := 0) (show c.pos.toNat < code.length by omega))
     omega
    ·omega
    ·have hs : (nextC code c).seed = IntKind.u64.wrap (IntKind.u64.wrap (IntKind.u64.wrap (c.seed * 6364136223846793005) + nxB code c) + 462197) := rfl
     first | rw [show nxB code c = ((code.getD c.pos.toNat 0 : Nat) : Int) from if_pos (by omega)] at hs | rw [show nxB code c = 0 from if_neg (by omega)] at hs
     first | exact hs.symm | (exfalso; omega)
    ·have hs : (nextC code c).seed = IntKind.u64.wrap (IntKind.u64.wrap (IntKind.u64.wrap (c.seed * 6364136223846793005) + nxB code c) + 462197) := rfl
     first | rw [show nxB code c = ((code.getD c.pos.toNat 0 : Nat) : Int) from if_pos (by omega)] at hs | rw [show nxB code c = 0 from if_neg (by omega)] at hs
     unfold nextV
     rw [if_neg (by omega), hs]
  ·intro b4
   try simp only [nrmT] at b4
   refine ⟨?_, ?_, rfl, ?_, ?_⟩
   ·omega
   ·omega
   ·intro b5
    try simp only [nrmT] at b5
    refine ⟨rfl, ?_, ?_, ?_⟩
    ·omega
    ·have hs : (nextC code c).seed = IntKind.u64.wrap (IntKind.u64.wrap (IntKind.u64.wrap (c.seed * 6364136223846793005) + nxB code c) + 462197) := rfl
     first | rw [show nxB code c = ((code.getD c.pos.toNat 0 : Nat) : Int) from if_pos (by omega)] at hs | rw [show nxB code c = 0 from if_neg (by omega)] at hs
     first | exact hs.symm | (exfalso; omega)
    ·omega
   ·intro b6
    try simp only [nrmT] at b6
    refine ⟨?_, ?_, ?_, ?_, ?_, rfl, ?_, ?_, ?_⟩
    ·exact w64 _
    ·omega
    ·have := w64 (IntKind.u64.wrap (IntKind.u64.wrap (c.seed * 6364136223846793005) + 0) + 462197)
     generalize IntKind.u64.wrap (IntKind.u64.wrap (IntKind.u64.wrap (c.seed * 6364136223846793005) + 0) + 462197) = z at *
     omega
    ·omega
    ·have := and255 ((IntKind.u64.wrap (IntKind.u64.wrap (IntKind.u64.wrap (c.seed * 6364136223846793005) + 0) + 462197)) / 2 ^ 40).toNat
     omega
    ·rfl
    ·have hs : (nextC code c).seed = IntKind.u64.wrap (IntKind.u64.wrap (IntKind.u64.wrap (c.seed * 6364136223846793005) + nxB code c) + 462197) := rfl
     first | rw [show nxB code c = ((code.getD c.pos.toNat 0 : Nat) : Int) from if_pos (by omega)] at hs | rw [show nxB code c = 0 from if_neg (by omega)] at hs
     first | exact hs.symm | (exfalso; omega)
    ·have hs : (nextC code c).seed = IntKind.u64.wrap (IntKind.u64.wrap (IntKind.u64.wrap (c.seed * 6364136223846793005) + nxB code c) + 462197) := rfl
     first | rw [show nxB code c = ((code.getD c.pos.toNat 0 : Nat) : Int) from if_pos (by omega)] at hs | rw [show nxB code c = 0 from if_neg (by omega)] at hs
     unfold nextV
     rw [if_neg (by omega), hs]
theorem s_l1Cur_next_pk (code : List Nat) (c : Cur) (hb : ∀ x9 ∈ code, x9 < 256) (hc : okC c 1000000000000) : PK Try.prog 195 98 (.sl (.bytes code)) [.int .i64 c.pos, .int .u64 c.seed] [.int .i64 (nextC code c).pos, .int .u64 (nextC code c).seed] [] (.one (.d (.int .i64 (nextV code c)))) :=
  pk_by (Q := fun u => s_l1Cur_next_P u code c) (by kernel_rfl) Try.func195 @Try.call195 (by kernel_rfl) s_l1Cur_next_C (fun u => s_l1Cur_next_A u code c) (by kernel_rfl) (fun u => s_l1Cur_next_vc u code c hb hc) (fun u => by kernel_rfl)
def pickC (code : List Nat) (c : Cur) (n : Int) : Cur := if n ≤ 1 then c else if n > 200 then nextC code (nextC code c) else nextC code c
def pickV (code : List Nat) (c : Cur) (n : Int) : Int := if n ≤ 1 then 0 else (if n > 200 then nextV code c * 256 + nextV code (nextC code c) else nextV code c) % n
theorem ok_pick {code : List Nat} {c : Cur} {n b : Int} (h : okC c b) : okC (pickC code c n) (b + 2) := by
  unfold pickC
  split
  · exact okC_le h (by omega)
  · split
    · have := ok_next (code := code) (ok_next (code := code) h)
      exact okC_le this (by omega)
    · exact okC_le (ok_next h) (by omega)
end Go.Proofs.Ytomnmacmlhkceaa
