/- Contracts. -/
import Derived.Test.YtmcbcomcejgbcaaPw
import Derived.Test.YtmcbcomcejgbcaaProg
import Derived.Test.YtmcbcomcejgbcaaT3
import Derived.KernelRfl
set_option linter.unusedVariables false
set_option linter.unusedSimpArgs false
namespace Go.Proofs.Ytmcbcomcejgbcaa
open Go

def rowOk (row : List Int) (n most : Int) : Bool := row.all (fun x => inB x 0 most) && decide ((row.length : Int) = n)
def goodField (Open : List Int) (Dist : List (List Int)) : Bool :=
  inB (Open.length : Int) 1 7 && Open.all (fun x => inB x 0 99) && decide (Dist.length ≤ 7) && Dist.all (fun l => rowOk l (Open.length : Int) 99)
theorem gf_open {Open : List Int} {Dist : List (List Int)} (h : goodField Open Dist = true) : 1 ≤ Open.length ∧ Open.length ≤ 7 ∧ Dist.length ≤ 7 := by
  simp only [goodField, Bool.and_eq_true, decide_eq_true_eq] at h
  have := inB_le h.1.1.1
  omega
theorem gf_row {Open : List Int} {Dist : List (List Int)} (h : goodField Open Dist = true) {i : Nat} (hi : i < Dist.length) : (Dist.getD i []).length = Open.length ∧ ∀ a, a < Open.length → 0 ≤ (Dist.getD i []).getD a 0 ∧ (Dist.getD i []).getD a 0 ≤ 99 := by
  simp only [goodField, Bool.and_eq_true, decide_eq_true_eq] at h
  have h2 := List.all_eq_true.1 h.2 _ (getD_mem (d := []) hi)
  simp only [rowOk, Bool.and_eq_true, decide_eq_true_eq] at h2
  refine ⟨by omega, fun a ha => ?_⟩
  exact inB_le (List.all_eq_true.1 h2.1 _ (getD_mem (by omega)))
theorem gf_o {Open : List Int} {Dist : List (List Int)} (h : goodField Open Dist = true) {a : Nat} (ha : a < Open.length) : 0 ≤ Open.getD a 0 ∧ Open.getD a 0 ≤ 99 := by
  simp only [goodField, Bool.and_eq_true, decide_eq_true_eq] at h
  exact inB_le (List.all_eq_true.1 h.1.1.2 _ (getD_mem ha))
def szField (o : List Int) (d : List (List Int)) (left : Int) : Int := if sz1 o.length left < 0 then -1 else if szRows d (sz1 o.length left) < 0 then -1 else szRows d (sz1 o.length left)
theorem szField_bound {o : List Int} {d : List (List Int)} {left : Int} (h : 0 ≤ szField o d left) : (o.length : Int) ≤ left ∧ (d.length : Int) ≤ left ∧ (∀ xs ∈ d, (xs.length : Int) ≤ left) := by
  unfold szField at h
  by_cases h1 : sz1 o.length left < 0
  · rw [if_pos h1] at h; omega
  · rw [if_neg h1] at h
    obtain ⟨a1, a2⟩ := sz1_bound (by omega : 0 ≤ sz1 o.length left)
    by_cases h2 : szRows d (sz1 o.length left) < 0
    · rw [if_pos h2] at h; omega
    · obtain ⟨b1, b2, b3⟩ := szRows_bound (by omega : 0 ≤ szRows d (sz1 o.length left))
      exact ⟨a2, by omega, fun xs hx => by have := b3 xs hx; omega⟩

def l_szField_C (f : FuncId) (ds : List D) : Orc := bif Nat.beq f 84 then l_szIntS_orc ds else bif Nat.beq f 83 then l_szIntSS_orc ds else .no
def l_szField_A (Open : List Int) (Dist : List (List Int)) (left : Int) : Ann := .none
def l_szField_P (Open : List Int) (Dist : List (List Int)) (left : Int) : Prop :=
  (PC Try.prog 84 [.sl (.ints Open), .int .i64 left] (.one (.d (.int .i64 (sz1 Open.length left))))) ∧ (((decide ((sz1 Open.length left) < 0)) = true → ((((-1) : Int) = (szField Open Dist left)))) ∧ ((decide ((sz1 Open.length left) < 0)) = false → (PC Try.prog 83 [.sl (.rows Dist), .int .i64 (sz1 Open.length left)] (.one (.d (.int .i64 (szRows Dist (sz1 Open.length left)))))) ∧ (((decide ((szRows Dist (sz1 Open.length left)) < 0)) = true → ((((-1) : Int) = (szField Open Dist left)))) ∧ ((decide ((szRows Dist (sz1 Open.length left)) < 0)) = false → (((szRows Dist (sz1 Open.length left)) = (szField Open Dist left)))))))
theorem l_szField_vc (Open : List Int) (Dist : List (List Int)) (left : Int) (hl : 0 ≤ left ∧ left ≤ 1048576) (w_Open : (Open.length : Int) ≤ 9223372036854775807) (w_Dist : (Dist.length : Int) ≤ 9223372036854775807) (v_Dist : ∀ x9 ∈ Dist, (x9.length : Int) ≤ 9223372036854775807) : l_szField_P Open Dist left := by
  unfold l_szField_P
  refine ⟨?_, ?_, ?_⟩
  · refine l_szIntS_pc Open left ?_
    · first | omega | rfl | (intro hg; simp only [nrmT] at hg; omega) | (intro g1 g2; simp [g1, g2]; done) | (intro g1; simp at g1 ⊢; simp [g1]; done) | (simp only [nrmT] at *; omega) | (simp at * <;> omega) | (simp_all <;> omega) | (simp_all; done)
  · intro b1
    try simp only [nrmT] at b1
    unfold szField; first | rw [if_pos (by omega)] | rw [if_neg (by omega), if_pos (by omega)] | rw [if_neg (by omega), if_neg (by omega)]
  · intro b2
    try simp only [nrmT] at b2
    refine ⟨?_, ?_, ?_⟩
    · refine l_szIntSS_pc Dist (sz1 Open.length left) ?_
      · have := sz1_bound (n := Open.length) (left := left) (by omega); omega
    · intro b3
      try simp only [nrmT] at b3
      unfold szField; first | rw [if_pos (by omega)] | rw [if_neg (by omega), if_pos (by omega)] | rw [if_neg (by omega), if_neg (by omega)]
    · intro b4
      try simp only [nrmT] at b4
      unfold szField; first | rw [if_pos (by omega)] | rw [if_neg (by omega), if_pos (by omega)] | rw [if_neg (by omega), if_neg (by omega)]
theorem l_szField_pc (Open : List Int) (Dist : List (List Int)) (left : Int) (hl : 0 ≤ left ∧ left ≤ 1048576) : PC Try.prog 37 [.agg [.sl (.ints Open), .sl (.rows Dist)], .int .i64 left] (.one (.d (.int .i64 (szField Open Dist left)))) :=
  pc_wf @Try.call37 fun hw => pc_by (by kernel_rfl) Try.func37 @Try.call37 (by kernel_rfl) l_szField_C (l_szField_A Open Dist left) (by kernel_rfl) (l_szField_vc Open Dist left hl hw.1.1 hw.1.2.1.1 hw.1.2.1.2) (by kernel_rfl)
def l_szField_orc : List D → Orc := orcN [none, none] fun ds => match ds with
  | [.agg [.sl (.ints Open), .sl (.rows Dist)], .int .i64 left] => some (.one (.d (.int .i64 (szField Open Dist left))))
  | _ => none

def l_toField_C (f : FuncId) (ds : List D) : Orc := bif Nat.beq f 40 then l_toIntS_orc ds else bif Nat.beq f 86 then l_toIntSS_orc ds else .no
def l_toField_A (Open : List Int) (Dist : List (List Int)) : Ann := .none
def l_toField_P (Open : List Int) (Dist : List (List Int)) : Prop :=
  (PC Try.prog 40 [.sl (.ints Open)] (.one (.d (.sl (.ints Open))))) ∧ (PC Try.prog 86 [.sl (.rows Dist)] (.one (.d (.sl (.rows Dist))))) ∧ (((.agg [.sl (.ints Open), .sl (.rows Dist)] : D) = .agg [.sl (.ints Open), .sl (.rows Dist)]))
theorem l_toField_vc (Open : List Int) (Dist : List (List Int)) (h1 : Open.length ≤ 1048576) (h2 : Dist.length ≤ 1048576) (h3 : ∀ xs ∈ Dist, xs.length ≤ 1048576) (w_Open : (Open.length : Int) ≤ 9223372036854775807) (w_Dist : (Dist.length : Int) ≤ 9223372036854775807) (v_Dist : ∀ x9 ∈ Dist, (x9.length : Int) ≤ 9223372036854775807) : l_toField_P Open Dist := by
  unfold l_toField_P
  refine ⟨?_, ?_, rfl⟩
  · refine l_toIntS_pc Open ?_
    · assumption
  · refine l_toIntSS_pc Dist ?_ ?_
    · assumption
    · assumption
theorem l_toField_pc (Open : List Int) (Dist : List (List Int)) (h1 : Open.length ≤ 1048576) (h2 : Dist.length ≤ 1048576) (h3 : ∀ xs ∈ Dist, xs.length ≤ 1048576) : PC Try.prog 39 [.agg [.sl (.ints Open), .sl (.rows Dist)]] (.one (.d (.agg [.sl (.ints Open), .sl (.rows Dist)]))) :=
  pc_wf @Try.call39 fun hw => pc_by (by kernel_rfl) Try.func39 @Try.call39 (by kernel_rfl) l_toField_C (l_toField_A Open Dist) (by kernel_rfl) (l_toField_vc Open Dist h1 h2 h3 hw.1.1 hw.1.2.1.1 hw.1.2.1.2) (by kernel_rfl)
def l_toField_orc : List D → Orc := orcN [none] fun ds => match ds with
  | [.agg [.sl (.ints Open), .sl (.rows Dist)]] => some (.one (.d (.agg [.sl (.ints Open), .sl (.rows Dist)])))
  | _ => none

def l_eqField_C (f : FuncId) (ds : List D) : Orc := bif Nat.beq f 43 then l_eqIntS_orc ds else bif Nat.beq f 91 then l_eqIntSS_orc ds else .no
def l_eqField_A (o1 : List Int) (d1 : List (List Int)) (o2 : List Int) (d2 : List (List Int)) : Ann := .none
def l_eqField_P (o1 : List Int) (d1 : List (List Int)) (o2 : List Int) (d2 : List (List Int)) : Prop :=
  (PC Try.prog 43 [.sl (.ints o1), .sl (.ints o2)] (.one (.d (.bool (o1 == o2))))) ∧ (((!(o1 == o2)) = true → ((false = ((o1 == o2) && (d1 == d2))))) ∧ ((!(o1 == o2)) = false → (PC Try.prog 91 [.sl (.rows d1), .sl (.rows d2)] (.one (.d (.bool (d1 == d2))))) ∧ (((!(d1 == d2)) = true → ((false = ((o1 == o2) && (d1 == d2))))) ∧ ((!(d1 == d2)) = false → ((true = ((o1 == o2) && (d1 == d2))))))))
theorem l_eqField_vc (o1 : List Int) (d1 : List (List Int)) (o2 : List Int) (d2 : List (List Int))  (w_o1 : (o1.length : Int) ≤ 9223372036854775807) (w_d1 : (d1.length : Int) ≤ 9223372036854775807) (v_d1 : ∀ x9 ∈ d1, (x9.length : Int) ≤ 9223372036854775807) (w_o2 : (o2.length : Int) ≤ 9223372036854775807) (w_d2 : (d2.length : Int) ≤ 9223372036854775807) (v_d2 : ∀ x9 ∈ d2, (x9.length : Int) ≤ 9223372036854775807) : l_eqField_P o1 d1 o2 d2 := by
  unfold l_eqField_P
  refine ⟨l_eqIntS_pc o1 o2, ?_, ?_⟩
  · intro b1
    try simp only [nrmT] at b1
    first | omega | rfl | (intro hg; simp only [nrmT] at hg; omega) | (intro g1 g2; simp [g1, g2]; done) | (intro g1; simp at g1 ⊢; simp [g1]; done) | (simp only [nrmT] at *; omega) | (simp at * <;> omega) | (simp_all <;> omega) | (simp_all; done)
  · intro b2
    try simp only [nrmT] at b2
    refine ⟨l_eqIntSS_pc d1 d2, ?_, ?_⟩
    · intro b3
      try simp only [nrmT] at b3
      first | omega | rfl | (intro hg; simp only [nrmT] at hg; omega) | (intro g1 g2; simp [g1, g2]; done) | (intro g1; simp at g1 ⊢; simp [g1]; done) | (simp only [nrmT] at *; omega) | (simp at * <;> omega) | (simp_all <;> omega) | (simp_all; done)
    · intro b4
      try simp only [nrmT] at b4
      first | omega | rfl | (intro hg; simp only [nrmT] at hg; omega) | (intro g1 g2; simp [g1, g2]; done) | (intro g1; simp at g1 ⊢; simp [g1]; done) | (simp only [nrmT] at *; omega) | (simp at * <;> omega) | (simp_all <;> omega) | (simp_all; done)
theorem l_eqField_pc (o1 : List Int) (d1 : List (List Int)) (o2 : List Int) (d2 : List (List Int))  : PC Try.prog 42 [.agg [.sl (.ints o1), .sl (.rows d1)], .agg [.sl (.ints o2), .sl (.rows d2)]] (.one (.d (.bool ((o1 == o2) && (d1 == d2))))) :=
  pc_wf @Try.call42 fun hw => pc_by (by kernel_rfl) Try.func42 @Try.call42 (by kernel_rfl) l_eqField_C (l_eqField_A o1 d1 o2 d2) (by kernel_rfl) (l_eqField_vc o1 d1 o2 d2 hw.1.1 hw.1.2.1.1 hw.1.2.1.2 hw.2.1.1 hw.2.1.2.1.1 hw.2.1.2.1.2) (by kernel_rfl)
def l_eqField_orc : List D → Orc := orcN [none, none] fun ds => match ds with
  | [.agg [.sl (.ints o1), .sl (.rows d1)], .agg [.sl (.ints o2), .sl (.rows d2)]] => some (.one (.d (.bool ((o1 == o2) && (d1 == d2)))))
  | _ => none

abbrev s_l2Row_JJ0 (row : List Int) (n : Int) (most : Int) (i : Int) : Prop := (0 ≤ i) ∧ (i ≤ (row.length : Int)) ∧ (allTo (fun k => inB (row.getD k 0) 0 most) i.toNat = true)
abbrev s_l2Row_mJ0 (row : List Int) (n : Int) (most : Int) (i : Int) : Nat := (row.length - i).toNat
def s_l2Row_C (f : FuncId) (ds : List D) : Orc := bif Nat.beq f 81 then s_l1In_orc ds else .no
def s_l2Row_A (row : List Int) (n : Int) (most : Int) : Ann := .two (.none) (.two (.two (.none) (.loop (cut1 (fun (i : Int) => s_l2Row_JJ0 row n most i) (fun (i : Int) => [(0, .d false (.sl (.ints row))), (1, .d false (.int .i64 n)), (2, .d false (.int .i64 most)), (7, .d true (.int .i64 i))]) (fun (i : Int) => [])) (fun g => s_l2Row_mJ0 row n most g) (fun _ => .none))) (.none))
def s_l2Row_P (row : List Int) (n : Int) (most : Int) : Prop :=
  ((∃ i' : Int, (s_l2Row_JJ0 row n most i') ∧ (row = row) ∧ (n = n) ∧ (most = most) ∧ ((0 : Int) = i')) ∧ (∀ i : Int, (s_l2Row_JJ0 row n most i) → (((decide (i < (row.length : Int))) = true → ((0 : Int) ≤ i) ∧ ((i : Int) < row.length) ∧ (i.toNat < row.length) ∧ (PC Try.prog 81 [.int .i64 (row.getD i.toNat 0), .int .i64 0, .int .i64 most] (.one (.d (.bool (inB (row.getD i.toNat 0) 0 most))))) ∧ (((!(inB (row.getD i.toNat 0) 0 most)) = true → ((false = (rowOk row n most)))) ∧ ((!(inB (row.getD i.toNat 0) 0 most)) = false → (-9223372036854775808 ≤ (i + 1) ∧ (i + 1) ≤ 9223372036854775807) ∧ (∃ i' : Int, (s_l2Row_JJ0 row n most i') ∧ (s_l2Row_mJ0 row n most i' < s_l2Row_mJ0 row n most i) ∧ (row = row) ∧ (n = n) ∧ (most = most) ∧ ((i + 1) = i'))))) ∧ ((decide (i < (row.length : Int))) = false → ((((row.length : Int) == n) = (rowOk row n most)))))))
theorem s_l2Row_vc (row : List Int) (n : Int) (most : Int)  (w_row : (row.length : Int) ≤ 9223372036854775807) : s_l2Row_P row n most := by
  unfold s_l2Row_P
  refine ⟨?_, ?_⟩
  · refine ⟨0, ?_⟩
    refine ⟨?_, rfl, rfl, rfl, rfl⟩
    · refine ⟨?_, ?_, ?_⟩
      · first | omega | rfl | (intro hg; simp only [nrmT] at hg; omega) | (intro g1 g2; simp [g1, g2]; done) | (intro g1; simp at g1 ⊢; simp [g1]; done) | (simp only [nrmT] at *; omega) | (simp at * <;> omega) | (simp_all <;> omega) | (simp_all; done)
      · first | omega | rfl | (intro hg; simp only [nrmT] at hg; omega) | (intro g1 g2; simp [g1, g2]; done) | (intro g1; simp at g1 ⊢; simp [g1]; done) | (simp only [nrmT] at *; omega) | (simp at * <;> omega) | (simp_all <;> omega) | (simp_all; done)
      · first | omega | rfl | (intro hg; simp only [nrmT] at hg; omega) | (intro g1 g2; simp [g1, g2]; done) | (intro g1; simp at g1 ⊢; simp [g1]; done) | (simp only [nrmT] at *; omega) | (simp at * <;> omega) | (simp_all <;> omega) | (simp_all; done)
  · intro i hJ
    obtain ⟨h1, h2, h3⟩ := hJ
    refine ⟨?_, ?_⟩
    · intro b1
      try simp only [nrmT] at b1
      refine ⟨?_, ?_, ?_, s_l1In_pc (row.getD i.toNat 0) 0 most, ?_, ?_⟩
      · first | omega | rfl | (intro hg; simp only [nrmT] at hg; omega) | (intro g1 g2; simp [g1, g2]; done) | (intro g1; simp at g1 ⊢; simp [g1]; done) | (simp only [nrmT] at *; omega) | (simp at * <;> omega) | (simp_all <;> omega) | (simp_all; done)
      · first | omega | rfl | (intro hg; simp only [nrmT] at hg; omega) | (intro g1 g2; simp [g1, g2]; done) | (intro g1; simp at g1 ⊢; simp [g1]; done) | (simp only [nrmT] at *; omega) | (simp at * <;> omega) | (simp_all <;> omega) | (simp_all; done)
      · first | omega | rfl | (intro hg; simp only [nrmT] at hg; omega) | (intro g1 g2; simp [g1, g2]; done) | (intro g1; simp at g1 ⊢; simp [g1]; done) | (simp only [nrmT] at *; omega) | (simp at * <;> omega) | (simp_all <;> omega) | (simp_all; done)
      · intro b2
        try simp only [nrmT] at b2
        unfold rowOk
        rw [all_no (p := fun x => inB x 0 most) (d := 0) h1 (by omega) b2]; rfl
      · intro b3
        try simp only [nrmT] at b3
        refine ⟨?_, ?_⟩
        · first | omega | rfl | (intro hg; simp only [nrmT] at hg; omega) | (intro g1 g2; simp [g1, g2]; done) | (intro g1; simp at g1 ⊢; simp [g1]; done) | (simp only [nrmT] at *; omega) | (simp at * <;> omega) | (simp_all <;> omega) | (simp_all; done)
        · refine ⟨(i + 1), ?_⟩
          refine ⟨?_, ?_, rfl, rfl, rfl, rfl⟩
          · refine ⟨?_, ?_, ?_⟩
            · first | omega | rfl | (intro hg; simp only [nrmT] at hg; omega) | (intro g1 g2; simp [g1, g2]; done) | (intro g1; simp at g1 ⊢; simp [g1]; done) | (simp only [nrmT] at *; omega) | (simp at * <;> omega) | (simp_all <;> omega) | (simp_all; done)
            · first | omega | rfl | (intro hg; simp only [nrmT] at hg; omega) | (intro g1 g2; simp [g1, g2]; done) | (intro g1; simp at g1 ⊢; simp [g1]; done) | (simp only [nrmT] at *; omega) | (simp at * <;> omega) | (simp_all <;> omega) | (simp_all; done)
            · exact allTo_step h1 h3 b3
          · first | (show _ < _; omega) | (simp only [s_l2Row_mJ0]; omega) | (simp only [s_l2Row_mJ0] at *; simp at *; omega)
    · intro b4
      try simp only [nrmT] at b4
      unfold rowOk
      rw [all_end (p := fun x => inB x 0 most) (d := 0) (by omega) h2 h3, Bool.true_and]; rfl
theorem s_l2Row_pc (row : List Int) (n : Int) (most : Int)  : PC Try.prog 116 [.sl (.ints row), .int .i64 n, .int .i64 most] (.one (.d (.bool (rowOk row n most)))) :=
  pc_wf @Try.call116 fun hw => pc_by (by kernel_rfl) Try.func116 @Try.call116 (by kernel_rfl) s_l2Row_C (s_l2Row_A row n most) (by kernel_rfl) (s_l2Row_vc row n most hw.1) (by kernel_rfl)
def s_l2Row_orc : List D → Orc := orcN [some .ints, none, none] fun ds => match ds with
  | [.sl (.ints row), .int .i64 n, .int .i64 most] => some (.one (.d (.bool (rowOk row n most))))
  | _ => none

abbrev s_l2Good_JJ0 (Open : List Int) (Dist : List (List Int)) (i : Int) : Prop := (0 ≤ i) ∧ (i ≤ (Dist.length : Int)) ∧ (allTo (fun k => rowOk (Dist.getD k []) (Open.length : Int) 99) i.toNat = true)
abbrev s_l2Good_mJ0 (Open : List Int) (Dist : List (List Int)) (i : Int) : Nat := (Dist.length - i).toNat
def s_l2Good_C (f : FuncId) (ds : List D) : Orc := bif Nat.beq f 116 then s_l2Row_orc ds else bif Nat.beq f 81 then s_l1In_orc ds else .no
def s_l2Good_A (Open : List Int) (Dist : List (List Int)) : Ann := .two (.none) (.two (.none) (.two (.two (.none) (.loop (cut1 (fun (i : Int) => s_l2Good_JJ0 Open Dist i) (fun (i : Int) => [(1, .ptr 1 0), (3, .d true (.int .i64 (Open.length : Int))), (4, .d true (.int .i64 i))]) (fun (i : Int) => [(1, .box 48 [.d false (.sl (.ints Open)), .d false (.sl (.rows Dist))])])) (fun g => s_l2Good_mJ0 Open Dist g) (fun _ => .none))) (.none)))
def s_l2Good_P (Open : List Int) (Dist : List (List Int)) : Prop :=
  ((∃ i' : Int, (s_l2Good_JJ0 Open Dist i') ∧ ((Open.length : Int) = (Open.length : Int)) ∧ ((0 : Int) = i') ∧ (Open = Open) ∧ (Dist = Dist)) ∧ (∀ i : Int, (s_l2Good_JJ0 Open Dist i) → (((decide (i < (Dist.length : Int))) = true → ((0 : Int) ≤ i) ∧ ((i : Int) < Dist.length) ∧ (i.toNat < Dist.length) ∧ (PC Try.prog 116 [.sl (.ints (Dist.getD i.toNat [])), .int .i64 (Open.length : Int), .int .i64 99] (.one (.d (.bool (rowOk (Dist.getD i.toNat []) (Open.length : Int) 99))))) ∧ (((!(rowOk (Dist.getD i.toNat []) (Open.length : Int) 99)) = true → ((false = (goodField Open Dist)))) ∧ ((!(rowOk (Dist.getD i.toNat []) (Open.length : Int) 99)) = false → (-9223372036854775808 ≤ (i + 1) ∧ (i + 1) ≤ 9223372036854775807) ∧ (∃ i' : Int, (s_l2Good_JJ0 Open Dist i') ∧ (s_l2Good_mJ0 Open Dist i' < s_l2Good_mJ0 Open Dist i) ∧ ((Open.length : Int) = (Open.length : Int)) ∧ ((i + 1) = i') ∧ (Open = Open) ∧ (Dist = Dist))))) ∧ ((decide (i < (Dist.length : Int))) = false → (PC Try.prog 81 [.int .i64 (Open.length : Int), .int .i64 1, .int .i64 7] (.one (.d (.bool (inB (Open.length : Int) 1 7))))) ∧ ((inB (Open.length : Int) 1 7) = true → (inB (Open.length : Int) 1 7) = true) ∧ ((inB (Open.length : Int) 1 7) = true → (inB (Open.length : Int) 1 7) = true) ∧ ((inB (Open.length : Int) 1 7) = true → (inB (Open.length : Int) 1 7) = true) ∧ ((inB (Open.length : Int) 1 7) = true → PC Try.prog 116 [.sl (.ints Open), .int .i64 (Open.length : Int), .int .i64 99] (.one (.d (.bool (rowOk Open (Open.length : Int) 99))))) ∧ (true = true) ∧ (((inB (Open.length : Int) 1 7) = true → (inB (Open.length : Int) 1 7) = true)) ∧ (((inB (Open.length : Int) 1 7) = false → true = true)) ∧ ((cond (inB (Open.length : Int) 1 7) (rowOk Open (Open.length : Int) 99) false) = true → (cond (inB (Open.length : Int) 1 7) (rowOk Open (Open.length : Int) 99) false) = true) ∧ ((cond (inB (Open.length : Int) 1 7) (rowOk Open (Open.length : Int) 99) false) = true → (cond (inB (Open.length : Int) 1 7) (rowOk Open (Open.length : Int) 99) false) = true) ∧ ((cond (inB (Open.length : Int) 1 7) (rowOk Open (Open.length : Int) 99) false) = true → (cond (inB (Open.length : Int) 1 7) (rowOk Open (Open.length : Int) 99) false) = true) ∧ (true = true) ∧ (((cond (inB (Open.length : Int) 1 7) (rowOk Open (Open.length : Int) 99) false) = true → (cond (inB (Open.length : Int) 1 7) (rowOk Open (Open.length : Int) 99) false) = true)) ∧ (((cond (inB (Open.length : Int) 1 7) (rowOk Open (Open.length : Int) 99) false) = false → true = true)) ∧ (((cond (cond (inB (Open.length : Int) 1 7) (rowOk Open (Open.length : Int) 99) false) (decide ((Dist.length : Int) ≤ 7)) false) = (goodField Open Dist)))))))
theorem s_l2Good_vc (Open : List Int) (Dist : List (List Int))  (w_Open : (Open.length : Int) ≤ 9223372036854775807) (w_Dist : (Dist.length : Int) ≤ 9223372036854775807) (v_Dist : ∀ x9 ∈ Dist, (x9.length : Int) ≤ 9223372036854775807) : s_l2Good_P Open Dist := by
  unfold s_l2Good_P
  refine ⟨?_, ?_⟩
  · refine ⟨0, ?_⟩
    refine ⟨?_, rfl, rfl, rfl, rfl⟩
    · refine ⟨?_, ?_, ?_⟩
      · first | omega | rfl | (intro hg; simp only [nrmT] at hg; omega) | (intro g1 g2; simp [g1, g2]; done) | (intro g1; simp at g1 ⊢; simp [g1]; done) | (simp only [nrmT] at *; omega) | (simp at * <;> omega) | (simp_all <;> omega) | (simp_all; done)
      · first | omega | rfl | (intro hg; simp only [nrmT] at hg; omega) | (intro g1 g2; simp [g1, g2]; done) | (intro g1; simp at g1 ⊢; simp [g1]; done) | (simp only [nrmT] at *; omega) | (simp at * <;> omega) | (simp_all <;> omega) | (simp_all; done)
      · first | omega | rfl | (intro hg; simp only [nrmT] at hg; omega) | (intro g1 g2; simp [g1, g2]; done) | (intro g1; simp at g1 ⊢; simp [g1]; done) | (simp only [nrmT] at *; omega) | (simp at * <;> omega) | (simp_all <;> omega) | (simp_all; done)
  · intro i hJ
    obtain ⟨h1, h2, h3⟩ := hJ
    refine ⟨?_, ?_⟩
    · intro b1
      try simp only [nrmT] at b1
      refine ⟨?_, ?_, ?_, s_l2Row_pc (Dist.getD i.toNat []) (Open.length : Int) 99, ?_, ?_⟩
      · first | omega | rfl | (intro hg; simp only [nrmT] at hg; omega) | (intro g1 g2; simp [g1, g2]; done) | (intro g1; simp at g1 ⊢; simp [g1]; done) | (simp only [nrmT] at *; omega) | (simp at * <;> omega) | (simp_all <;> omega) | (simp_all; done)
      · first | omega | rfl | (intro hg; simp only [nrmT] at hg; omega) | (intro g1 g2; simp [g1, g2]; done) | (intro g1; simp at g1 ⊢; simp [g1]; done) | (simp only [nrmT] at *; omega) | (simp at * <;> omega) | (simp_all <;> omega) | (simp_all; done)
      · first | omega | rfl | (intro hg; simp only [nrmT] at hg; omega) | (intro g1 g2; simp [g1, g2]; done) | (intro g1; simp at g1 ⊢; simp [g1]; done) | (simp only [nrmT] at *; omega) | (simp at * <;> omega) | (simp_all <;> omega) | (simp_all; done)
      · intro b2
        try simp only [nrmT] at b2
        unfold goodField
        rw [all_no (p := fun l => rowOk l (Open.length : Int) 99) (d := []) h1 (by omega) b2, Bool.and_false]
      · intro b3
        try simp only [nrmT] at b3
        refine ⟨?_, ?_⟩
        · first | omega | rfl | (intro hg; simp only [nrmT] at hg; omega) | (intro g1 g2; simp [g1, g2]; done) | (intro g1; simp at g1 ⊢; simp [g1]; done) | (simp only [nrmT] at *; omega) | (simp at * <;> omega) | (simp_all <;> omega) | (simp_all; done)
        · refine ⟨(i + 1), ?_⟩
          refine ⟨?_, ?_, rfl, rfl, rfl, rfl⟩
          · refine ⟨?_, ?_, ?_⟩
            · first | omega | rfl | (intro hg; simp only [nrmT] at hg; omega) | (intro g1 g2; simp [g1, g2]; done) | (intro g1; simp at g1 ⊢; simp [g1]; done) | (simp only [nrmT] at *; omega) | (simp at * <;> omega) | (simp_all <;> omega) | (simp_all; done)
            · first | omega | rfl | (intro hg; simp only [nrmT] at hg; omega) | (intro g1 g2; simp [g1, g2]; done) | (intro g1; simp at g1 ⊢; simp [g1]; done) | (simp only [nrmT] at *; omega) | (simp at * <;> omega) | (simp_all <;> omega) | (simp_all; done)
            · exact allTo_step h1 h3 b3
          · first | (show _ < _; omega) | (simp only [s_l2Good_mJ0]; omega) | (simp only [s_l2Good_mJ0] at *; simp at *; omega)
    · intro b4
      try simp only [nrmT] at b4
      refine ⟨s_l1In_pc (Open.length : Int) 1 7, id, id, id, fun _ => s_l2Row_pc Open (Open.length : Int) 99, rfl, id, fun _ => rfl, id, id, id, rfl, id, fun _ => rfl, ?_⟩
      · unfold goodField
        rw [all_end (p := fun l => rowOk l (Open.length : Int) 99) (d := []) (by omega) h2 h3, show decide ((Dist.length : Int) ≤ 7) = decide (Dist.length ≤ 7) from len_le _ 7]
        unfold rowOk
        cases inB (Open.length : Int) 1 7 <;> cases Open.all (fun x => inB x 0 99) <;> cases decide (Dist.length ≤ 7) <;> simp
theorem s_l2Good_pc (Open : List Int) (Dist : List (List Int))  : PC Try.prog 99 [.agg [.sl (.ints Open), .sl (.rows Dist)]] (.one (.d (.bool (goodField Open Dist)))) :=
  pc_wf @Try.call99 fun hw => pc_by (by kernel_rfl) Try.func99 @Try.call99 (by kernel_rfl) s_l2Good_C (s_l2Good_A Open Dist) (by kernel_rfl) (s_l2Good_vc Open Dist hw.1.1 hw.1.2.1.1 hw.1.2.1.2) (by kernel_rfl)
def s_l2Good_orc : List D → Orc := orcN [none] fun ds => match ds with
  | [.agg [.sl (.ints Open), .sl (.rows Dist)]] => some (.one (.d (.bool (goodField Open Dist))))
  | _ => none

def i_IsField_1_C (f : FuncId) (ds : List D) : Orc := bif Nat.beq f 87 then i_areBetween_orc ds else .no
def i_IsField_1_A (xs : List Int) (Open : List Int) (Dist : List (List Int)) : Ann := .none
def i_IsField_1_P (xs : List Int) (Open : List Int) (Dist : List (List Int)) : Prop :=
  ((!((xs.length : Int) != (Open.length : Int))) = true → (!((xs.length : Int) != (Open.length : Int))) = true) ∧ ((!((xs.length : Int) != (Open.length : Int))) = true → PC Try.prog 87 [.sl (.ints xs), .int .i64 0, .int .i64 99] (.one (.d (.bool (xs.all (fun x => inB x 0 99)))))) ∧ ((!((xs.length : Int) != (Open.length : Int))) = true → (!((xs.length : Int) != (Open.length : Int))) = true) ∧ (true = true) ∧ ((((xs.length : Int) != (Open.length : Int)) = true → true = true)) ∧ ((((xs.length : Int) != (Open.length : Int)) = false → (!((xs.length : Int) != (Open.length : Int))) = true)) ∧ (((cond ((xs.length : Int) != (Open.length : Int)) true (!(xs.all (fun x => inB x 0 99)))) = (!(rowOk xs (Open.length : Int) 99))))
theorem i_IsField_1_vc (xs : List Int) (Open : List Int) (Dist : List (List Int))  (w_xs : (xs.length : Int) ≤ 9223372036854775807) (w_Open : (Open.length : Int) ≤ 9223372036854775807) (w_Dist : (Dist.length : Int) ≤ 9223372036854775807) (v_Dist : ∀ x9 ∈ Dist, (x9.length : Int) ≤ 9223372036854775807) : i_IsField_1_P xs Open Dist := by
  unfold i_IsField_1_P
  refine ⟨id, fun _ => i_areBetween_pc xs 0 99, id, rfl, fun _ => rfl, ?_, ?_⟩
  · first | omega | rfl | (intro hg; simp only [nrmT] at hg; omega) | (intro g1 g2; simp [g1, g2]; done) | (intro g1; simp at g1 ⊢; simp [g1]; done) | (simp only [nrmT] at *; omega) | (simp at * <;> omega) | (simp_all <;> omega) | (simp_all; done)
  · unfold rowOk
    by_cases h : (xs.length : Int) = (Open.length : Int)
    · simp [h]
    · simp [h]
theorem i_IsField_1_pc (xs : List Int) (Open : List Int) (Dist : List (List Int))  : PC Try.prog 155 [.sl (.ints xs), .bx [.sl (.ints Open), .sl (.rows Dist)] 0] (.one (.d (.bool (!(rowOk xs (Open.length : Int) 99))))) :=
  pc_wf @Try.call155 fun hw => pc_by (by kernel_rfl) Try.func155 @Try.call155 (by kernel_rfl) i_IsField_1_C (i_IsField_1_A xs Open Dist) (by kernel_rfl) (i_IsField_1_vc xs Open Dist hw.1 hw.2.1.1 hw.2.1.2.1.1 hw.2.1.2.1.2) (by kernel_rfl)
def i_IsField_1_orc : List D → Orc := orcN [some .ints, none] fun ds => match ds with
  | [.sl (.ints xs), .bx [.sl (.ints Open), .sl (.rows Dist)] 0] => some (.one (.d (.bool (!(rowOk xs (Open.length : Int) 99)))))
  | _ => none

abbrev slices_IndexFunc_int_int_iF_JJ0 (xs : List (List Int)) (Open : List Int) (Dist : List (List Int)) (i : Int) : Prop := (0 ≤ i) ∧ (i ≤ (xs.length : Int)) ∧ (∀ k, k < i.toNat → (fun x => !(rowOk x (Open.length : Int) 99)) (xs.getD k []) = false)
abbrev slices_IndexFunc_int_int_iF_mJ0 (xs : List (List Int)) (Open : List Int) (Dist : List (List Int)) (i : Int) : Nat := (xs.length - i).toNat
def slices_IndexFunc_int_int_iF_C (f : FuncId) (ds : List D) : Orc := bif Nat.beq f 155 then i_IsField_1_orc ds else .no
def slices_IndexFunc_int_int_iF_A (xs : List (List Int)) (Open : List Int) (Dist : List (List Int)) : Ann := .two (.none) (.two (.two (.none) (.loop (cut1 (fun (i : Int) => slices_IndexFunc_int_int_iF_JJ0 xs Open Dist i) (fun (i : Int) => [(0, .d false (.sl (.rows xs))), (1, .d false (.fn 155 [.bx [.sl (.ints Open), .sl (.rows Dist)] 0])), (7, .d true (.int .i64 (xs.length : Int))), (8, .d true (.int .i64 i))]) (fun (i : Int) => [])) (fun g => slices_IndexFunc_int_int_iF_mJ0 xs Open Dist g) (fun _ => .none))) (.none))
def slices_IndexFunc_int_int_iF_P (xs : List (List Int)) (Open : List Int) (Dist : List (List Int)) : Prop :=
  ((∃ i' : Int, (slices_IndexFunc_int_int_iF_JJ0 xs Open Dist i') ∧ (xs = xs) ∧ ((.fn 155 [.bx [.sl (.ints Open), .sl (.rows Dist)] 0] : D) = (.fn 155 [.bx [.sl (.ints Open), .sl (.rows Dist)] 0] : D)) ∧ ((xs.length : Int) = (xs.length : Int)) ∧ ((0 : Int) = i')) ∧ (∀ i : Int, (slices_IndexFunc_int_int_iF_JJ0 xs Open Dist i) → (((decide (i < (xs.length : Int))) = true → ((0 : Int) ≤ i) ∧ ((i : Int) < xs.length) ∧ (i.toNat < xs.length) ∧ (PC Try.prog 155 [.sl (.ints (xs.getD i.toNat [])), .bx [.sl (.ints Open), .sl (.rows Dist)] 0] (.one (.d (.bool (!(rowOk (xs.getD i.toNat []) (Open.length : Int) 99)))))) ∧ (((!(rowOk (xs.getD i.toNat []) (Open.length : Int) 99)) = true → ((i = (idxI (fun x => !(rowOk x (Open.length : Int) 99)) xs)))) ∧ ((!(rowOk (xs.getD i.toNat []) (Open.length : Int) 99)) = false → (-9223372036854775808 ≤ (i + 1) ∧ (i + 1) ≤ 9223372036854775807) ∧ (∃ i' : Int, (slices_IndexFunc_int_int_iF_JJ0 xs Open Dist i') ∧ (slices_IndexFunc_int_int_iF_mJ0 xs Open Dist i' < slices_IndexFunc_int_int_iF_mJ0 xs Open Dist i) ∧ (xs = xs) ∧ ((.fn 155 [.bx [.sl (.ints Open), .sl (.rows Dist)] 0] : D) = (.fn 155 [.bx [.sl (.ints Open), .sl (.rows Dist)] 0] : D)) ∧ ((xs.length : Int) = (xs.length : Int)) ∧ ((i + 1) = i'))))) ∧ ((decide (i < (xs.length : Int))) = false → ((((-1) : Int) = (idxI (fun x => !(rowOk x (Open.length : Int) 99)) xs)))))))
theorem slices_IndexFunc_int_int_iF_vc (xs : List (List Int)) (Open : List Int) (Dist : List (List Int))  (w_xs : (xs.length : Int) ≤ 9223372036854775807) (v_xs : ∀ x9 ∈ xs, (x9.length : Int) ≤ 9223372036854775807) (w_Open : (Open.length : Int) ≤ 9223372036854775807) (w_Dist : (Dist.length : Int) ≤ 9223372036854775807) (v_Dist : ∀ x9 ∈ Dist, (x9.length : Int) ≤ 9223372036854775807) : slices_IndexFunc_int_int_iF_P xs Open Dist := by
  unfold slices_IndexFunc_int_int_iF_P
  refine ⟨?_, ?_⟩
  · refine ⟨0, ?_⟩
    refine ⟨?_, rfl, rfl, rfl, rfl⟩
    · refine ⟨?_, ?_, ?_⟩
      · first | omega | rfl | (intro hg; simp only [nrmT] at hg; omega) | (intro g1 g2; simp [g1, g2]; done) | (intro g1; simp at g1 ⊢; simp [g1]; done) | (simp only [nrmT] at *; omega) | (simp at * <;> omega) | (simp_all <;> omega) | (simp_all; done)
      · first | omega | rfl | (intro hg; simp only [nrmT] at hg; omega) | (intro g1 g2; simp [g1, g2]; done) | (intro g1; simp at g1 ⊢; simp [g1]; done) | (simp only [nrmT] at *; omega) | (simp at * <;> omega) | (simp_all <;> omega) | (simp_all; done)
      · first | omega | rfl | (intro hg; simp only [nrmT] at hg; omega) | (intro g1 g2; simp [g1, g2]; done) | (intro g1; simp at g1 ⊢; simp [g1]; done) | (simp only [nrmT] at *; omega) | (simp at * <;> omega) | (simp_all <;> omega) | (simp_all; done)
  · intro i hJ
    obtain ⟨h1, h2, h3⟩ := hJ
    refine ⟨?_, ?_⟩
    · intro b1
      try simp only [nrmT] at b1
      refine ⟨?_, ?_, ?_, i_IsField_1_pc (xs.getD i.toNat []) Open Dist, ?_, ?_⟩
      · first | omega | rfl | (intro hg; simp only [nrmT] at hg; omega) | (intro g1 g2; simp [g1, g2]; done) | (intro g1; simp at g1 ⊢; simp [g1]; done) | (simp only [nrmT] at *; omega) | (simp at * <;> omega) | (simp_all <;> omega) | (simp_all; done)
      · first | omega | rfl | (intro hg; simp only [nrmT] at hg; omega) | (intro g1 g2; simp [g1, g2]; done) | (intro g1; simp at g1 ⊢; simp [g1]; done) | (simp only [nrmT] at *; omega) | (simp at * <;> omega) | (simp_all <;> omega) | (simp_all; done)
      · first | omega | rfl | (intro hg; simp only [nrmT] at hg; omega) | (intro g1 g2; simp [g1, g2]; done) | (intro g1; simp at g1 ⊢; simp [g1]; done) | (simp only [nrmT] at *; omega) | (simp at * <;> omega) | (simp_all <;> omega) | (simp_all; done)
      · intro b2
        try simp only [nrmT] at b2
        exact idx_found (p := fun x => !(rowOk x (Open.length : Int) 99)) h1 b1 h3 (by simpa using b2)
      · intro b3
        try simp only [nrmT] at b3
        refine ⟨?_, ?_⟩
        · first | omega | rfl | (intro hg; simp only [nrmT] at hg; omega) | (intro g1 g2; simp [g1, g2]; done) | (intro g1; simp at g1 ⊢; simp [g1]; done) | (simp only [nrmT] at *; omega) | (simp at * <;> omega) | (simp_all <;> omega) | (simp_all; done)
        · refine ⟨(i + 1), ?_⟩
          refine ⟨?_, ?_, rfl, rfl, rfl, rfl⟩
          · refine ⟨?_, ?_, ?_⟩
            · first | omega | rfl | (intro hg; simp only [nrmT] at hg; omega) | (intro g1 g2; simp [g1, g2]; done) | (intro g1; simp at g1 ⊢; simp [g1]; done) | (simp only [nrmT] at *; omega) | (simp at * <;> omega) | (simp_all <;> omega) | (simp_all; done)
            · first | omega | rfl | (intro hg; simp only [nrmT] at hg; omega) | (intro g1 g2; simp [g1, g2]; done) | (intro g1; simp at g1 ⊢; simp [g1]; done) | (simp only [nrmT] at *; omega) | (simp at * <;> omega) | (simp_all <;> omega) | (simp_all; done)
            · exact idx_step (p := fun x => !(rowOk x (Open.length : Int) 99)) h1 h3 (by simpa using b3)
          · first | (show _ < _; omega) | (simp only [slices_IndexFunc_int_int_iF_mJ0]; omega) | (simp only [slices_IndexFunc_int_int_iF_mJ0] at *; simp at *; omega)
    · intro b4
      try simp only [nrmT] at b4
      exact (idx_none (by omega) h3).symm
theorem slices_IndexFunc_int_int_iF_pc (xs : List (List Int)) (Open : List Int) (Dist : List (List Int))  : PC Try.prog 148 [.sl (.rows xs), .fn 155 [.bx [.sl (.ints Open), .sl (.rows Dist)] 0]] (.one (.d (.int .i64 (idxI (fun x => !(rowOk x (Open.length : Int) 99)) xs)))) :=
  pc_wf @Try.call148 fun hw => pc_by (by kernel_rfl) Try.func148 @Try.call148 (by kernel_rfl) slices_IndexFunc_int_int_iF_C (slices_IndexFunc_int_int_iF_A xs Open Dist) (by kernel_rfl) (slices_IndexFunc_int_int_iF_vc xs Open Dist hw.1.1 hw.1.2 hw.2.1.1.1 hw.2.1.1.2.1.1 hw.2.1.1.2.1.2) (by kernel_rfl)
def slices_IndexFunc_int_int_iF_orc : List D → Orc := orcN [some .rows, none] fun ds => match ds with
  | [.sl (.rows xs), .fn f0 [.bx [.sl (.ints Open), .sl (.rows Dist)] 0]] => bif Nat.beq f0 155 then some (.one (.d (.int .i64 (idxI (fun x => !(rowOk x (Open.length : Int) 99)) xs)))) else none
  | _ => none

def slices_ContainsFunc_int_int_iF_C (f : FuncId) (ds : List D) : Orc := bif Nat.beq f 148 then slices_IndexFunc_int_int_iF_orc ds else .no
def slices_ContainsFunc_int_int_iF_A (xs : List (List Int)) (Open : List Int) (Dist : List (List Int)) : Ann := .none
def slices_ContainsFunc_int_int_iF_P (xs : List (List Int)) (Open : List Int) (Dist : List (List Int)) : Prop :=
  (PC Try.prog 148 [.sl (.rows xs), .fn 155 [.bx [.sl (.ints Open), .sl (.rows Dist)] 0]] (.one (.d (.int .i64 (idxI (fun x => !(rowOk x (Open.length : Int) 99)) xs))))) ∧ (((decide ((idxI (fun x => !(rowOk x (Open.length : Int) 99)) xs) ≥ 0)) = (xs.any (fun x => !(rowOk x (Open.length : Int) 99)))))
theorem slices_ContainsFunc_int_int_iF_vc (xs : List (List Int)) (Open : List Int) (Dist : List (List Int))  (w_xs : (xs.length : Int) ≤ 9223372036854775807) (v_xs : ∀ x9 ∈ xs, (x9.length : Int) ≤ 9223372036854775807) (w_Open : (Open.length : Int) ≤ 9223372036854775807) (w_Dist : (Dist.length : Int) ≤ 9223372036854775807) (v_Dist : ∀ x9 ∈ Dist, (x9.length : Int) ≤ 9223372036854775807) : slices_ContainsFunc_int_int_iF_P xs Open Dist := by
  unfold slices_ContainsFunc_int_int_iF_P
  refine ⟨slices_IndexFunc_int_int_iF_pc xs Open Dist, ?_⟩
  · exact idx_any _ _
theorem slices_ContainsFunc_int_int_iF_pc (xs : List (List Int)) (Open : List Int) (Dist : List (List Int))  : PC Try.prog 88 [.sl (.rows xs), .fn 155 [.bx [.sl (.ints Open), .sl (.rows Dist)] 0]] (.one (.d (.bool (xs.any (fun x => !(rowOk x (Open.length : Int) 99)))))) :=
  pc_wf @Try.call88 fun hw => pc_by (by kernel_rfl) Try.func88 @Try.call88 (by kernel_rfl) slices_ContainsFunc_int_int_iF_C (slices_ContainsFunc_int_int_iF_A xs Open Dist) (by kernel_rfl) (slices_ContainsFunc_int_int_iF_vc xs Open Dist hw.1.1 hw.1.2 hw.2.1.1.1 hw.2.1.1.2.1.1 hw.2.1.1.2.1.2) (by kernel_rfl)
def slices_ContainsFunc_int_int_iF_orc : List D → Orc := orcN [some .rows, none] fun ds => match ds with
  | [.sl (.rows xs), .fn f0 [.bx [.sl (.ints Open), .sl (.rows Dist)] 0]] => bif Nat.beq f0 155 then some (.one (.d (.bool (xs.any (fun x => !(rowOk x (Open.length : Int) 99)))))) else none
  | _ => none

def i_IsField_C (f : FuncId) (ds : List D) : Orc := bif Nat.beq f 82 then i_between_orc ds else bif Nat.beq f 87 then i_areBetween_orc ds else bif Nat.beq f 88 then slices_ContainsFunc_int_int_iF_orc ds else .no
def i_IsField_A (Open : List Int) (Dist : List (List Int)) : Ann := .none
def i_IsField_P (Open : List Int) (Dist : List (List Int)) : Prop :=
  (PC Try.prog 82 [.int .i64 (Open.length : Int), .int .i64 1, .int .i64 7] (.one (.d (.bool (inB (Open.length : Int) 1 7))))) ∧ ((inB (Open.length : Int) 1 7) = true → (inB (Open.length : Int) 1 7) = true) ∧ ((inB (Open.length : Int) 1 7) = true → (inB (Open.length : Int) 1 7) = true) ∧ ((inB (Open.length : Int) 1 7) = true → PC Try.prog 87 [.sl (.ints Open), .int .i64 0, .int .i64 99] (.one (.d (.bool (Open.all (fun x => inB x 0 99)))))) ∧ (true = true) ∧ (((inB (Open.length : Int) 1 7) = true → (inB (Open.length : Int) 1 7) = true)) ∧ (((inB (Open.length : Int) 1 7) = false → true = true)) ∧ ((cond (inB (Open.length : Int) 1 7) (Open.all (fun x => inB x 0 99)) false) = true → (cond (inB (Open.length : Int) 1 7) (Open.all (fun x => inB x 0 99)) false) = true) ∧ ((cond (inB (Open.length : Int) 1 7) (Open.all (fun x => inB x 0 99)) false) = true → (cond (inB (Open.length : Int) 1 7) (Open.all (fun x => inB x 0 99)) false) = true) ∧ ((cond (inB (Open.length : Int) 1 7) (Open.all (fun x => inB x 0 99)) false) = true → (cond (inB (Open.length : Int) 1 7) (Open.all (fun x => inB x 0 99)) false) = true) ∧ (true = true) ∧ (((cond (inB (Open.length : Int) 1 7) (Open.all (fun x => inB x 0 99)) false) = true → (cond (inB (Open.length : Int) 1 7) (Open.all (fun x => inB x 0 99)) false) = true)) ∧ (((cond (inB (Open.length : Int) 1 7) (Open.all (fun x => inB x 0 99)) false) = false → true = true)) ∧ ((cond (cond (inB (Open.length : Int) 1 7) (Open.all (fun x => inB x 0 99)) false) (decide ((Dist.length : Int) ≤ 7)) false) = true → (cond (cond (inB (Open.length : Int) 1 7) (Open.all (fun x => inB x 0 99)) false) (decide ((Dist.length : Int) ≤ 7)) false) = true) ∧ ((cond (cond (inB (Open.length : Int) 1 7) (Open.all (fun x => inB x 0 99)) false) (decide ((Dist.length : Int) ≤ 7)) false) = true → (cond (cond (inB (Open.length : Int) 1 7) (Open.all (fun x => inB x 0 99)) false) (decide ((Dist.length : Int) ≤ 7)) false) = true) ∧ ((cond (cond (inB (Open.length : Int) 1 7) (Open.all (fun x => inB x 0 99)) false) (decide ((Dist.length : Int) ≤ 7)) false) = true → (cond (cond (inB (Open.length : Int) 1 7) (Open.all (fun x => inB x 0 99)) false) (decide ((Dist.length : Int) ≤ 7)) false) = true) ∧ ((cond (cond (inB (Open.length : Int) 1 7) (Open.all (fun x => inB x 0 99)) false) (decide ((Dist.length : Int) ≤ 7)) false) = true → PC Try.prog 88 [.sl (.rows Dist), .fn 155 [.bx [.sl (.ints Open), .sl (.rows Dist)] 0]] (.one (.d (.bool (Dist.any (fun x => !(rowOk x (Open.length : Int) 99))))))) ∧ ((cond (cond (inB (Open.length : Int) 1 7) (Open.all (fun x => inB x 0 99)) false) (decide ((Dist.length : Int) ≤ 7)) false) = true → (cond (cond (inB (Open.length : Int) 1 7) (Open.all (fun x => inB x 0 99)) false) (decide ((Dist.length : Int) ≤ 7)) false) = true) ∧ (true = true) ∧ (((cond (cond (inB (Open.length : Int) 1 7) (Open.all (fun x => inB x 0 99)) false) (decide ((Dist.length : Int) ≤ 7)) false) = true → (cond (cond (inB (Open.length : Int) 1 7) (Open.all (fun x => inB x 0 99)) false) (decide ((Dist.length : Int) ≤ 7)) false) = true)) ∧ (((cond (cond (inB (Open.length : Int) 1 7) (Open.all (fun x => inB x 0 99)) false) (decide ((Dist.length : Int) ≤ 7)) false) = false → true = true)) ∧ (((cond (cond (cond (inB (Open.length : Int) 1 7) (Open.all (fun x => inB x 0 99)) false) (decide ((Dist.length : Int) ≤ 7)) false) (!(Dist.any (fun x => !(rowOk x (Open.length : Int) 99)))) false) = (goodField Open Dist)))
theorem i_IsField_vc (Open : List Int) (Dist : List (List Int))  (w_Open : (Open.length : Int) ≤ 9223372036854775807) (w_Dist : (Dist.length : Int) ≤ 9223372036854775807) (v_Dist : ∀ x9 ∈ Dist, (x9.length : Int) ≤ 9223372036854775807) : i_IsField_P Open Dist := by
  unfold i_IsField_P
  refine ⟨i_between_pc (Open.length : Int) 1 7, id, id, fun _ => i_areBetween_pc Open 0 99, rfl, id, fun _ => rfl, id, id, id, rfl, id, fun _ => rfl, id, id, id, fun _ => slices_ContainsFunc_int_int_iF_pc Dist Open Dist, id, rfl, id, fun _ => rfl, ?_⟩
  · unfold goodField
    rw [any_not, show decide ((Dist.length : Int) ≤ 7) = decide (Dist.length ≤ 7) from len_le _ 7]
    cases inB (Open.length : Int) 1 7 <;> cases Open.all (fun x => inB x 0 99) <;> cases decide (Dist.length ≤ 7) <;> simp
theorem i_IsField_pc (Open : List Int) (Dist : List (List Int))  : PC Try.prog 101 [.agg [.sl (.ints Open), .sl (.rows Dist)]] (.one (.d (.bool (goodField Open Dist)))) :=
  pc_wf @Try.call101 fun hw => pc_by (by kernel_rfl) Try.func101 @Try.call101 (by kernel_rfl) i_IsField_C (i_IsField_A Open Dist) (by kernel_rfl) (i_IsField_vc Open Dist hw.1.1 hw.1.2.1.1 hw.1.2.1.2) (by kernel_rfl)
def i_IsField_orc : List D → Orc := orcN [none] fun ds => match ds with
  | [.agg [.sl (.ints Open), .sl (.rows Dist)]] => some (.one (.d (.bool (goodField Open Dist))))
  | _ => none

def gapF (Dist : List (List Int)) (i j : Nat) (b : Int) (a : Nat) : Int := min b ((Dist.getD i []).getD a 0 + (Dist.getD j []).getD a 0)
def gapAt (Dist : List (List Int)) (i j : Int) : Int := if i = j then 0 else foldTo (gapF Dist i.toNat j.toNat) 199 (Dist.getD i.toNat []).length
theorem gap_bound {Dist : List (List Int)} {i j : Nat} {n : Nat} (hi : ∀ a, a < n → 0 ≤ (Dist.getD i []).getD a 0) (hj : ∀ a, a < n → 0 ≤ (Dist.getD j []).getD a 0) : 0 ≤ foldTo (gapF Dist i j) 199 n ∧ foldTo (gapF Dist i j) 199 n ≤ 199 := by
  refine foldTo_inv (P := fun _ x => 0 ≤ x ∧ x ≤ 199) n (by omega) fun k x hk hx => ?_
  have := hi k hk
  have := hj k hk
  unfold gapF
  omega

def s_l1Least_C (f : FuncId) (ds : List D) : Orc := .no
def s_l1Least_A (a : Int) (b : Int) : Ann := .none
def s_l1Least_P (a : Int) (b : Int) : Prop :=
  (((decide (a < b)) = true → ((a = (min a b)))) ∧ ((decide (a < b)) = false → ((b = (min a b)))))
theorem s_l1Least_vc (a : Int) (b : Int)   : s_l1Least_P a b := by
  unfold s_l1Least_P
  refine ⟨?_, ?_⟩
  · intro b1
    try simp only [nrmT] at b1
    first | omega | rfl | (intro hg; simp only [nrmT] at hg; omega) | (intro g1 g2; simp [g1, g2]; done) | (intro g1; simp at g1 ⊢; simp [g1]; done) | (simp only [nrmT] at *; omega) | (simp at * <;> omega) | (simp_all <;> omega) | (simp_all; done)
  · intro b2
    try simp only [nrmT] at b2
    first | omega | rfl | (intro hg; simp only [nrmT] at hg; omega) | (intro g1 g2; simp [g1, g2]; done) | (intro g1; simp at g1 ⊢; simp [g1]; done) | (simp only [nrmT] at *; omega) | (simp at * <;> omega) | (simp_all <;> omega) | (simp_all; done)
theorem s_l1Least_pc (a : Int) (b : Int)  : PC Try.prog 156 [.int .i64 a, .int .i64 b] (.one (.d (.int .i64 (min a b)))) :=
  pc_wf @Try.call156 fun _ => pc_by (by kernel_rfl) Try.func156 @Try.call156 (by kernel_rfl) s_l1Least_C (s_l1Least_A a b) (by kernel_rfl) (s_l1Least_vc a b) (by kernel_rfl)
def s_l1Least_orc : List D → Orc := orcN [none, none] fun ds => match ds with
  | [.int .i64 a, .int .i64 b] => some (.one (.d (.int .i64 (min a b))))
  | _ => none

abbrev s_l5Gap_JJ0 (Open : List Int) (Dist : List (List Int)) (i : Int) (j : Int) (best : Int) (a : Int) : Prop := (1 ≤ a) ∧ (a ≤ (Open.length : Int)) ∧ (best = foldTo (gapF Dist i.toNat j.toNat) 199 a.toNat) ∧ (i ≠ j)
abbrev s_l5Gap_mJ0 (Open : List Int) (Dist : List (List Int)) (i : Int) (j : Int) (best : Int) (a : Int) : Nat := (Open.length - a).toNat
def s_l5Gap_C (f : FuncId) (ds : List D) : Orc := bif Nat.beq f 156 then s_l1Least_orc ds else .no
def s_l5Gap_A (Open : List Int) (Dist : List (List Int)) (i : Int) (j : Int) : Ann := .two (.none) (.two (.none) (.two (.none) (.two (.two (.none) (.loop (cut2 (fun (best : Int) (a : Int) => s_l5Gap_JJ0 Open Dist i j best a) (fun (best : Int) (a : Int) => [(1, .d false (.int .i64 i)), (2, .d false (.int .i64 j)), (3, .ptr 3 0), (7, .d true (.int .i64 best)), (8, .d true (.int .i64 a))]) (fun (best : Int) (a : Int) => [(3, .box 48 [.d false (.sl (.ints Open)), .d false (.sl (.rows Dist))])])) (fun g => s_l5Gap_mJ0 Open Dist i j g.1 g.2) (fun _ => .none))) (.none))))
def s_l5Gap_P (Open : List Int) (Dist : List (List Int)) (i : Int) (j : Int) : Prop :=
  (((i == j) = true → (((0 : Int) = (gapAt Dist i j)))) ∧ ((i == j) = false → (true = true) ∧ ((0 : Int) ≤ i) ∧ ((i : Int) < Dist.length) ∧ (i.toNat < Dist.length) ∧ ((0 : Int) ≤ 0) ∧ ((0 : Int) < (Dist.getD i.toNat []).length) ∧ (0 < (Dist.getD i.toNat []).length) ∧ ((0 : Int) ≤ j) ∧ ((j : Int) < Dist.length) ∧ (j.toNat < Dist.length) ∧ ((0 : Int) ≤ 0) ∧ ((0 : Int) < (Dist.getD j.toNat []).length) ∧ (0 < (Dist.getD j.toNat []).length) ∧ (-9223372036854775808 ≤ (((Dist.getD i.toNat []).getD 0 0) + ((Dist.getD j.toNat []).getD 0 0)) ∧ (((Dist.getD i.toNat []).getD 0 0) + ((Dist.getD j.toNat []).getD 0 0)) ≤ 9223372036854775807) ∧ ((∃ best' : Int, ∃ a' : Int, (s_l5Gap_JJ0 Open Dist i j best' a') ∧ (i = i) ∧ (j = j) ∧ ((((Dist.getD i.toNat []).getD 0 0) + ((Dist.getD j.toNat []).getD 0 0)) = best') ∧ ((1 : Int) = a') ∧ (Open = Open) ∧ (Dist = Dist)) ∧ (∀ best : Int, ∀ a : Int, (s_l5Gap_JJ0 Open Dist i j best a) → (((decide (a < (Open.length : Int))) = true → (true = true) ∧ ((0 : Int) ≤ i) ∧ ((i : Int) < Dist.length) ∧ (i.toNat < Dist.length) ∧ ((0 : Int) ≤ a) ∧ ((a : Int) < (Dist.getD i.toNat []).length) ∧ (a.toNat < (Dist.getD i.toNat []).length) ∧ ((0 : Int) ≤ j) ∧ ((j : Int) < Dist.length) ∧ (j.toNat < Dist.length) ∧ ((0 : Int) ≤ a) ∧ ((a : Int) < (Dist.getD j.toNat []).length) ∧ (a.toNat < (Dist.getD j.toNat []).length) ∧ (-9223372036854775808 ≤ (((Dist.getD i.toNat []).getD a.toNat 0) + ((Dist.getD j.toNat []).getD a.toNat 0)) ∧ (((Dist.getD i.toNat []).getD a.toNat 0) + ((Dist.getD j.toNat []).getD a.toNat 0)) ≤ 9223372036854775807) ∧ (PC Try.prog 156 [.int .i64 best, .int .i64 (((Dist.getD i.toNat []).getD a.toNat 0) + ((Dist.getD j.toNat []).getD a.toNat 0))] (.one (.d (.int .i64 (min best (((Dist.getD i.toNat []).getD a.toNat 0) + ((Dist.getD j.toNat []).getD a.toNat 0))))))) ∧ (-9223372036854775808 ≤ (a + 1) ∧ (a + 1) ≤ 9223372036854775807) ∧ (∃ best' : Int, ∃ a' : Int, (s_l5Gap_JJ0 Open Dist i j best' a') ∧ (s_l5Gap_mJ0 Open Dist i j best' a' < s_l5Gap_mJ0 Open Dist i j best a) ∧ (i = i) ∧ (j = j) ∧ ((min best (((Dist.getD i.toNat []).getD a.toNat 0) + ((Dist.getD j.toNat []).getD a.toNat 0))) = best') ∧ ((a + 1) = a') ∧ (Open = Open) ∧ (Dist = Dist))) ∧ ((decide (a < (Open.length : Int))) = false → ((best = (gapAt Dist i j)))))))))
theorem s_l5Gap_vc (Open : List Int) (Dist : List (List Int)) (i : Int) (j : Int) (hg : goodField Open Dist = true) (hi : 0 ≤ i ∧ i < (Dist.length : Int)) (hj : 0 ≤ j ∧ j < (Dist.length : Int)) (w_Open : (Open.length : Int) ≤ 9223372036854775807) (w_Dist : (Dist.length : Int) ≤ 9223372036854775807) (v_Dist : ∀ x9 ∈ Dist, (x9.length : Int) ≤ 9223372036854775807) : s_l5Gap_P Open Dist i j := by
  unfold s_l5Gap_P
  obtain ⟨g1, g2, g3⟩ := gf_open hg
  obtain ⟨ri, ci⟩ := gf_row (i := i.toNat) hg (by omega)
  obtain ⟨rj, cj⟩ := gf_row (i := j.toNat) hg (by omega)
  refine ⟨?_, ?_⟩
  · intro b1
    try simp only [nrmT] at b1
    unfold gapAt; rw [if_pos (by omega)]
  · intro b2
    try simp only [nrmT] at b2
    refine ⟨rfl, ?_, ?_, ?_, ?_, ?_, ?_, ?_, ?_, ?_, ?_, ?_, ?_, ?_, ?_, ?_⟩
    · first | omega | rfl | (intro hg; simp only [nrmT] at hg; omega) | (intro g1 g2; simp [g1, g2]; done) | (intro g1; simp at g1 ⊢; simp [g1]; done) | (simp only [nrmT] at *; omega) | (simp at * <;> omega) | (simp_all <;> omega) | (simp_all; done)
    · first | omega | rfl | (intro hg; simp only [nrmT] at hg; omega) | (intro g1 g2; simp [g1, g2]; done) | (intro g1; simp at g1 ⊢; simp [g1]; done) | (simp only [nrmT] at *; omega) | (simp at * <;> omega) | (simp_all <;> omega) | (simp_all; done)
    · first | omega | rfl | (intro hg; simp only [nrmT] at hg; omega) | (intro g1 g2; simp [g1, g2]; done) | (intro g1; simp at g1 ⊢; simp [g1]; done) | (simp only [nrmT] at *; omega) | (simp at * <;> omega) | (simp_all <;> omega) | (simp_all; done)
    · first | omega | rfl | (intro hg; simp only [nrmT] at hg; omega) | (intro g1 g2; simp [g1, g2]; done) | (intro g1; simp at g1 ⊢; simp [g1]; done) | (simp only [nrmT] at *; omega) | (simp at * <;> omega) | (simp_all <;> omega) | (simp_all; done)
    · first | omega | rfl | (intro hg; simp only [nrmT] at hg; omega) | (intro g1 g2; simp [g1, g2]; done) | (intro g1; simp at g1 ⊢; simp [g1]; done) | (simp only [nrmT] at *; omega) | (simp at * <;> omega) | (simp_all <;> omega) | (simp_all; done)
    · first | omega | rfl | (intro hg; simp only [nrmT] at hg; omega) | (intro g1 g2; simp [g1, g2]; done) | (intro g1; simp at g1 ⊢; simp [g1]; done) | (simp only [nrmT] at *; omega) | (simp at * <;> omega) | (simp_all <;> omega) | (simp_all; done)
    · first | omega | rfl | (intro hg; simp only [nrmT] at hg; omega) | (intro g1 g2; simp [g1, g2]; done) | (intro g1; simp at g1 ⊢; simp [g1]; done) | (simp only [nrmT] at *; omega) | (simp at * <;> omega) | (simp_all <;> omega) | (simp_all; done)
    · first | omega | rfl | (intro hg; simp only [nrmT] at hg; omega) | (intro g1 g2; simp [g1, g2]; done) | (intro g1; simp at g1 ⊢; simp [g1]; done) | (simp only [nrmT] at *; omega) | (simp at * <;> omega) | (simp_all <;> omega) | (simp_all; done)
    · first | omega | rfl | (intro hg; simp only [nrmT] at hg; omega) | (intro g1 g2; simp [g1, g2]; done) | (intro g1; simp at g1 ⊢; simp [g1]; done) | (simp only [nrmT] at *; omega) | (simp at * <;> omega) | (simp_all <;> omega) | (simp_all; done)
    · first | omega | rfl | (intro hg; simp only [nrmT] at hg; omega) | (intro g1 g2; simp [g1, g2]; done) | (intro g1; simp at g1 ⊢; simp [g1]; done) | (simp only [nrmT] at *; omega) | (simp at * <;> omega) | (simp_all <;> omega) | (simp_all; done)
    · first | omega | rfl | (intro hg; simp only [nrmT] at hg; omega) | (intro g1 g2; simp [g1, g2]; done) | (intro g1; simp at g1 ⊢; simp [g1]; done) | (simp only [nrmT] at *; omega) | (simp at * <;> omega) | (simp_all <;> omega) | (simp_all; done)
    · first | omega | rfl | (intro hg; simp only [nrmT] at hg; omega) | (intro g1 g2; simp [g1, g2]; done) | (intro g1; simp at g1 ⊢; simp [g1]; done) | (simp only [nrmT] at *; omega) | (simp at * <;> omega) | (simp_all <;> omega) | (simp_all; done)
    · have := ci 0 (by omega)
      have := cj 0 (by omega)
      omega
    · refine ⟨(((Dist.getD i.toNat []).getD 0 0) + ((Dist.getD j.toNat []).getD 0 0)), 1, ?_⟩
      refine ⟨?_, rfl, rfl, rfl, rfl, rfl, rfl⟩
      · refine ⟨?_, ?_, ?_, ?_⟩
        · first | omega | rfl | (intro hg; simp only [nrmT] at hg; omega) | (intro g1 g2; simp [g1, g2]; done) | (intro g1; simp at g1 ⊢; simp [g1]; done) | (simp only [nrmT] at *; omega) | (simp at * <;> omega) | (simp_all <;> omega) | (simp_all; done)
        · first | omega | rfl | (intro hg; simp only [nrmT] at hg; omega) | (intro g1 g2; simp [g1, g2]; done) | (intro g1; simp at g1 ⊢; simp [g1]; done) | (simp only [nrmT] at *; omega) | (simp at * <;> omega) | (simp_all <;> omega) | (simp_all; done)
        · have := ci 0 (by omega)
          have := cj 0 (by omega)
          show _ = min 199 _
          simp only [show (0 : Int).toNat = 0 from rfl]
          omega
        · first | omega | rfl | (intro hg; simp only [nrmT] at hg; omega) | (intro g1 g2; simp [g1, g2]; done) | (intro g1; simp at g1 ⊢; simp [g1]; done) | (simp only [nrmT] at *; omega) | (simp at * <;> omega) | (simp_all <;> omega) | (simp_all; done)
    · intro best a hJ
      obtain ⟨h1, h2, h3, h4⟩ := hJ
      refine ⟨?_, ?_⟩
      · intro b3
        try simp only [nrmT] at b3
        refine ⟨rfl, ?_, ?_, ?_, ?_, ?_, ?_, ?_, ?_, ?_, ?_, ?_, ?_, ?_, s_l1Least_pc best (((Dist.getD i.toNat []).getD a.toNat 0) + ((Dist.getD j.toNat []).getD a.toNat 0)), ?_, ?_⟩
        · first | omega | rfl | (intro hg; simp only [nrmT] at hg; omega) | (intro g1 g2; simp [g1, g2]; done) | (intro g1; simp at g1 ⊢; simp [g1]; done) | (simp only [nrmT] at *; omega) | (simp at * <;> omega) | (simp_all <;> omega) | (simp_all; done)
        · first | omega | rfl | (intro hg; simp only [nrmT] at hg; omega) | (intro g1 g2; simp [g1, g2]; done) | (intro g1; simp at g1 ⊢; simp [g1]; done) | (simp only [nrmT] at *; omega) | (simp at * <;> omega) | (simp_all <;> omega) | (simp_all; done)
        · first | omega | rfl | (intro hg; simp only [nrmT] at hg; omega) | (intro g1 g2; simp [g1, g2]; done) | (intro g1; simp at g1 ⊢; simp [g1]; done) | (simp only [nrmT] at *; omega) | (simp at * <;> omega) | (simp_all <;> omega) | (simp_all; done)
        · first | omega | rfl | (intro hg; simp only [nrmT] at hg; omega) | (intro g1 g2; simp [g1, g2]; done) | (intro g1; simp at g1 ⊢; simp [g1]; done) | (simp only [nrmT] at *; omega) | (simp at * <;> omega) | (simp_all <;> omega) | (simp_all; done)
        · first | omega | rfl | (intro hg; simp only [nrmT] at hg; omega) | (intro g1 g2; simp [g1, g2]; done) | (intro g1; simp at g1 ⊢; simp [g1]; done) | (simp only [nrmT] at *; omega) | (simp at * <;> omega) | (simp_all <;> omega) | (simp_all; done)
        · first | omega | rfl | (intro hg; simp only [nrmT] at hg; omega) | (intro g1 g2; simp [g1, g2]; done) | (intro g1; simp at g1 ⊢; simp [g1]; done) | (simp only [nrmT] at *; omega) | (simp at * <;> omega) | (simp_all <;> omega) | (simp_all; done)
        · first | omega | rfl | (intro hg; simp only [nrmT] at hg; omega) | (intro g1 g2; simp [g1, g2]; done) | (intro g1; simp at g1 ⊢; simp [g1]; done) | (simp only [nrmT] at *; omega) | (simp at * <;> omega) | (simp_all <;> omega) | (simp_all; done)
        · first | omega | rfl | (intro hg; simp only [nrmT] at hg; omega) | (intro g1 g2; simp [g1, g2]; done) | (intro g1; simp at g1 ⊢; simp [g1]; done) | (simp only [nrmT] at *; omega) | (simp at * <;> omega) | (simp_all <;> omega) | (simp_all; done)
        · first | omega | rfl | (intro hg; simp only [nrmT] at hg; omega) | (intro g1 g2; simp [g1, g2]; done) | (intro g1; simp at g1 ⊢; simp [g1]; done) | (simp only [nrmT] at *; omega) | (simp at * <;> omega) | (simp_all <;> omega) | (simp_all; done)
        · first | omega | rfl | (intro hg; simp only [nrmT] at hg; omega) | (intro g1 g2; simp [g1, g2]; done) | (intro g1; simp at g1 ⊢; simp [g1]; done) | (simp only [nrmT] at *; omega) | (simp at * <;> omega) | (simp_all <;> omega) | (simp_all; done)
        · first | omega | rfl | (intro hg; simp only [nrmT] at hg; omega) | (intro g1 g2; simp [g1, g2]; done) | (intro g1; simp at g1 ⊢; simp [g1]; done) | (simp only [nrmT] at *; omega) | (simp at * <;> omega) | (simp_all <;> omega) | (simp_all; done)
        · first | omega | rfl | (intro hg; simp only [nrmT] at hg; omega) | (intro g1 g2; simp [g1, g2]; done) | (intro g1; simp at g1 ⊢; simp [g1]; done) | (simp only [nrmT] at *; omega) | (simp at * <;> omega) | (simp_all <;> omega) | (simp_all; done)
        · have := ci a.toNat (by omega)
          have := cj a.toNat (by omega)
          omega
        · first | omega | rfl | (intro hg; simp only [nrmT] at hg; omega) | (intro g1 g2; simp [g1, g2]; done) | (intro g1; simp at g1 ⊢; simp [g1]; done) | (simp only [nrmT] at *; omega) | (simp at * <;> omega) | (simp_all <;> omega) | (simp_all; done)
        · refine ⟨(min best (((Dist.getD i.toNat []).getD a.toNat 0) + ((Dist.getD j.toNat []).getD a.toNat 0))), (a + 1), ?_⟩
          refine ⟨?_, ?_, rfl, rfl, rfl, rfl, rfl, rfl⟩
          · refine ⟨?_, ?_, ?_, ?_⟩
            · first | omega | rfl | (intro hg; simp only [nrmT] at hg; omega) | (intro g1 g2; simp [g1, g2]; done) | (intro g1; simp at g1 ⊢; simp [g1]; done) | (simp only [nrmT] at *; omega) | (simp at * <;> omega) | (simp_all <;> omega) | (simp_all; done)
            · first | omega | rfl | (intro hg; simp only [nrmT] at hg; omega) | (intro g1 g2; simp [g1, g2]; done) | (intro g1; simp at g1 ⊢; simp [g1]; done) | (simp only [nrmT] at *; omega) | (simp at * <;> omega) | (simp_all <;> omega) | (simp_all; done)
            · rw [foldTo_step (by omega), ← h3]; rfl
            · first | omega | rfl | (intro hg; simp only [nrmT] at hg; omega) | (intro g1 g2; simp [g1, g2]; done) | (intro g1; simp at g1 ⊢; simp [g1]; done) | (simp only [nrmT] at *; omega) | (simp at * <;> omega) | (simp_all <;> omega) | (simp_all; done)
          · first | (show _ < _; omega) | (simp only [s_l5Gap_mJ0]; omega) | (simp only [s_l5Gap_mJ0] at *; simp at *; omega)
      · intro b4
        try simp only [nrmT] at b4
        unfold gapAt
        rw [if_neg h4, h3, ri]
        have : a.toNat = Open.length := by omega
        rw [this]
theorem s_l5Gap_pc (Open : List Int) (Dist : List (List Int)) (i : Int) (j : Int) (hg : goodField Open Dist = true) (hi : 0 ≤ i ∧ i < (Dist.length : Int)) (hj : 0 ≤ j ∧ j < (Dist.length : Int)) : PC Try.prog 105 [.agg [.sl (.ints Open), .sl (.rows Dist)], .int .i64 i, .int .i64 j] (.one (.d (.int .i64 (gapAt Dist i j)))) :=
  pc_wf @Try.call105 fun hw => pc_by (by kernel_rfl) Try.func105 @Try.call105 (by kernel_rfl) s_l5Gap_C (s_l5Gap_A Open Dist i j) (by kernel_rfl) (s_l5Gap_vc Open Dist i j hg hi hj hw.1.1 hw.1.2.1.1 hw.1.2.1.2) (by kernel_rfl)
def s_l5Gap_orc : List D → Orc := orcN [none, none, none] fun ds => match ds with
  | [.agg [.sl (.ints Open), .sl (.rows Dist)], .int .i64 i, .int .i64 j] => some (.one (.d (.int .i64 (gapAt Dist i j))))
  | _ => none

abbrev i_Field_gap_JJ0 (Open : List Int) (Dist : List (List Int)) (i : Int) (j : Int) (best : Int) (a : Int) : Prop := (0 ≤ a) ∧ (a ≤ (Open.length : Int)) ∧ (best = foldTo (gapF Dist i.toNat j.toNat) 199 a.toNat) ∧ (i ≠ j)
abbrev i_Field_gap_mJ0 (Open : List Int) (Dist : List (List Int)) (i : Int) (j : Int) (best : Int) (a : Int) : Nat := (Open.length - a).toNat
def i_Field_gap_C (f : FuncId) (ds : List D) : Orc := .no
def i_Field_gap_A (Open : List Int) (Dist : List (List Int)) (i : Int) (j : Int) : Ann := .two (.none) (.two (.none) (.two (.none) (.two (.two (.none) (.loop (cut2 (fun (best : Int) (a : Int) => i_Field_gap_JJ0 Open Dist i j best a) (fun (best : Int) (a : Int) => [(2, .d false (.int .i64 j)), (3, .ptr 3 0), (7, .d true (.int .i64 best)), (17, .d false (.sl (.ints (Dist.getD i.toNat [])))), (18, .d true (.int .i64 (((Dist.getD i.toNat []).length) : Int))), (19, .d true (.int .i64 a))]) (fun (best : Int) (a : Int) => [(3, .box 48 [.d false (.sl (.ints Open)), .d false (.sl (.rows Dist))])])) (fun g => i_Field_gap_mJ0 Open Dist i j g.1 g.2) (fun _ => .none))) (.none))))
def i_Field_gap_P (Open : List Int) (Dist : List (List Int)) (i : Int) (j : Int) : Prop :=
  (((i == j) = true → (((0 : Int) = (gapAt Dist i j)))) ∧ ((i == j) = false → ((0 : Int) ≤ i) ∧ ((i : Int) < Dist.length) ∧ (i.toNat < Dist.length) ∧ ((∃ best' : Int, ∃ a' : Int, (i_Field_gap_JJ0 Open Dist i j best' a') ∧ (j = j) ∧ ((199 : Int) = best') ∧ ((Dist.getD i.toNat []) = (Dist.getD i.toNat [])) ∧ ((((Dist.getD i.toNat []).length) : Int) = (((Dist.getD i.toNat []).length) : Int)) ∧ ((0 : Int) = a') ∧ (Open = Open) ∧ (Dist = Dist)) ∧ (∀ best : Int, ∀ a : Int, (i_Field_gap_JJ0 Open Dist i j best a) → (((decide (a < (((Dist.getD i.toNat []).length) : Int))) = true → ((0 : Int) ≤ a) ∧ ((a : Int) < (Dist.getD i.toNat []).length) ∧ (a.toNat < (Dist.getD i.toNat []).length) ∧ ((0 : Int) ≤ j) ∧ ((j : Int) < Dist.length) ∧ (j.toNat < Dist.length) ∧ ((0 : Int) ≤ a) ∧ ((a : Int) < (Dist.getD j.toNat []).length) ∧ (a.toNat < (Dist.getD j.toNat []).length) ∧ (-9223372036854775808 ≤ (((Dist.getD i.toNat []).getD a.toNat 0) + ((Dist.getD j.toNat []).getD a.toNat 0)) ∧ (((Dist.getD i.toNat []).getD a.toNat 0) + ((Dist.getD j.toNat []).getD a.toNat 0)) ≤ 9223372036854775807) ∧ (-9223372036854775808 ≤ (a + 1) ∧ (a + 1) ≤ 9223372036854775807) ∧ (∃ best' : Int, ∃ a' : Int, (i_Field_gap_JJ0 Open Dist i j best' a') ∧ (i_Field_gap_mJ0 Open Dist i j best' a' < i_Field_gap_mJ0 Open Dist i j best a) ∧ (j = j) ∧ ((min best (((Dist.getD i.toNat []).getD a.toNat 0) + ((Dist.getD j.toNat []).getD a.toNat 0))) = best') ∧ ((Dist.getD i.toNat []) = (Dist.getD i.toNat [])) ∧ ((((Dist.getD i.toNat []).length) : Int) = (((Dist.getD i.toNat []).length) : Int)) ∧ ((a + 1) = a') ∧ (Open = Open) ∧ (Dist = Dist))) ∧ ((decide (a < (((Dist.getD i.toNat []).length) : Int))) = false → ((best = (gapAt Dist i j)))))))))
theorem i_Field_gap_vc (Open : List Int) (Dist : List (List Int)) (i : Int) (j : Int) (hg : goodField Open Dist = true) (hi : 0 ≤ i ∧ i < (Dist.length : Int)) (hj : 0 ≤ j ∧ j < (Dist.length : Int)) (w_Open : (Open.length : Int) ≤ 9223372036854775807) (w_Dist : (Dist.length : Int) ≤ 9223372036854775807) (v_Dist : ∀ x9 ∈ Dist, (x9.length : Int) ≤ 9223372036854775807) : i_Field_gap_P Open Dist i j := by
  unfold i_Field_gap_P
  obtain ⟨g1, g2, g3⟩ := gf_open hg
  obtain ⟨ri, ci⟩ := gf_row (i := i.toNat) hg (by omega)
  obtain ⟨rj, cj⟩ := gf_row (i := j.toNat) hg (by omega)
  refine ⟨?_, ?_⟩
  · intro b1
    try simp only [nrmT] at b1
    unfold gapAt; rw [if_pos (by omega)]
  · intro b2
    try simp only [nrmT] at b2
    refine ⟨?_, ?_, ?_, ?_, ?_⟩
    · first | omega | rfl | (intro hg; simp only [nrmT] at hg; omega) | (intro g1 g2; simp [g1, g2]; done) | (intro g1; simp at g1 ⊢; simp [g1]; done) | (simp only [nrmT] at *; omega) | (simp at * <;> omega) | (simp_all <;> omega) | (simp_all; done)
    · first | omega | rfl | (intro hg; simp only [nrmT] at hg; omega) | (intro g1 g2; simp [g1, g2]; done) | (intro g1; simp at g1 ⊢; simp [g1]; done) | (simp only [nrmT] at *; omega) | (simp at * <;> omega) | (simp_all <;> omega) | (simp_all; done)
    · first | omega | rfl | (intro hg; simp only [nrmT] at hg; omega) | (intro g1 g2; simp [g1, g2]; done) | (intro g1; simp at g1 ⊢; simp [g1]; done) | (simp only [nrmT] at *; omega) | (simp at * <;> omega) | (simp_all <;> omega) | (simp_all; done)
    · refine ⟨199, 0, ?_⟩
      refine ⟨?_, rfl, rfl, rfl, rfl, rfl, rfl, rfl⟩
      · refine ⟨?_, ?_, ?_, ?_⟩
        · first | omega | rfl | (intro hg; simp only [nrmT] at hg; omega) | (intro g1 g2; simp [g1, g2]; done) | (intro g1; simp at g1 ⊢; simp [g1]; done) | (simp only [nrmT] at *; omega) | (simp at * <;> omega) | (simp_all <;> omega) | (simp_all; done)
        · first | omega | rfl | (intro hg; simp only [nrmT] at hg; omega) | (intro g1 g2; simp [g1, g2]; done) | (intro g1; simp at g1 ⊢; simp [g1]; done) | (simp only [nrmT] at *; omega) | (simp at * <;> omega) | (simp_all <;> omega) | (simp_all; done)
        · first | omega | rfl | (intro hg; simp only [nrmT] at hg; omega) | (intro g1 g2; simp [g1, g2]; done) | (intro g1; simp at g1 ⊢; simp [g1]; done) | (simp only [nrmT] at *; omega) | (simp at * <;> omega) | (simp_all <;> omega) | (simp_all; done)
        · first | omega | rfl | (intro hg; simp only [nrmT] at hg; omega) | (intro g1 g2; simp [g1, g2]; done) | (intro g1; simp at g1 ⊢; simp [g1]; done) | (simp only [nrmT] at *; omega) | (simp at * <;> omega) | (simp_all <;> omega) | (simp_all; done)
    · intro best a hJ
      obtain ⟨h1, h2, h3, h4⟩ := hJ
      refine ⟨?_, ?_⟩
      · intro b3
        try simp only [nrmT] at b3
        refine ⟨?_, ?_, ?_, ?_, ?_, ?_, ?_, ?_, ?_, ?_, ?_, ?_⟩
        · first | omega | rfl | (intro hg; simp only [nrmT] at hg; omega) | (intro g1 g2; simp [g1, g2]; done) | (intro g1; simp at g1 ⊢; simp [g1]; done) | (simp only [nrmT] at *; omega) | (simp at * <;> omega) | (simp_all <;> omega) | (simp_all; done)
        · first | omega | rfl | (intro hg; simp only [nrmT] at hg; omega) | (intro g1 g2; simp [g1, g2]; done) | (intro g1; simp at g1 ⊢; simp [g1]; done) | (simp only [nrmT] at *; omega) | (simp at * <;> omega) | (simp_all <;> omega) | (simp_all; done)
        · first | omega | rfl | (intro hg; simp only [nrmT] at hg; omega) | (intro g1 g2; simp [g1, g2]; done) | (intro g1; simp at g1 ⊢; simp [g1]; done) | (simp only [nrmT] at *; omega) | (simp at * <;> omega) | (simp_all <;> omega) | (simp_all; done)
        · first | omega | rfl | (intro hg; simp only [nrmT] at hg; omega) | (intro g1 g2; simp [g1, g2]; done) | (intro g1; simp at g1 ⊢; simp [g1]; done) | (simp only [nrmT] at *; omega) | (simp at * <;> omega) | (simp_all <;> omega) | (simp_all; done)
        · first | omega | rfl | (intro hg; simp only [nrmT] at hg; omega) | (intro g1 g2; simp [g1, g2]; done) | (intro g1; simp at g1 ⊢; simp [g1]; done) | (simp only [nrmT] at *; omega) | (simp at * <;> omega) | (simp_all <;> omega) | (simp_all; done)
        · first | omega | rfl | (intro hg; simp only [nrmT] at hg; omega) | (intro g1 g2; simp [g1, g2]; done) | (intro g1; simp at g1 ⊢; simp [g1]; done) | (simp only [nrmT] at *; omega) | (simp at * <;> omega) | (simp_all <;> omega) | (simp_all; done)
        · first | omega | rfl | (intro hg; simp only [nrmT] at hg; omega) | (intro g1 g2; simp [g1, g2]; done) | (intro g1; simp at g1 ⊢; simp [g1]; done) | (simp only [nrmT] at *; omega) | (simp at * <;> omega) | (simp_all <;> omega) | (simp_all; done)
        · first | omega | rfl | (intro hg; simp only [nrmT] at hg; omega) | (intro g1 g2; simp [g1, g2]; done) | (intro g1; simp at g1 ⊢; simp [g1]; done) | (simp only [nrmT] at *; omega) | (simp at * <;> omega) | (simp_all <;> omega) | (simp_all; done)
        · first | omega | rfl | (intro hg; simp only [nrmT] at hg; omega) | (intro g1 g2; simp [g1, g2]; done) | (intro g1; simp at g1 ⊢; simp [g1]; done) | (simp only [nrmT] at *; omega) | (simp at * <;> omega) | (simp_all <;> omega) | (simp_all; done)
        · have := ci a.toNat (by omega)
          have := cj a.toNat (by omega)
          omega
        · first | omega | rfl | (intro hg; simp only [nrmT] at hg; omega) | (intro g1 g2; simp [g1, g2]; done) | (intro g1; simp at g1 ⊢; simp [g1]; done) | (simp only [nrmT] at *; omega) | (simp at * <;> omega) | (simp_all <;> omega) | (simp_all; done)
        · refine ⟨(min best (((Dist.getD i.toNat []).getD a.toNat 0) + ((Dist.getD j.toNat []).getD a.toNat 0))), (a + 1), ?_⟩
          refine ⟨?_, ?_, rfl, rfl, rfl, rfl, rfl, rfl, rfl⟩
          · refine ⟨?_, ?_, ?_, ?_⟩
            · first | omega | rfl | (intro hg; simp only [nrmT] at hg; omega) | (intro g1 g2; simp [g1, g2]; done) | (intro g1; simp at g1 ⊢; simp [g1]; done) | (simp only [nrmT] at *; omega) | (simp at * <;> omega) | (simp_all <;> omega) | (simp_all; done)
            · first | omega | rfl | (intro hg; simp only [nrmT] at hg; omega) | (intro g1 g2; simp [g1, g2]; done) | (intro g1; simp at g1 ⊢; simp [g1]; done) | (simp only [nrmT] at *; omega) | (simp at * <;> omega) | (simp_all <;> omega) | (simp_all; done)
            · rw [foldTo_step (by omega), ← h3]; rfl
            · first | omega | rfl | (intro hg; simp only [nrmT] at hg; omega) | (intro g1 g2; simp [g1, g2]; done) | (intro g1; simp at g1 ⊢; simp [g1]; done) | (simp only [nrmT] at *; omega) | (simp at * <;> omega) | (simp_all <;> omega) | (simp_all; done)
          · first | (show _ < _; omega) | (simp only [i_Field_gap_mJ0]; omega) | (simp only [i_Field_gap_mJ0] at *; simp at *; omega)
      · intro b4
        try simp only [nrmT] at b4
        unfold gapAt
        rw [if_neg h4, h3, ri]
        have : a.toNat = Open.length := by omega
        rw [this]
theorem i_Field_gap_pc (Open : List Int) (Dist : List (List Int)) (i : Int) (j : Int) (hg : goodField Open Dist = true) (hi : 0 ≤ i ∧ i < (Dist.length : Int)) (hj : 0 ≤ j ∧ j < (Dist.length : Int)) : PC Try.prog 106 [.agg [.sl (.ints Open), .sl (.rows Dist)], .int .i64 i, .int .i64 j] (.one (.d (.int .i64 (gapAt Dist i j)))) :=
  pc_wf @Try.call106 fun hw => pc_by (by kernel_rfl) Try.func106 @Try.call106 (by kernel_rfl) i_Field_gap_C (i_Field_gap_A Open Dist i j) (by kernel_rfl) (i_Field_gap_vc Open Dist i j hg hi hj hw.1.1 hw.1.2.1.1 hw.1.2.1.2) (by kernel_rfl)
def i_Field_gap_orc : List D → Orc := orcN [none, none, none] fun ds => match ds with
  | [.agg [.sl (.ints Open), .sl (.rows Dist)], .int .i64 i, .int .i64 j] => some (.one (.d (.int .i64 (gapAt Dist i j))))
  | _ => none

def s_GapOf_C (f : FuncId) (ds : List D) : Orc := bif Nat.beq f 99 then s_l2Good_orc ds else bif Nat.beq f 81 then s_l1In_orc ds else bif Nat.beq f 105 then s_l5Gap_orc ds else .no
def s_GapOf_A (Open : List Int) (Dist : List (List Int)) (i : Int) (j : Int) : Ann := .none
def s_GapOf_P (Open : List Int) (Dist : List (List Int)) (i : Int) (j : Int) : Prop :=
  (PC Try.prog 99 [.agg [.sl (.ints Open), .sl (.rows Dist)]] (.one (.d (.bool (goodField Open Dist))))) ∧ ((!(!(goodField Open Dist))) = true → (!(!(goodField Open Dist))) = true) ∧ ((!(!(goodField Open Dist))) = true → (!(!(goodField Open Dist))) = true) ∧ ((!(!(goodField Open Dist))) = true → (!(!(goodField Open Dist))) = true) ∧ (((!(!(goodField Open Dist))) = true → -9223372036854775808 ≤ ((Dist.length : Int) - 1) ∧ ((Dist.length : Int) - 1) ≤ 9223372036854775807)) ∧ ((!(!(goodField Open Dist))) = true → (!(!(goodField Open Dist))) = true) ∧ ((!(!(goodField Open Dist))) = true → (!(!(goodField Open Dist))) = true) ∧ ((!(!(goodField Open Dist))) = true → PC Try.prog 81 [.int .i64 i, .int .i64 0, .int .i64 ((Dist.length : Int) - 1)] (.one (.d (.bool (inB i 0 ((Dist.length : Int) - 1)))))) ∧ ((!(!(goodField Open Dist))) = true → (!(!(goodField Open Dist))) = true) ∧ (true = true) ∧ (((!(goodField Open Dist)) = true → true = true)) ∧ (((!(goodField Open Dist)) = false → (!(!(goodField Open Dist))) = true)) ∧ ((!(cond (!(goodField Open Dist)) true (!(inB i 0 ((Dist.length : Int) - 1))))) = true → (!(cond (!(goodField Open Dist)) true (!(inB i 0 ((Dist.length : Int) - 1))))) = true) ∧ ((!(cond (!(goodField Open Dist)) true (!(inB i 0 ((Dist.length : Int) - 1))))) = true → (!(cond (!(goodField Open Dist)) true (!(inB i 0 ((Dist.length : Int) - 1))))) = true) ∧ ((!(cond (!(goodField Open Dist)) true (!(inB i 0 ((Dist.length : Int) - 1))))) = true → (!(cond (!(goodField Open Dist)) true (!(inB i 0 ((Dist.length : Int) - 1))))) = true) ∧ (((!(cond (!(goodField Open Dist)) true (!(inB i 0 ((Dist.length : Int) - 1))))) = true → -9223372036854775808 ≤ ((Dist.length : Int) - 1) ∧ ((Dist.length : Int) - 1) ≤ 9223372036854775807)) ∧ ((!(cond (!(goodField Open Dist)) true (!(inB i 0 ((Dist.length : Int) - 1))))) = true → (!(cond (!(goodField Open Dist)) true (!(inB i 0 ((Dist.length : Int) - 1))))) = true) ∧ ((!(cond (!(goodField Open Dist)) true (!(inB i 0 ((Dist.length : Int) - 1))))) = true → (!(cond (!(goodField Open Dist)) true (!(inB i 0 ((Dist.length : Int) - 1))))) = true) ∧ ((!(cond (!(goodField Open Dist)) true (!(inB i 0 ((Dist.length : Int) - 1))))) = true → PC Try.prog 81 [.int .i64 j, .int .i64 0, .int .i64 ((Dist.length : Int) - 1)] (.one (.d (.bool (inB j 0 ((Dist.length : Int) - 1)))))) ∧ ((!(cond (!(goodField Open Dist)) true (!(inB i 0 ((Dist.length : Int) - 1))))) = true → (!(cond (!(goodField Open Dist)) true (!(inB i 0 ((Dist.length : Int) - 1))))) = true) ∧ (true = true) ∧ (((cond (!(goodField Open Dist)) true (!(inB i 0 ((Dist.length : Int) - 1)))) = true → true = true)) ∧ (((cond (!(goodField Open Dist)) true (!(inB i 0 ((Dist.length : Int) - 1)))) = false → (!(cond (!(goodField Open Dist)) true (!(inB i 0 ((Dist.length : Int) - 1))))) = true)) ∧ (((cond (cond (!(goodField Open Dist)) true (!(inB i 0 ((Dist.length : Int) - 1)))) true (!(inB j 0 ((Dist.length : Int) - 1)))) = true → (((0 : Int) = (if goodField Open Dist && inB i 0 ((Dist.length : Int) - 1) && inB j 0 ((Dist.length : Int) - 1) then gapAt Dist i j else 0)) ∧ (false = (goodField Open Dist && inB i 0 ((Dist.length : Int) - 1) && inB j 0 ((Dist.length : Int) - 1))))) ∧ ((cond (cond (!(goodField Open Dist)) true (!(inB i 0 ((Dist.length : Int) - 1)))) true (!(inB j 0 ((Dist.length : Int) - 1)))) = false → (PC Try.prog 105 [.agg [.sl (.ints Open), .sl (.rows Dist)], .int .i64 i, .int .i64 j] (.one (.d (.int .i64 (gapAt Dist i j))))) ∧ (((gapAt Dist i j) = (if goodField Open Dist && inB i 0 ((Dist.length : Int) - 1) && inB j 0 ((Dist.length : Int) - 1) then gapAt Dist i j else 0)) ∧ (true = (goodField Open Dist && inB i 0 ((Dist.length : Int) - 1) && inB j 0 ((Dist.length : Int) - 1))))))
theorem s_GapOf_vc (Open : List Int) (Dist : List (List Int)) (i : Int) (j : Int)  (w_Open : (Open.length : Int) ≤ 9223372036854775807) (w_Dist : (Dist.length : Int) ≤ 9223372036854775807) (v_Dist : ∀ x9 ∈ Dist, (x9.length : Int) ≤ 9223372036854775807) : s_GapOf_P Open Dist i j := by
  unfold s_GapOf_P
  refine ⟨s_l2Good_pc Open Dist, id, id, id, ?_, id, id, fun _ => s_l1In_pc i 0 ((Dist.length : Int) - 1), id, rfl, fun _ => rfl, ?_, id, id, id, ?_, id, id, fun _ => s_l1In_pc j 0 ((Dist.length : Int) - 1), id, rfl, fun _ => rfl, ?_, ?_, ?_⟩
  · intro _; omega
  · first | omega | rfl | (intro hg; simp only [nrmT] at hg; omega) | (intro g1 g2; simp [g1, g2]; done) | (intro g1; simp at g1 ⊢; simp [g1]; done) | (simp only [nrmT] at *; omega) | (simp at * <;> omega) | (simp_all <;> omega) | (simp_all; done)
  · intro _; omega
  · intro h; rw [h]; rfl
  · intro b1
    refine ⟨?_, ?_⟩
    · have hq : (goodField Open Dist && inB i 0 ((Dist.length : Int) - 1) && inB j 0 ((Dist.length : Int) - 1)) = false := by
        revert b1; cases goodField Open Dist <;> cases inB i 0 ((Dist.length : Int) - 1) <;> cases inB j 0 ((Dist.length : Int) - 1) <;> simp
      rw [hq]; rfl
    · have hq : (goodField Open Dist && inB i 0 ((Dist.length : Int) - 1) && inB j 0 ((Dist.length : Int) - 1)) = false := by
        revert b1; cases goodField Open Dist <;> cases inB i 0 ((Dist.length : Int) - 1) <;> cases inB j 0 ((Dist.length : Int) - 1) <;> simp
      exact hq.symm
  · intro b2
    refine ⟨?_, ?_, ?_⟩
    · refine s_l5Gap_pc Open Dist i j ?_ ?_ ?_
      · have hq : goodField Open Dist = true ∧ inB i 0 ((Dist.length : Int) - 1) = true ∧ inB j 0 ((Dist.length : Int) - 1) = true := by
          revert b2; cases goodField Open Dist <;> cases inB i 0 ((Dist.length : Int) - 1) <;> cases inB j 0 ((Dist.length : Int) - 1) <;> simp
        exact hq.1
      · have hq : goodField Open Dist = true ∧ inB i 0 ((Dist.length : Int) - 1) = true ∧ inB j 0 ((Dist.length : Int) - 1) = true := by
          revert b2; cases goodField Open Dist <;> cases inB i 0 ((Dist.length : Int) - 1) <;> cases inB j 0 ((Dist.length : Int) - 1) <;> simp
        have := inB_le hq.2.1
        omega
      · have hq : goodField Open Dist = true ∧ inB i 0 ((Dist.length : Int) - 1) = true ∧ inB j 0 ((Dist.length : Int) - 1) = true := by
          revert b2; cases goodField Open Dist <;> cases inB i 0 ((Dist.length : Int) - 1) <;> cases inB j 0 ((Dist.length : Int) - 1) <;> simp
        have := inB_le hq.2.2
        omega
    · have hq : goodField Open Dist = true ∧ inB i 0 ((Dist.length : Int) - 1) = true ∧ inB j 0 ((Dist.length : Int) - 1) = true := by
        revert b2; cases goodField Open Dist <;> cases inB i 0 ((Dist.length : Int) - 1) <;> cases inB j 0 ((Dist.length : Int) - 1) <;> simp
      rw [hq.1, hq.2.1, hq.2.2]; rfl
    · have hq : goodField Open Dist = true ∧ inB i 0 ((Dist.length : Int) - 1) = true ∧ inB j 0 ((Dist.length : Int) - 1) = true := by
        revert b2; cases goodField Open Dist <;> cases inB i 0 ((Dist.length : Int) - 1) <;> cases inB j 0 ((Dist.length : Int) - 1) <;> simp
      rw [hq.1, hq.2.1, hq.2.2]; rfl
theorem s_GapOf_pc (Open : List Int) (Dist : List (List Int)) (i : Int) (j : Int)  : PC Try.prog 50 [.agg [.sl (.ints Open), .sl (.rows Dist)], .int .i64 i, .int .i64 j] (.tup [.d (.int .i64 (if goodField Open Dist && inB i 0 ((Dist.length : Int) - 1) && inB j 0 ((Dist.length : Int) - 1) then gapAt Dist i j else 0)), .d (.bool (goodField Open Dist && inB i 0 ((Dist.length : Int) - 1) && inB j 0 ((Dist.length : Int) - 1)))]) :=
  pc_wf @Try.call50 fun hw => pc_by (by kernel_rfl) Try.func50 @Try.call50 (by kernel_rfl) s_GapOf_C (s_GapOf_A Open Dist i j) (by kernel_rfl) (s_GapOf_vc Open Dist i j hw.1.1 hw.1.2.1.1 hw.1.2.1.2) (by kernel_rfl)
def s_GapOf_orc : List D → Orc := orcN [none, none, none] fun ds => match ds with
  | [.agg [.sl (.ints Open), .sl (.rows Dist)], .int .i64 i, .int .i64 j] => some (.tup [.d (.int .i64 (if goodField Open Dist && inB i 0 ((Dist.length : Int) - 1) && inB j 0 ((Dist.length : Int) - 1) then gapAt Dist i j else 0)), .d (.bool (goodField Open Dist && inB i 0 ((Dist.length : Int) - 1) && inB j 0 ((Dist.length : Int) - 1)))])
  | _ => none

def i_GapOf_C (f : FuncId) (ds : List D) : Orc := bif Nat.beq f 101 then i_IsField_orc ds else bif Nat.beq f 87 then i_areBetween_orc ds else bif Nat.beq f 106 then i_Field_gap_orc ds else .no
def i_GapOf_A (Open : List Int) (Dist : List (List Int)) (i : Int) (j : Int) : Ann := .two (.none) (.two (.two (.reg [(6, .frz)]) (.none)) (.none))
def i_GapOf_P (Open : List Int) (Dist : List (List Int)) (i : Int) (j : Int) : Prop :=
  (PC Try.prog 101 [.agg [.sl (.ints Open), .sl (.rows Dist)]] (.one (.d (.bool (goodField Open Dist))))) ∧ ((!(!(goodField Open Dist))) = true → (!(!(goodField Open Dist))) = true) ∧ ((!(!(goodField Open Dist))) = true → (!(!(goodField Open Dist))) = true) ∧ ((!(!(goodField Open Dist))) = true → (!(!(goodField Open Dist))) = true) ∧ ((!(!(goodField Open Dist))) = true → (!(!(goodField Open Dist))) = true) ∧ ((!(!(goodField Open Dist))) = true → (!(!(goodField Open Dist))) = true) ∧ (((!(!(goodField Open Dist))) = true → -9223372036854775808 ≤ ((Dist.length : Int) - 1) ∧ ((Dist.length : Int) - 1) ≤ 9223372036854775807)) ∧ ((!(!(goodField Open Dist))) = true → (!(!(goodField Open Dist))) = true) ∧ ((!(!(goodField Open Dist))) = true → (!(!(goodField Open Dist))) = true) ∧ ((!(!(goodField Open Dist))) = true → PC Try.prog 87 [.sl (.ints ([i, j])), .int .i64 0, .int .i64 ((Dist.length : Int) - 1)] (.one (.d (.bool (([i, j]).all (fun x => inB x 0 ((Dist.length : Int) - 1))))))) ∧ ((!(!(goodField Open Dist))) = true → (!(!(goodField Open Dist))) = true) ∧ (true = true) ∧ (((!(goodField Open Dist)) = true → true = true)) ∧ (((!(goodField Open Dist)) = false → (!(!(goodField Open Dist))) = true)) ∧ (((cond (!(goodField Open Dist)) true (!(([i, j]).all (fun x => inB x 0 ((Dist.length : Int) - 1))))) = true → (((0 : Int) = (if goodField Open Dist && inB i 0 ((Dist.length : Int) - 1) && inB j 0 ((Dist.length : Int) - 1) then gapAt Dist i j else 0)) ∧ (false = (goodField Open Dist && inB i 0 ((Dist.length : Int) - 1) && inB j 0 ((Dist.length : Int) - 1))))) ∧ ((cond (!(goodField Open Dist)) true (!(([i, j]).all (fun x => inB x 0 ((Dist.length : Int) - 1))))) = false → (PC Try.prog 106 [.agg [.sl (.ints Open), .sl (.rows Dist)], .int .i64 i, .int .i64 j] (.one (.d (.int .i64 (gapAt Dist i j))))) ∧ (((gapAt Dist i j) = (if goodField Open Dist && inB i 0 ((Dist.length : Int) - 1) && inB j 0 ((Dist.length : Int) - 1) then gapAt Dist i j else 0)) ∧ (true = (goodField Open Dist && inB i 0 ((Dist.length : Int) - 1) && inB j 0 ((Dist.length : Int) - 1))))))
theorem i_GapOf_vc (Open : List Int) (Dist : List (List Int)) (i : Int) (j : Int)  (w_Open : (Open.length : Int) ≤ 9223372036854775807) (w_Dist : (Dist.length : Int) ≤ 9223372036854775807) (v_Dist : ∀ x9 ∈ Dist, (x9.length : Int) ≤ 9223372036854775807) : i_GapOf_P Open Dist i j := by
  unfold i_GapOf_P
  refine ⟨i_IsField_pc Open Dist, id, id, id, id, id, ?_, id, id, fun _ => i_areBetween_pc ([i, j]) 0 ((Dist.length : Int) - 1), id, rfl, fun _ => rfl, ?_, ?_, ?_⟩
  · intro _; omega
  · first | omega | rfl | (intro hg; simp only [nrmT] at hg; omega) | (intro g1 g2; simp [g1, g2]; done) | (intro g1; simp at g1 ⊢; simp [g1]; done) | (simp only [nrmT] at *; omega) | (simp at * <;> omega) | (simp_all <;> omega) | (simp_all; done)
  · intro b1
    refine ⟨?_, ?_⟩
    · have hq : (goodField Open Dist && inB i 0 ((Dist.length : Int) - 1) && inB j 0 ((Dist.length : Int) - 1)) = false := by
        revert b1; simp only [List.all_cons, List.all_nil, Bool.and_true]; cases goodField Open Dist <;> cases inB i 0 ((Dist.length : Int) - 1) <;> cases inB j 0 ((Dist.length : Int) - 1) <;> simp
      rw [hq]; rfl
    · have hq : (goodField Open Dist && inB i 0 ((Dist.length : Int) - 1) && inB j 0 ((Dist.length : Int) - 1)) = false := by
        revert b1; simp only [List.all_cons, List.all_nil, Bool.and_true]; cases goodField Open Dist <;> cases inB i 0 ((Dist.length : Int) - 1) <;> cases inB j 0 ((Dist.length : Int) - 1) <;> simp
      exact hq.symm
  · intro b2
    refine ⟨?_, ?_, ?_⟩
    · refine i_Field_gap_pc Open Dist i j ?_ ?_ ?_
      · have hq : goodField Open Dist = true ∧ inB i 0 ((Dist.length : Int) - 1) = true ∧ inB j 0 ((Dist.length : Int) - 1) = true := by
          revert b2; simp only [List.all_cons, List.all_nil, Bool.and_true]; cases goodField Open Dist <;> cases inB i 0 ((Dist.length : Int) - 1) <;> cases inB j 0 ((Dist.length : Int) - 1) <;> simp
        exact hq.1
      · have hq : goodField Open Dist = true ∧ inB i 0 ((Dist.length : Int) - 1) = true ∧ inB j 0 ((Dist.length : Int) - 1) = true := by
          revert b2; simp only [List.all_cons, List.all_nil, Bool.and_true]; cases goodField Open Dist <;> cases inB i 0 ((Dist.length : Int) - 1) <;> cases inB j 0 ((Dist.length : Int) - 1) <;> simp
        have := inB_le hq.2.1
        omega
      · have hq : goodField Open Dist = true ∧ inB i 0 ((Dist.length : Int) - 1) = true ∧ inB j 0 ((Dist.length : Int) - 1) = true := by
          revert b2; simp only [List.all_cons, List.all_nil, Bool.and_true]; cases goodField Open Dist <;> cases inB i 0 ((Dist.length : Int) - 1) <;> cases inB j 0 ((Dist.length : Int) - 1) <;> simp
        have := inB_le hq.2.2
        omega
    · have hq : goodField Open Dist = true ∧ inB i 0 ((Dist.length : Int) - 1) = true ∧ inB j 0 ((Dist.length : Int) - 1) = true := by
        revert b2; simp only [List.all_cons, List.all_nil, Bool.and_true]; cases goodField Open Dist <;> cases inB i 0 ((Dist.length : Int) - 1) <;> cases inB j 0 ((Dist.length : Int) - 1) <;> simp
      rw [hq.1, hq.2.1, hq.2.2]; rfl
    · have hq : goodField Open Dist = true ∧ inB i 0 ((Dist.length : Int) - 1) = true ∧ inB j 0 ((Dist.length : Int) - 1) = true := by
        revert b2; simp only [List.all_cons, List.all_nil, Bool.and_true]; cases goodField Open Dist <;> cases inB i 0 ((Dist.length : Int) - 1) <;> cases inB j 0 ((Dist.length : Int) - 1) <;> simp
      rw [hq.1, hq.2.1, hq.2.2]; rfl
theorem i_GapOf_pc (Open : List Int) (Dist : List (List Int)) (i : Int) (j : Int)  : PC Try.prog 51 [.agg [.sl (.ints Open), .sl (.rows Dist)], .int .i64 i, .int .i64 j] (.tup [.d (.int .i64 (if goodField Open Dist && inB i 0 ((Dist.length : Int) - 1) && inB j 0 ((Dist.length : Int) - 1) then gapAt Dist i j else 0)), .d (.bool (goodField Open Dist && inB i 0 ((Dist.length : Int) - 1) && inB j 0 ((Dist.length : Int) - 1)))]) :=
  pc_wf @Try.call51 fun hw => pc_by (by kernel_rfl) Try.func51 @Try.call51 (by kernel_rfl) i_GapOf_C (i_GapOf_A Open Dist i j) (by kernel_rfl) (i_GapOf_vc Open Dist i j hw.1.1 hw.1.2.1.1 hw.1.2.1.2) (by kernel_rfl)
def i_GapOf_orc : List D → Orc := orcN [none, none, none] fun ds => match ds with
  | [.agg [.sl (.ints Open), .sl (.rows Dist)], .int .i64 i, .int .i64 j] => some (.tup [.d (.int .i64 (if goodField Open Dist && inB i 0 ((Dist.length : Int) - 1) && inB j 0 ((Dist.length : Int) - 1) then gapAt Dist i j else 0)), .d (.bool (goodField Open Dist && inB i 0 ((Dist.length : Int) - 1) && inB j 0 ((Dist.length : Int) - 1)))])
  | _ => none

def l_FnExactGapOf_C (f : FuncId) (ds : List D) : Orc := bif Nat.beq f 37 then l_szField_orc ds else bif Nat.beq f 39 then l_toField_orc ds else bif Nat.beq f 50 then s_GapOf_orc ds else bif Nat.beq f 51 then i_GapOf_orc ds else bif Nat.beq f 42 then l_eqField_orc ds else .no
def l_FnExactGapOf_A (Open : List Int) (Dist : List (List Int)) (i : Int) (j : Int) : Ann := .none
def l_FnExactGapOf_P (Open : List Int) (Dist : List (List Int)) (i : Int) (j : Int) : Prop :=
  (PC Try.prog 37 [.agg [.sl (.ints Open), .sl (.rows Dist)], .int .i64 1048576] (.one (.d (.int .i64 (szField Open Dist 1048576))))) ∧ (((decide ((szField Open Dist 1048576) < 0)) = true → ((true = true))) ∧ ((decide ((szField Open Dist 1048576) < 0)) = false → (PC Try.prog 39 [.agg [.sl (.ints Open), .sl (.rows Dist)]] (.one (.d (.agg [.sl (.ints Open), .sl (.rows Dist)])))) ∧ (PC Try.prog 50 [.agg [.sl (.ints Open), .sl (.rows Dist)], .int .i64 i, .int .i64 j] (.tup [.d (.int .i64 (if goodField Open Dist && inB i 0 ((Dist.length : Int) - 1) && inB j 0 ((Dist.length : Int) - 1) then gapAt Dist i j else 0)), .d (.bool (goodField Open Dist && inB i 0 ((Dist.length : Int) - 1) && inB j 0 ((Dist.length : Int) - 1)))])) ∧ (PC Try.prog 39 [.agg [.sl (.ints Open), .sl (.rows Dist)]] (.one (.d (.agg [.sl (.ints Open), .sl (.rows Dist)])))) ∧ (PC Try.prog 51 [.agg [.sl (.ints Open), .sl (.rows Dist)], .int .i64 i, .int .i64 j] (.tup [.d (.int .i64 (if goodField Open Dist && inB i 0 ((Dist.length : Int) - 1) && inB j 0 ((Dist.length : Int) - 1) then gapAt Dist i j else 0)), .d (.bool (goodField Open Dist && inB i 0 ((Dist.length : Int) - 1) && inB j 0 ((Dist.length : Int) - 1)))])) ∧ ((!((if goodField Open Dist && inB i 0 ((Dist.length : Int) - 1) && inB j 0 ((Dist.length : Int) - 1) then gapAt Dist i j else 0) != (if goodField Open Dist && inB i 0 ((Dist.length : Int) - 1) && inB j 0 ((Dist.length : Int) - 1) then gapAt Dist i j else 0))) = true → (!((if goodField Open Dist && inB i 0 ((Dist.length : Int) - 1) && inB j 0 ((Dist.length : Int) - 1) then gapAt Dist i j else 0) != (if goodField Open Dist && inB i 0 ((Dist.length : Int) - 1) && inB j 0 ((Dist.length : Int) - 1) then gapAt Dist i j else 0))) = true) ∧ ((!((if goodField Open Dist && inB i 0 ((Dist.length : Int) - 1) && inB j 0 ((Dist.length : Int) - 1) then gapAt Dist i j else 0) != (if goodField Open Dist && inB i 0 ((Dist.length : Int) - 1) && inB j 0 ((Dist.length : Int) - 1) then gapAt Dist i j else 0))) = true → (!((if goodField Open Dist && inB i 0 ((Dist.length : Int) - 1) && inB j 0 ((Dist.length : Int) - 1) then gapAt Dist i j else 0) != (if goodField Open Dist && inB i 0 ((Dist.length : Int) - 1) && inB j 0 ((Dist.length : Int) - 1) then gapAt Dist i j else 0))) = true) ∧ (true = true) ∧ ((((if goodField Open Dist && inB i 0 ((Dist.length : Int) - 1) && inB j 0 ((Dist.length : Int) - 1) then gapAt Dist i j else 0) != (if goodField Open Dist && inB i 0 ((Dist.length : Int) - 1) && inB j 0 ((Dist.length : Int) - 1) then gapAt Dist i j else 0)) = true → true = true)) ∧ ((((if goodField Open Dist && inB i 0 ((Dist.length : Int) - 1) && inB j 0 ((Dist.length : Int) - 1) then gapAt Dist i j else 0) != (if goodField Open Dist && inB i 0 ((Dist.length : Int) - 1) && inB j 0 ((Dist.length : Int) - 1) then gapAt Dist i j else 0)) = false → (!((if goodField Open Dist && inB i 0 ((Dist.length : Int) - 1) && inB j 0 ((Dist.length : Int) - 1) then gapAt Dist i j else 0) != (if goodField Open Dist && inB i 0 ((Dist.length : Int) - 1) && inB j 0 ((Dist.length : Int) - 1) then gapAt Dist i j else 0))) = true)) ∧ (((cond ((if goodField Open Dist && inB i 0 ((Dist.length : Int) - 1) && inB j 0 ((Dist.length : Int) - 1) then gapAt Dist i j else 0) != (if goodField Open Dist && inB i 0 ((Dist.length : Int) - 1) && inB j 0 ((Dist.length : Int) - 1) then gapAt Dist i j else 0)) true ((goodField Open Dist && inB i 0 ((Dist.length : Int) - 1) && inB j 0 ((Dist.length : Int) - 1)) != (goodField Open Dist && inB i 0 ((Dist.length : Int) - 1) && inB j 0 ((Dist.length : Int) - 1)))) = true → ((false = true))) ∧ ((cond ((if goodField Open Dist && inB i 0 ((Dist.length : Int) - 1) && inB j 0 ((Dist.length : Int) - 1) then gapAt Dist i j else 0) != (if goodField Open Dist && inB i 0 ((Dist.length : Int) - 1) && inB j 0 ((Dist.length : Int) - 1) then gapAt Dist i j else 0)) true ((goodField Open Dist && inB i 0 ((Dist.length : Int) - 1) && inB j 0 ((Dist.length : Int) - 1)) != (goodField Open Dist && inB i 0 ((Dist.length : Int) - 1) && inB j 0 ((Dist.length : Int) - 1)))) = false → (true = true) ∧ (PC Try.prog 39 [.agg [.sl (.ints Open), .sl (.rows Dist)]] (.one (.d (.agg [.sl (.ints Open), .sl (.rows Dist)])))) ∧ (PC Try.prog 42 [.agg [.sl (.ints Open), .sl (.rows Dist)], .agg [.sl (.ints Open), .sl (.rows Dist)]] (.one (.d (.bool ((Open == Open) && (Dist == Dist)))))) ∧ (((!((Open == Open) && (Dist == Dist))) = true → ((false = true))) ∧ ((!((Open == Open) && (Dist == Dist))) = false → ((true = true))))))))
theorem l_FnExactGapOf_vc (Open : List Int) (Dist : List (List Int)) (i : Int) (j : Int)  (w_Open : (Open.length : Int) ≤ 9223372036854775807) (w_Dist : (Dist.length : Int) ≤ 9223372036854775807) (v_Dist : ∀ x9 ∈ Dist, (x9.length : Int) ≤ 9223372036854775807) : l_FnExactGapOf_P Open Dist i j := by
  unfold l_FnExactGapOf_P
  refine ⟨?_, ?_, ?_⟩
  · refine l_szField_pc Open Dist 1048576 ?_
    · first | omega | rfl | (intro hg; simp only [nrmT] at hg; omega) | (intro g1 g2; simp [g1, g2]; done) | (intro g1; simp at g1 ⊢; simp [g1]; done) | (simp only [nrmT] at *; omega) | (simp at * <;> omega) | (simp_all <;> omega) | (simp_all; done)
  · intro b1
    try simp only [nrmT] at b1
    exact rfl
  · intro b2
    try simp only [nrmT] at b2
    refine ⟨?_, s_GapOf_pc Open Dist i j, ?_, i_GapOf_pc Open Dist i j, id, id, rfl, fun _ => rfl, ?_, ?_, ?_⟩
    · refine l_toField_pc Open Dist ?_ ?_ ?_
      · have := szField_bound b2; omega
      · have := szField_bound b2; omega
      · have h := (szField_bound b2).2.2
        intro xs hx
        have h := h xs hx
        omega
    · refine l_toField_pc Open Dist ?_ ?_ ?_
      · have := szField_bound b2; omega
      · have := szField_bound b2; omega
      · have h := (szField_bound b2).2.2
        intro xs hx
        have h := h xs hx
        omega
    · first | omega | rfl | (intro hg; simp only [nrmT] at hg; omega) | (intro g1 g2; simp [g1, g2]; done) | (intro g1; simp at g1 ⊢; simp [g1]; done) | (simp only [nrmT] at *; omega) | (simp at * <;> omega) | (simp_all <;> omega) | (simp_all; done)
    · intro b3
      first | omega | rfl | (intro hg; simp only [nrmT] at hg; omega) | (intro g1 g2; simp [g1, g2]; done) | (intro g1; simp at g1 ⊢; simp [g1]; done) | (simp only [nrmT] at *; omega) | (simp at * <;> omega) | (simp_all <;> omega) | (simp_all; done)
    · intro b4
      refine ⟨rfl, ?_, l_eqField_pc Open Dist Open Dist, ?_, ?_⟩
      · refine l_toField_pc Open Dist ?_ ?_ ?_
        · have := szField_bound b2; omega
        · have := szField_bound b2; omega
        · have h := (szField_bound b2).2.2
          intro xs hx
          have h := h xs hx
          omega
      · intro b5
        try simp only [Bool.not_eq_true', Bool.not_eq_false', Bool.not_not] at b5
        first | omega | rfl | (intro hg; simp only [nrmT] at hg; omega) | (intro g1 g2; simp [g1, g2]; done) | (intro g1; simp at g1 ⊢; simp [g1]; done) | (simp only [nrmT] at *; omega) | (simp at * <;> omega) | (simp_all <;> omega) | (simp_all; done)
      · intro b6
        try simp only [Bool.not_eq_true', Bool.not_eq_false', Bool.not_not] at b6
        exact rfl
theorem l_FnExactGapOf_pc (Open : List Int) (Dist : List (List Int)) (i : Int) (j : Int)  : PC Try.prog 9 [.agg [.sl (.ints Open), .sl (.rows Dist)], .int .i64 i, .int .i64 j] (.one (.d (.bool true))) :=
  pc_wf @Try.call9 fun hw => pc_by (by kernel_rfl) Try.func9 @Try.call9 (by kernel_rfl) l_FnExactGapOf_C (l_FnExactGapOf_A Open Dist i j) (by kernel_rfl) (l_FnExactGapOf_vc Open Dist i j hw.1.1 hw.1.2.1.1 hw.1.2.1.2) (by kernel_rfl)
def l_FnExactGapOf_orc : List D → Orc := orcN [none, none, none] fun ds => match ds with
  | [.agg [.sl (.ints Open), .sl (.rows Dist)], .int .i64 i, .int .i64 j] => some (.one (.d (.bool true)))
  | _ => none

end Go.Proofs.Ytmcbcomcejgbcaa
