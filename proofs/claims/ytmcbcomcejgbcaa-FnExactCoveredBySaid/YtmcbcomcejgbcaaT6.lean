/- Contracts. -/
import Derived.Test.YtmcbcomcejgbcaaPw
import Derived.Test.YtmcbcomcejgbcaaProg
import Derived.Test.YtmcbcomcejgbcaaT5
import Derived.KernelRfl
set_option linter.unusedVariables false
set_option linter.unusedSimpArgs false
namespace Go.Proofs.Ytmcbcomcejgbcaa
open Go

abbrev s_l7Numbers_JJ0 (list : List Int) (n : Int) (most : Int) (i : Int) : Prop := (0 ≤ i) ∧ (i ≤ (list.length : Int)) ∧ (allTo (fun k => inB (list.getD k 0) 0 most) i.toNat = true)
abbrev s_l7Numbers_mJ0 (list : List Int) (n : Int) (most : Int) (i : Int) : Nat := (list.length - i).toNat
def s_l7Numbers_C (f : FuncId) (ds : List D) : Orc := bif Nat.beq f 81 then s_l1In_orc ds else .no
def s_l7Numbers_A (list : List Int) (n : Int) (most : Int) : Ann := .two (.none) (.two (.two (.none) (.loop (cut1 (fun (i : Int) => s_l7Numbers_JJ0 list n most i) (fun (i : Int) => [(0, .d false (.sl (.ints list))), (1, .d false (.int .i64 n)), (2, .d false (.int .i64 most)), (7, .d true (.int .i64 i))]) (fun (i : Int) => [])) (fun g => s_l7Numbers_mJ0 list n most g) (fun _ => .none))) (.none))
def s_l7Numbers_P (list : List Int) (n : Int) (most : Int) : Prop :=
  ((∃ i' : Int, (s_l7Numbers_JJ0 list n most i') ∧ (list = list) ∧ (n = n) ∧ (most = most) ∧ ((0 : Int) = i')) ∧ (∀ i : Int, (s_l7Numbers_JJ0 list n most i) → (((decide (i < (list.length : Int))) = true → ((0 : Int) ≤ i) ∧ ((i : Int) < list.length) ∧ (i.toNat < list.length) ∧ (PC Try.prog 81 [.int .i64 (list.getD i.toNat 0), .int .i64 0, .int .i64 most] (.one (.d (.bool (inB (list.getD i.toNat 0) 0 most))))) ∧ (((!(inB (list.getD i.toNat 0) 0 most)) = true → ((false = (rowOk list n most)))) ∧ ((!(inB (list.getD i.toNat 0) 0 most)) = false → (-9223372036854775808 ≤ (i + 1) ∧ (i + 1) ≤ 9223372036854775807) ∧ (∃ i' : Int, (s_l7Numbers_JJ0 list n most i') ∧ (s_l7Numbers_mJ0 list n most i' < s_l7Numbers_mJ0 list n most i) ∧ (list = list) ∧ (n = n) ∧ (most = most) ∧ ((i + 1) = i'))))) ∧ ((decide (i < (list.length : Int))) = false → ((((list.length : Int) == n) = (rowOk list n most)))))))
theorem s_l7Numbers_vc (list : List Int) (n : Int) (most : Int)  (w_list : (list.length : Int) ≤ 9223372036854775807) : s_l7Numbers_P list n most := by
  unfold s_l7Numbers_P
  refine ⟨?_, ?_⟩
  · refine ⟨0, ?_⟩
    refine ⟨?_, rfl, rfl, rfl, rfl⟩
    · refine ⟨?_, ?_, ?_⟩
      · first | omega | rfl | (intro hg; simp only [nrmT] at hg; omega) | (intro g1 g2; simp [g1, g2]; done) | (intro g1; simp at g1 ⊢; simp [g1]; done) | (simp only [nrmT] at *; omega) | (simp at * <;> omega) | (simp_all <;> omega) | (simp_all; done)
      · first | omega | rfl | (intro hg; simp only [nrmT] at hg; omega) | (intro g1 g2; simp [g1, g2]; done) | (intro g1; simp at g1 ⊢; simp [g1]; done) | (simp only [nrmT] at *; omega) | (simp at * <;> omega) | (simp_all <;> omega) | (simp_all; done)
      · first | omega | rfl | (intro hg; simp only [nrmT] at hg; omega) | (intro g1 g2; simp [g1, g2]; done) | (intro g1; simp at g1 ⊢; simp [g1]; done) | (simp only [nrmT] at *; omega) | (simp at * <;> omega) | (simp_all <;> omega) | (simp_all; done)
  · intro i hJ
    obtain ⟨h1, h2, h3⟩ := hJ
    refine ⟨?_, ?_⟩
    · intro b1
      try simp only [nrmT] at b1
      refine ⟨?_, ?_, ?_, s_l1In_pc (list.getD i.toNat 0) 0 most, ?_, ?_⟩
      · first | omega | rfl | (intro hg; simp only [nrmT] at hg; omega) | (intro g1 g2; simp [g1, g2]; done) | (intro g1; simp at g1 ⊢; simp [g1]; done) | (simp only [nrmT] at *; omega) | (simp at * <;> omega) | (simp_all <;> omega) | (simp_all; done)
      · first | omega | rfl | (intro hg; simp only [nrmT] at hg; omega) | (intro g1 g2; simp [g1, g2]; done) | (intro g1; simp at g1 ⊢; simp [g1]; done) | (simp only [nrmT] at *; omega) | (simp at * <;> omega) | (simp_all <;> omega) | (simp_all; done)
      · first | omega | rfl | (intro hg; simp only [nrmT] at hg; omega) | (intro g1 g2; simp [g1, g2]; done) | (intro g1; simp at g1 ⊢; simp [g1]; done) | (simp only [nrmT] at *; omega) | (simp at * <;> omega) | (simp_all <;> omega) | (simp_all; done)
      · intro b2
        try simp only [nrmT] at b2
        unfold rowOk
        rw [all_no (p := fun x => inB x 0 most) (d := 0) h1 (by omega) b2]; rfl
      · intro b3
        try simp only [nrmT] at b3
        refine ⟨?_, ?_⟩
        · first | omega | rfl | (intro hg; simp only [nrmT] at hg; omega) | (intro g1 g2; simp [g1, g2]; done) | (intro g1; simp at g1 ⊢; simp [g1]; done) | (simp only [nrmT] at *; omega) | (simp at * <;> omega) | (simp_all <;> omega) | (simp_all; done)
        · refine ⟨(i + 1), ?_⟩
          refine ⟨?_, ?_, rfl, rfl, rfl, rfl⟩
          · refine ⟨?_, ?_, ?_⟩
            · first | omega | rfl | (intro hg; simp only [nrmT] at hg; omega) | (intro g1 g2; simp [g1, g2]; done) | (intro g1; simp at g1 ⊢; simp [g1]; done) | (simp only [nrmT] at *; omega) | (simp at * <;> omega) | (simp_all <;> omega) | (simp_all; done)
            · first | omega | rfl | (intro hg; simp only [nrmT] at hg; omega) | (intro g1 g2; simp [g1, g2]; done) | (intro g1; simp at g1 ⊢; simp [g1]; done) | (simp only [nrmT] at *; omega) | (simp at * <;> omega) | (simp_all <;> omega) | (simp_all; done)
            · exact allTo_step h1 h3 b3
          · first | (show _ < _; omega) | (simp only [s_l7Numbers_mJ0]; omega) | (simp only [s_l7Numbers_mJ0] at *; simp at *; omega)
    · intro b4
      try simp only [nrmT] at b4
      unfold rowOk
      rw [all_end (p := fun x => inB x 0 most) (d := 0) (by omega) h2 h3, Bool.true_and]; rfl
theorem s_l7Numbers_pc (list : List Int) (n : Int) (most : Int)  : PC Try.prog 154 [.sl (.ints list), .int .i64 n, .int .i64 most] (.one (.d (.bool (rowOk list n most)))) :=
  pc_wf @Try.call154 fun hw => pc_by (by kernel_rfl) Try.func154 @Try.call154 (by kernel_rfl) s_l7Numbers_C (s_l7Numbers_A list n most) (by kernel_rfl) (s_l7Numbers_vc list n most hw.1) (by kernel_rfl)
def s_l7Numbers_orc : List D → Orc := orcN [some .ints, none, none] fun ds => match ds with
  | [.sl (.ints list), .int .i64 n, .int .i64 most] => some (.one (.d (.bool (rowOk list n most))))
  | _ => none

theorem rowOk_cond (row : List Int) (n : Nat) (most : Int) : rowOk row (n : Int) most = (((row.length : Int) == (n : Int)) && row.all (fun x => inB x 0 most)) := by
  unfold rowOk
  rw [Bool.and_comm]
  congr 1

def s_l7Needs_C (f : FuncId) (ds : List D) : Orc := bif Nat.beq f 154 then s_l7Numbers_orc ds else .no
def s_l7Needs_A (Open : List Int) (Dist : List (List Int)) (rooms : List Int) (needs : List Int) : Ann := .none
def s_l7Needs_P (Open : List Int) (Dist : List (List Int)) (rooms : List Int) (needs : List Int) : Prop :=
  (PC Try.prog 154 [.sl (.ints rooms), .int .i64 (Open.length : Int), .int .i64 20] (.one (.d (.bool (rowOk rooms (Open.length : Int) 20))))) ∧ ((rowOk rooms (Open.length : Int) 20) = true → (rowOk rooms (Open.length : Int) 20) = true) ∧ ((rowOk rooms (Open.length : Int) 20) = true → (rowOk rooms (Open.length : Int) 20) = true) ∧ ((rowOk rooms (Open.length : Int) 20) = true → (rowOk rooms (Open.length : Int) 20) = true) ∧ ((rowOk rooms (Open.length : Int) 20) = true → (rowOk rooms (Open.length : Int) 20) = true) ∧ ((rowOk rooms (Open.length : Int) 20) = true → PC Try.prog 154 [.sl (.ints needs), .int .i64 (Dist.length : Int), .int .i64 5] (.one (.d (.bool (rowOk needs (Dist.length : Int) 5))))) ∧ (true = true) ∧ (((rowOk rooms (Open.length : Int) 20) = true → (rowOk rooms (Open.length : Int) 20) = true)) ∧ (((rowOk rooms (Open.length : Int) 20) = false → true = true)) ∧ (((cond (rowOk rooms (Open.length : Int) 20) (rowOk needs (Dist.length : Int) 5) false) = (rowOk rooms (Open.length : Int) 20 && rowOk needs (Dist.length : Int) 5)))
theorem s_l7Needs_vc (Open : List Int) (Dist : List (List Int)) (rooms : List Int) (needs : List Int)  (w_Open : (Open.length : Int) ≤ 9223372036854775807) (w_Dist : (Dist.length : Int) ≤ 9223372036854775807) (v_Dist : ∀ x9 ∈ Dist, (x9.length : Int) ≤ 9223372036854775807) (w_rooms : (rooms.length : Int) ≤ 9223372036854775807) (w_needs : (needs.length : Int) ≤ 9223372036854775807) : s_l7Needs_P Open Dist rooms needs := by
  unfold s_l7Needs_P
  refine ⟨s_l7Numbers_pc rooms (Open.length : Int) 20, id, id, id, id, fun _ => s_l7Numbers_pc needs (Dist.length : Int) 5, rfl, id, fun _ => rfl, ?_⟩
  · cases rowOk rooms (Open.length : Int) 20 <;> rfl
theorem s_l7Needs_pc (Open : List Int) (Dist : List (List Int)) (rooms : List Int) (needs : List Int)  : PC Try.prog 100 [.agg [.sl (.ints Open), .sl (.rows Dist)], .sl (.ints rooms), .sl (.ints needs)] (.one (.d (.bool (rowOk rooms (Open.length : Int) 20 && rowOk needs (Dist.length : Int) 5)))) :=
  pc_wf @Try.call100 fun hw => pc_by (by kernel_rfl) Try.func100 @Try.call100 (by kernel_rfl) s_l7Needs_C (s_l7Needs_A Open Dist rooms needs) (by kernel_rfl) (s_l7Needs_vc Open Dist rooms needs hw.1.1 hw.1.2.1.1 hw.1.2.1.2 hw.2.1 hw.2.2.1) (by kernel_rfl)
def s_l7Needs_orc : List D → Orc := orcN [none, some .ints, some .ints] fun ds => match ds with
  | [.agg [.sl (.ints Open), .sl (.rows Dist)], .sl (.ints rooms), .sl (.ints needs)] => some (.one (.d (.bool (rowOk rooms (Open.length : Int) 20 && rowOk needs (Dist.length : Int) 5))))
  | _ => none

def i_Field_areNeeds_C (f : FuncId) (ds : List D) : Orc := bif Nat.beq f 87 then i_areBetween_orc ds else .no
def i_Field_areNeeds_A (Open : List Int) (Dist : List (List Int)) (rooms : List Int) (needs : List Int) : Ann := .none
def i_Field_areNeeds_P (Open : List Int) (Dist : List (List Int)) (rooms : List Int) (needs : List Int) : Prop :=
  (((rooms.length : Int) == (Open.length : Int)) = true → ((rooms.length : Int) == (Open.length : Int)) = true) ∧ (((rooms.length : Int) == (Open.length : Int)) = true → PC Try.prog 87 [.sl (.ints rooms), .int .i64 0, .int .i64 20] (.one (.d (.bool (rooms.all (fun x => inB x 0 20)))))) ∧ (true = true) ∧ ((((rooms.length : Int) == (Open.length : Int)) = true → ((rooms.length : Int) == (Open.length : Int)) = true)) ∧ ((((rooms.length : Int) == (Open.length : Int)) = false → true = true)) ∧ ((cond ((rooms.length : Int) == (Open.length : Int)) (rooms.all (fun x => inB x 0 20)) false) = true → (cond ((rooms.length : Int) == (Open.length : Int)) (rooms.all (fun x => inB x 0 20)) false) = true) ∧ ((cond ((rooms.length : Int) == (Open.length : Int)) (rooms.all (fun x => inB x 0 20)) false) = true → (cond ((rooms.length : Int) == (Open.length : Int)) (rooms.all (fun x => inB x 0 20)) false) = true) ∧ ((cond ((rooms.length : Int) == (Open.length : Int)) (rooms.all (fun x => inB x 0 20)) false) = true → (cond ((rooms.length : Int) == (Open.length : Int)) (rooms.all (fun x => inB x 0 20)) false) = true) ∧ ((cond ((rooms.length : Int) == (Open.length : Int)) (rooms.all (fun x => inB x 0 20)) false) = true → (cond ((rooms.length : Int) == (Open.length : Int)) (rooms.all (fun x => inB x 0 20)) false) = true) ∧ ((cond ((rooms.length : Int) == (Open.length : Int)) (rooms.all (fun x => inB x 0 20)) false) = true → (cond ((rooms.length : Int) == (Open.length : Int)) (rooms.all (fun x => inB x 0 20)) false) = true) ∧ (true = true) ∧ (((cond ((rooms.length : Int) == (Open.length : Int)) (rooms.all (fun x => inB x 0 20)) false) = true → (cond ((rooms.length : Int) == (Open.length : Int)) (rooms.all (fun x => inB x 0 20)) false) = true)) ∧ (((cond ((rooms.length : Int) == (Open.length : Int)) (rooms.all (fun x => inB x 0 20)) false) = false → true = true)) ∧ ((cond (cond ((rooms.length : Int) == (Open.length : Int)) (rooms.all (fun x => inB x 0 20)) false) ((needs.length : Int) == (Dist.length : Int)) false) = true → (cond (cond ((rooms.length : Int) == (Open.length : Int)) (rooms.all (fun x => inB x 0 20)) false) ((needs.length : Int) == (Dist.length : Int)) false) = true) ∧ ((cond (cond ((rooms.length : Int) == (Open.length : Int)) (rooms.all (fun x => inB x 0 20)) false) ((needs.length : Int) == (Dist.length : Int)) false) = true → PC Try.prog 87 [.sl (.ints needs), .int .i64 0, .int .i64 5] (.one (.d (.bool (needs.all (fun x => inB x 0 5)))))) ∧ (true = true) ∧ (((cond (cond ((rooms.length : Int) == (Open.length : Int)) (rooms.all (fun x => inB x 0 20)) false) ((needs.length : Int) == (Dist.length : Int)) false) = true → (cond (cond ((rooms.length : Int) == (Open.length : Int)) (rooms.all (fun x => inB x 0 20)) false) ((needs.length : Int) == (Dist.length : Int)) false) = true)) ∧ (((cond (cond ((rooms.length : Int) == (Open.length : Int)) (rooms.all (fun x => inB x 0 20)) false) ((needs.length : Int) == (Dist.length : Int)) false) = false → true = true)) ∧ (((cond (cond (cond ((rooms.length : Int) == (Open.length : Int)) (rooms.all (fun x => inB x 0 20)) false) ((needs.length : Int) == (Dist.length : Int)) false) (needs.all (fun x => inB x 0 5)) false) = (rowOk rooms (Open.length : Int) 20 && rowOk needs (Dist.length : Int) 5)))
theorem i_Field_areNeeds_vc (Open : List Int) (Dist : List (List Int)) (rooms : List Int) (needs : List Int)  (w_Open : (Open.length : Int) ≤ 9223372036854775807) (w_Dist : (Dist.length : Int) ≤ 9223372036854775807) (v_Dist : ∀ x9 ∈ Dist, (x9.length : Int) ≤ 9223372036854775807) (w_rooms : (rooms.length : Int) ≤ 9223372036854775807) (w_needs : (needs.length : Int) ≤ 9223372036854775807) : i_Field_areNeeds_P Open Dist rooms needs := by
  unfold i_Field_areNeeds_P
  refine ⟨id, fun _ => i_areBetween_pc rooms 0 20, rfl, id, fun _ => rfl, id, id, id, id, id, rfl, id, fun _ => rfl, id, fun _ => i_areBetween_pc needs 0 5, rfl, id, fun _ => rfl, ?_⟩
  · rw [rowOk_cond, rowOk_cond]
    cases ((rooms.length : Int) == (Open.length : Int)) <;> cases rooms.all (fun x => inB x 0 20) <;> cases ((needs.length : Int) == (Dist.length : Int)) <;> cases needs.all (fun x => inB x 0 5) <;> rfl
theorem i_Field_areNeeds_pc (Open : List Int) (Dist : List (List Int)) (rooms : List Int) (needs : List Int)  : PC Try.prog 102 [.agg [.sl (.ints Open), .sl (.rows Dist)], .sl (.ints rooms), .sl (.ints needs)] (.one (.d (.bool (rowOk rooms (Open.length : Int) 20 && rowOk needs (Dist.length : Int) 5)))) :=
  pc_wf @Try.call102 fun hw => pc_by (by kernel_rfl) Try.func102 @Try.call102 (by kernel_rfl) i_Field_areNeeds_C (i_Field_areNeeds_A Open Dist rooms needs) (by kernel_rfl) (i_Field_areNeeds_vc Open Dist rooms needs hw.1.1 hw.1.2.1.1 hw.1.2.1.2 hw.2.1 hw.2.2.1) (by kernel_rfl)
def i_Field_areNeeds_orc : List D → Orc := orcN [none, some .ints, some .ints] fun ds => match ds with
  | [.agg [.sl (.ints Open), .sl (.rows Dist)], .sl (.ints rooms), .sl (.ints needs)] => some (.one (.d (.bool (rowOk rooms (Open.length : Int) 20 && rowOk needs (Dist.length : Int) 5))))
  | _ => none

def s_AreNeeds_C (f : FuncId) (ds : List D) : Orc := bif Nat.beq f 99 then s_l2Good_orc ds else bif Nat.beq f 100 then s_l7Needs_orc ds else .no
def s_AreNeeds_A (Open : List Int) (Dist : List (List Int)) (rooms : List Int) (needs : List Int) : Ann := .none
def s_AreNeeds_P (Open : List Int) (Dist : List (List Int)) (rooms : List Int) (needs : List Int) : Prop :=
  (PC Try.prog 99 [.agg [.sl (.ints Open), .sl (.rows Dist)]] (.one (.d (.bool (goodField Open Dist))))) ∧ (((!(goodField Open Dist)) = true → ((false = (goodField Open Dist && (rowOk rooms (Open.length : Int) 20 && rowOk needs (Dist.length : Int) 5))) ∧ (false = (goodField Open Dist)))) ∧ ((!(goodField Open Dist)) = false → (PC Try.prog 100 [.agg [.sl (.ints Open), .sl (.rows Dist)], .sl (.ints rooms), .sl (.ints needs)] (.one (.d (.bool (rowOk rooms (Open.length : Int) 20 && rowOk needs (Dist.length : Int) 5))))) ∧ (((rowOk rooms (Open.length : Int) 20 && rowOk needs (Dist.length : Int) 5) = (goodField Open Dist && (rowOk rooms (Open.length : Int) 20 && rowOk needs (Dist.length : Int) 5))) ∧ (true = (goodField Open Dist)))))
theorem s_AreNeeds_vc (Open : List Int) (Dist : List (List Int)) (rooms : List Int) (needs : List Int)  (w_Open : (Open.length : Int) ≤ 9223372036854775807) (w_Dist : (Dist.length : Int) ≤ 9223372036854775807) (v_Dist : ∀ x9 ∈ Dist, (x9.length : Int) ≤ 9223372036854775807) (w_rooms : (rooms.length : Int) ≤ 9223372036854775807) (w_needs : (needs.length : Int) ≤ 9223372036854775807) : s_AreNeeds_P Open Dist rooms needs := by
  unfold s_AreNeeds_P
  refine ⟨s_l2Good_pc Open Dist, ?_, ?_⟩
  · intro b1
    try simp only [nrmT] at b1
    refine ⟨?_, ?_⟩
    · rw [b1]; rfl
    · rw [b1]
  · intro b2
    try simp only [nrmT] at b2
    refine ⟨s_l7Needs_pc Open Dist rooms needs, ?_, ?_⟩
    · rw [b2]; rfl
    · rw [b2]
theorem s_AreNeeds_pc (Open : List Int) (Dist : List (List Int)) (rooms : List Int) (needs : List Int)  : PC Try.prog 38 [.agg [.sl (.ints Open), .sl (.rows Dist)], .sl (.ints rooms), .sl (.ints needs)] (.tup [.d (.bool (goodField Open Dist && (rowOk rooms (Open.length : Int) 20 && rowOk needs (Dist.length : Int) 5))), .d (.bool (goodField Open Dist))]) :=
  pc_wf @Try.call38 fun hw => pc_by (by kernel_rfl) Try.func38 @Try.call38 (by kernel_rfl) s_AreNeeds_C (s_AreNeeds_A Open Dist rooms needs) (by kernel_rfl) (s_AreNeeds_vc Open Dist rooms needs hw.1.1 hw.1.2.1.1 hw.1.2.1.2 hw.2.1 hw.2.2.1) (by kernel_rfl)
def s_AreNeeds_orc : List D → Orc := orcN [none, some .ints, some .ints] fun ds => match ds with
  | [.agg [.sl (.ints Open), .sl (.rows Dist)], .sl (.ints rooms), .sl (.ints needs)] => some (.tup [.d (.bool (goodField Open Dist && (rowOk rooms (Open.length : Int) 20 && rowOk needs (Dist.length : Int) 5))), .d (.bool (goodField Open Dist))])
  | _ => none

def i_AreNeeds_C (f : FuncId) (ds : List D) : Orc := bif Nat.beq f 101 then i_IsField_orc ds else bif Nat.beq f 102 then i_Field_areNeeds_orc ds else .no
def i_AreNeeds_A (Open : List Int) (Dist : List (List Int)) (rooms : List Int) (needs : List Int) : Ann := .none
def i_AreNeeds_P (Open : List Int) (Dist : List (List Int)) (rooms : List Int) (needs : List Int) : Prop :=
  (PC Try.prog 101 [.agg [.sl (.ints Open), .sl (.rows Dist)]] (.one (.d (.bool (goodField Open Dist))))) ∧ (((!(goodField Open Dist)) = true → ((false = (goodField Open Dist && (rowOk rooms (Open.length : Int) 20 && rowOk needs (Dist.length : Int) 5))) ∧ (false = (goodField Open Dist)))) ∧ ((!(goodField Open Dist)) = false → (PC Try.prog 102 [.agg [.sl (.ints Open), .sl (.rows Dist)], .sl (.ints rooms), .sl (.ints needs)] (.one (.d (.bool (rowOk rooms (Open.length : Int) 20 && rowOk needs (Dist.length : Int) 5))))) ∧ (((rowOk rooms (Open.length : Int) 20 && rowOk needs (Dist.length : Int) 5) = (goodField Open Dist && (rowOk rooms (Open.length : Int) 20 && rowOk needs (Dist.length : Int) 5))) ∧ (true = (goodField Open Dist)))))
theorem i_AreNeeds_vc (Open : List Int) (Dist : List (List Int)) (rooms : List Int) (needs : List Int)  (w_Open : (Open.length : Int) ≤ 9223372036854775807) (w_Dist : (Dist.length : Int) ≤ 9223372036854775807) (v_Dist : ∀ x9 ∈ Dist, (x9.length : Int) ≤ 9223372036854775807) (w_rooms : (rooms.length : Int) ≤ 9223372036854775807) (w_needs : (needs.length : Int) ≤ 9223372036854775807) : i_AreNeeds_P Open Dist rooms needs := by
  unfold i_AreNeeds_P
  refine ⟨i_IsField_pc Open Dist, ?_, ?_⟩
  · intro b1
    try simp only [nrmT] at b1
    refine ⟨?_, ?_⟩
    · rw [b1]; rfl
    · rw [b1]
  · intro b2
    try simp only [nrmT] at b2
    refine ⟨i_Field_areNeeds_pc Open Dist rooms needs, ?_, ?_⟩
    · rw [b2]; rfl
    · rw [b2]
theorem i_AreNeeds_pc (Open : List Int) (Dist : List (List Int)) (rooms : List Int) (needs : List Int)  : PC Try.prog 41 [.agg [.sl (.ints Open), .sl (.rows Dist)], .sl (.ints rooms), .sl (.ints needs)] (.tup [.d (.bool (goodField Open Dist && (rowOk rooms (Open.length : Int) 20 && rowOk needs (Dist.length : Int) 5))), .d (.bool (goodField Open Dist))]) :=
  pc_wf @Try.call41 fun hw => pc_by (by kernel_rfl) Try.func41 @Try.call41 (by kernel_rfl) i_AreNeeds_C (i_AreNeeds_A Open Dist rooms needs) (by kernel_rfl) (i_AreNeeds_vc Open Dist rooms needs hw.1.1 hw.1.2.1.1 hw.1.2.1.2 hw.2.1 hw.2.2.1) (by kernel_rfl)
def i_AreNeeds_orc : List D → Orc := orcN [none, some .ints, some .ints] fun ds => match ds with
  | [.agg [.sl (.ints Open), .sl (.rows Dist)], .sl (.ints rooms), .sl (.ints needs)] => some (.tup [.d (.bool (goodField Open Dist && (rowOk rooms (Open.length : Int) 20 && rowOk needs (Dist.length : Int) 5))), .d (.bool (goodField Open Dist))])
  | _ => none

def l_FnExactAreNeeds_C (f : FuncId) (ds : List D) : Orc := bif Nat.beq f 37 then l_szField_orc ds else bif Nat.beq f 39 then l_toField_orc ds else bif Nat.beq f 40 then l_toIntS_orc ds else bif Nat.beq f 38 then s_AreNeeds_orc ds else bif Nat.beq f 41 then i_AreNeeds_orc ds else bif Nat.beq f 42 then l_eqField_orc ds else bif Nat.beq f 43 then l_eqIntS_orc ds else .no
def l_FnExactAreNeeds_A (Open : List Int) (Dist : List (List Int)) (rooms : List Int) (needs : List Int) : Ann := .none
def l_FnExactAreNeeds_P (Open : List Int) (Dist : List (List Int)) (rooms : List Int) (needs : List Int) : Prop :=
  (((decide ((rooms.length : Int) > 1048576)) = true → ((true = true))) ∧ ((decide ((rooms.length : Int) > 1048576)) = false → (((decide ((needs.length : Int) > 1048576)) = true → ((true = true))) ∧ ((decide ((needs.length : Int) > 1048576)) = false → (PC Try.prog 37 [.agg [.sl (.ints Open), .sl (.rows Dist)], .int .i64 1048576] (.one (.d (.int .i64 (szField Open Dist 1048576))))) ∧ (((decide ((szField Open Dist 1048576) < 0)) = true → ((true = true))) ∧ ((decide ((szField Open Dist 1048576) < 0)) = false → (PC Try.prog 39 [.agg [.sl (.ints Open), .sl (.rows Dist)]] (.one (.d (.agg [.sl (.ints Open), .sl (.rows Dist)])))) ∧ (PC Try.prog 40 [.sl (.ints rooms)] (.one (.d (.sl (.ints rooms))))) ∧ (PC Try.prog 40 [.sl (.ints needs)] (.one (.d (.sl (.ints needs))))) ∧ (PC Try.prog 38 [.agg [.sl (.ints Open), .sl (.rows Dist)], .sl (.ints rooms), .sl (.ints needs)] (.tup [.d (.bool (goodField Open Dist && (rowOk rooms (Open.length : Int) 20 && rowOk needs (Dist.length : Int) 5))), .d (.bool (goodField Open Dist))])) ∧ (PC Try.prog 39 [.agg [.sl (.ints Open), .sl (.rows Dist)]] (.one (.d (.agg [.sl (.ints Open), .sl (.rows Dist)])))) ∧ (PC Try.prog 40 [.sl (.ints rooms)] (.one (.d (.sl (.ints rooms))))) ∧ (PC Try.prog 40 [.sl (.ints needs)] (.one (.d (.sl (.ints needs))))) ∧ (PC Try.prog 41 [.agg [.sl (.ints Open), .sl (.rows Dist)], .sl (.ints rooms), .sl (.ints needs)] (.tup [.d (.bool (goodField Open Dist && (rowOk rooms (Open.length : Int) 20 && rowOk needs (Dist.length : Int) 5))), .d (.bool (goodField Open Dist))])) ∧ ((!((goodField Open Dist && (rowOk rooms (Open.length : Int) 20 && rowOk needs (Dist.length : Int) 5)) != (goodField Open Dist && (rowOk rooms (Open.length : Int) 20 && rowOk needs (Dist.length : Int) 5)))) = true → (!((goodField Open Dist && (rowOk rooms (Open.length : Int) 20 && rowOk needs (Dist.length : Int) 5)) != (goodField Open Dist && (rowOk rooms (Open.length : Int) 20 && rowOk needs (Dist.length : Int) 5)))) = true) ∧ ((!((goodField Open Dist && (rowOk rooms (Open.length : Int) 20 && rowOk needs (Dist.length : Int) 5)) != (goodField Open Dist && (rowOk rooms (Open.length : Int) 20 && rowOk needs (Dist.length : Int) 5)))) = true → (!((goodField Open Dist && (rowOk rooms (Open.length : Int) 20 && rowOk needs (Dist.length : Int) 5)) != (goodField Open Dist && (rowOk rooms (Open.length : Int) 20 && rowOk needs (Dist.length : Int) 5)))) = true) ∧ (true = true) ∧ ((((goodField Open Dist && (rowOk rooms (Open.length : Int) 20 && rowOk needs (Dist.length : Int) 5)) != (goodField Open Dist && (rowOk rooms (Open.length : Int) 20 && rowOk needs (Dist.length : Int) 5))) = true → true = true)) ∧ ((((goodField Open Dist && (rowOk rooms (Open.length : Int) 20 && rowOk needs (Dist.length : Int) 5)) != (goodField Open Dist && (rowOk rooms (Open.length : Int) 20 && rowOk needs (Dist.length : Int) 5))) = false → (!((goodField Open Dist && (rowOk rooms (Open.length : Int) 20 && rowOk needs (Dist.length : Int) 5)) != (goodField Open Dist && (rowOk rooms (Open.length : Int) 20 && rowOk needs (Dist.length : Int) 5)))) = true)) ∧ (((cond ((goodField Open Dist && (rowOk rooms (Open.length : Int) 20 && rowOk needs (Dist.length : Int) 5)) != (goodField Open Dist && (rowOk rooms (Open.length : Int) 20 && rowOk needs (Dist.length : Int) 5))) true ((goodField Open Dist) != (goodField Open Dist))) = true → ((false = true))) ∧ ((cond ((goodField Open Dist && (rowOk rooms (Open.length : Int) 20 && rowOk needs (Dist.length : Int) 5)) != (goodField Open Dist && (rowOk rooms (Open.length : Int) 20 && rowOk needs (Dist.length : Int) 5))) true ((goodField Open Dist) != (goodField Open Dist))) = false → (true = true) ∧ (PC Try.prog 39 [.agg [.sl (.ints Open), .sl (.rows Dist)]] (.one (.d (.agg [.sl (.ints Open), .sl (.rows Dist)])))) ∧ (PC Try.prog 42 [.agg [.sl (.ints Open), .sl (.rows Dist)], .agg [.sl (.ints Open), .sl (.rows Dist)]] (.one (.d (.bool ((Open == Open) && (Dist == Dist)))))) ∧ (((!((Open == Open) && (Dist == Dist))) = true → ((false = true))) ∧ ((!((Open == Open) && (Dist == Dist))) = false → (PC Try.prog 40 [.sl (.ints rooms)] (.one (.d (.sl (.ints rooms))))) ∧ (PC Try.prog 43 [.sl (.ints rooms), .sl (.ints rooms)] (.one (.d (.bool (rooms == rooms))))) ∧ (((!(rooms == rooms)) = true → ((false = true))) ∧ ((!(rooms == rooms)) = false → (PC Try.prog 40 [.sl (.ints needs)] (.one (.d (.sl (.ints needs))))) ∧ (PC Try.prog 43 [.sl (.ints needs), .sl (.ints needs)] (.one (.d (.bool (needs == needs))))) ∧ (((!(needs == needs)) = true → ((false = true))) ∧ ((!(needs == needs)) = false → ((true = true))))))))))))))))
theorem l_FnExactAreNeeds_vc (Open : List Int) (Dist : List (List Int)) (rooms : List Int) (needs : List Int)  (w_Open : (Open.length : Int) ≤ 9223372036854775807) (w_Dist : (Dist.length : Int) ≤ 9223372036854775807) (v_Dist : ∀ x9 ∈ Dist, (x9.length : Int) ≤ 9223372036854775807) (w_rooms : (rooms.length : Int) ≤ 9223372036854775807) (w_needs : (needs.length : Int) ≤ 9223372036854775807) : l_FnExactAreNeeds_P Open Dist rooms needs := by
  unfold l_FnExactAreNeeds_P
  refine ⟨?_, ?_⟩
  · intro b1
    try simp only [nrmT] at b1
    exact rfl
  · intro b2
    try simp only [nrmT] at b2
    refine ⟨?_, ?_⟩
    · intro b3
      try simp only [nrmT] at b3
      exact rfl
    · intro b4
      try simp only [nrmT] at b4
      refine ⟨?_, ?_, ?_⟩
      · refine l_szField_pc Open Dist 1048576 ?_
        · first | omega | rfl | (intro hg; simp only [nrmT] at hg; omega) | (intro g1 g2; simp [g1, g2]; done) | (intro g1; simp at g1 ⊢; simp [g1]; done) | (simp only [nrmT] at *; omega) | (simp at * <;> omega) | (simp_all <;> omega) | (simp_all; done)
      · intro b5
        try simp only [nrmT] at b5
        exact rfl
      · intro b6
        try simp only [nrmT] at b6
        refine ⟨?_, ?_, ?_, s_AreNeeds_pc Open Dist rooms needs, ?_, ?_, ?_, i_AreNeeds_pc Open Dist rooms needs, id, id, rfl, fun _ => rfl, ?_, ?_, ?_⟩
        · refine l_toField_pc Open Dist ?_ ?_ ?_
          · have := szField_bound b6; omega
          · have := szField_bound b6; omega
          · have h := (szField_bound b6).2.2
            intro xs hx
            have h := h xs hx
            omega
        · refine l_toIntS_pc rooms ?_
          · first | omega | rfl | (intro hg; simp only [nrmT] at hg; omega) | (intro g1 g2; simp [g1, g2]; done) | (intro g1; simp at g1 ⊢; simp [g1]; done) | (simp only [nrmT] at *; omega) | (simp at * <;> omega) | (simp_all <;> omega) | (simp_all; done)
        · refine l_toIntS_pc needs ?_
          · first | omega | rfl | (intro hg; simp only [nrmT] at hg; omega) | (intro g1 g2; simp [g1, g2]; done) | (intro g1; simp at g1 ⊢; simp [g1]; done) | (simp only [nrmT] at *; omega) | (simp at * <;> omega) | (simp_all <;> omega) | (simp_all; done)
        · refine l_toField_pc Open Dist ?_ ?_ ?_
          · have := szField_bound b6; omega
          · have := szField_bound b6; omega
          · have h := (szField_bound b6).2.2
            intro xs hx
            have h := h xs hx
            omega
        · refine l_toIntS_pc rooms ?_
          · first | omega | rfl | (intro hg; simp only [nrmT] at hg; omega) | (intro g1 g2; simp [g1, g2]; done) | (intro g1; simp at g1 ⊢; simp [g1]; done) | (simp only [nrmT] at *; omega) | (simp at * <;> omega) | (simp_all <;> omega) | (simp_all; done)
        · refine l_toIntS_pc needs ?_
          · first | omega | rfl | (intro hg; simp only [nrmT] at hg; omega) | (intro g1 g2; simp [g1, g2]; done) | (intro g1; simp at g1 ⊢; simp [g1]; done) | (simp only [nrmT] at *; omega) | (simp at * <;> omega) | (simp_all <;> omega) | (simp_all; done)
        · first | omega | rfl | (intro hg; simp only [nrmT] at hg; omega) | (intro g1 g2; simp [g1, g2]; done) | (intro g1; simp at g1 ⊢; simp [g1]; done) | (simp only [nrmT] at *; omega) | (simp at * <;> omega) | (simp_all <;> omega) | (simp_all; done)
        · intro b7
          first | omega | rfl | (intro hg; simp only [nrmT] at hg; omega) | (intro g1 g2; simp [g1, g2]; done) | (intro g1; simp at g1 ⊢; simp [g1]; done) | (simp only [nrmT] at *; omega) | (simp at * <;> omega) | (simp_all <;> omega) | (simp_all; done)
        · intro b8
          refine ⟨rfl, ?_, l_eqField_pc Open Dist Open Dist, ?_, ?_⟩
          · refine l_toField_pc Open Dist ?_ ?_ ?_
            · have := szField_bound b6; omega
            · have := szField_bound b6; omega
            · have h := (szField_bound b6).2.2
              intro xs hx
              have h := h xs hx
              omega
          · intro b9
            try simp only [Bool.not_eq_true', Bool.not_eq_false', Bool.not_not] at b9
            first | omega | rfl | (intro hg; simp only [nrmT] at hg; omega) | (intro g1 g2; simp [g1, g2]; done) | (intro g1; simp at g1 ⊢; simp [g1]; done) | (simp only [nrmT] at *; omega) | (simp at * <;> omega) | (simp_all <;> omega) | (simp_all; done)
          · intro b10
            try simp only [Bool.not_eq_true', Bool.not_eq_false', Bool.not_not] at b10
            refine ⟨?_, l_eqIntS_pc rooms rooms, ?_, ?_⟩
            · refine l_toIntS_pc rooms ?_
              · first | omega | rfl | (intro hg; simp only [nrmT] at hg; omega) | (intro g1 g2; simp [g1, g2]; done) | (intro g1; simp at g1 ⊢; simp [g1]; done) | (simp only [nrmT] at *; omega) | (simp at * <;> omega) | (simp_all <;> omega) | (simp_all; done)
            · intro b11
              try simp only [nrmT] at b11
              first | omega | rfl | (intro hg; simp only [nrmT] at hg; omega) | (intro g1 g2; simp [g1, g2]; done) | (intro g1; simp at g1 ⊢; simp [g1]; done) | (simp only [nrmT] at *; omega) | (simp at * <;> omega) | (simp_all <;> omega) | (simp_all; done)
            · intro b12
              try simp only [nrmT] at b12
              refine ⟨?_, l_eqIntS_pc needs needs, ?_, ?_⟩
              · refine l_toIntS_pc needs ?_
                · first | omega | rfl | (intro hg; simp only [nrmT] at hg; omega) | (intro g1 g2; simp [g1, g2]; done) | (intro g1; simp at g1 ⊢; simp [g1]; done) | (simp only [nrmT] at *; omega) | (simp at * <;> omega) | (simp_all <;> omega) | (simp_all; done)
              · intro b13
                try simp only [nrmT] at b13
                first | omega | rfl | (intro hg; simp only [nrmT] at hg; omega) | (intro g1 g2; simp [g1, g2]; done) | (intro g1; simp at g1 ⊢; simp [g1]; done) | (simp only [nrmT] at *; omega) | (simp at * <;> omega) | (simp_all <;> omega) | (simp_all; done)
              · intro b14
                try simp only [nrmT] at b14
                exact rfl
theorem l_FnExactAreNeeds_pc (Open : List Int) (Dist : List (List Int)) (rooms : List Int) (needs : List Int)  : PC Try.prog 6 [.agg [.sl (.ints Open), .sl (.rows Dist)], .sl (.ints rooms), .sl (.ints needs)] (.one (.d (.bool true))) :=
  pc_wf @Try.call6 fun hw => pc_by (by kernel_rfl) Try.func6 @Try.call6 (by kernel_rfl) l_FnExactAreNeeds_C (l_FnExactAreNeeds_A Open Dist rooms needs) (by kernel_rfl) (l_FnExactAreNeeds_vc Open Dist rooms needs hw.1.1 hw.1.2.1.1 hw.1.2.1.2 hw.2.1 hw.2.2.1) (by kernel_rfl)
def l_FnExactAreNeeds_orc : List D → Orc := orcN [none, some .ints, some .ints] fun ds => match ds with
  | [.agg [.sl (.ints Open), .sl (.rows Dist)], .sl (.ints rooms), .sl (.ints needs)] => some (.one (.d (.bool true)))
  | _ => none

def closeAt (Dist : List (List Int)) (r : Int) (i j a : Nat) : Bool := decide ((Dist.getD i []).getD a 0 ≤ r) && decide ((Dist.getD j []).getD a 0 ≤ r)
def apart (n : Nat) (Dist : List (List Int)) (i j r : Int) : Bool := allTo (fun a => !(closeAt Dist r i.toNat j.toNat a)) n
def farS (n : Nat) (Dist : List (List Int)) (clients : List Int) (r : Int) : Bool := allTo (fun i => allTo (fun k => apart n Dist (clients.getD i 0) (clients.getD k 0) r) i) clients.length
def nearAt (Dist : List (List Int)) (clients : List Int) (r : Int) (a k : Nat) : Int := if (Dist.getD (clients.getD k 0).toNat []).getD a 0 ≤ r then 1 else 0
def nears (Dist : List (List Int)) (clients : List Int) (r : Int) (a k : Nat) : Int := sumTo (nearAt Dist clients r a) k
def farI (n : Nat) (Dist : List (List Int)) (clients : List Int) (r : Int) : Bool := allTo (fun a => decide (nears Dist clients r a clients.length ≤ 1)) n
theorem nears_bound {Dist : List (List Int)} {clients : List Int} {r : Int} {a k : Nat} : 0 ≤ nears Dist clients r a k ∧ nears Dist clients r a k ≤ 1 * k :=
  sumTo_bound k fun j _ => by unfold nearAt; split <;> omega
theorem nears_succ {Dist : List (List Int)} {clients : List Int} {r : Int} {a k : Nat} : nears Dist clients r a (k + 1) = nears Dist clients r a k + nearAt Dist clients r a k := rfl
theorem nears_mono {Dist : List (List Int)} {clients : List Int} {r : Int} {a : Nat} : ∀ n k, k ≤ n → nears Dist clients r a k ≤ nears Dist clients r a n
  | 0, k, h => by have : k = 0 := by omega
                  rw [this]; exact Int.le_refl _
  | n + 1, k, h => by
    by_cases e : k = n + 1
    · rw [e]; exact Int.le_refl _
    · have h2 := nears_mono (Dist := Dist) (clients := clients) (r := r) (a := a) n k (by omega)
      rw [nears_succ]
      unfold nearAt
      split <;> omega
/-- A first near one, if there are any. -/
theorem nears_pos {Dist : List (List Int)} {clients : List Int} {r : Int} {a : Nat} : ∀ n, 0 < nears Dist clients r a n → ∃ k, k < n ∧ nearAt Dist clients r a k = 1
  | 0, h => by simp [nears, sumTo, foldTo] at h
  | n + 1, h => by
    by_cases e : nearAt Dist clients r a n = 1
    · exact ⟨n, Nat.lt_succ_self n, e⟩
    · rw [nears_succ] at h
      have e2 : nearAt Dist clients r a n = 0 := by
        unfold nearAt at e ⊢
        split at e
        · omega
        · rename_i h3; rw [if_neg h3]
      obtain ⟨k, hk, h4⟩ := nears_pos (Dist := Dist) (clients := clients) (r := r) (a := a) n (by omega)
      exact ⟨k, by omega, h4⟩
theorem nears_two {Dist : List (List Int)} {clients : List Int} {r : Int} {a : Nat} : ∀ n, 1 < nears Dist clients r a n → ∃ i k, i < n ∧ k < i ∧ nearAt Dist clients r a i = 1 ∧ nearAt Dist clients r a k = 1
  | 0, h => by simp [nears, sumTo, foldTo] at h
  | n + 1, h => by
    by_cases e : nearAt Dist clients r a n = 1
    · rw [nears_succ, e] at h
      obtain ⟨k, hk, h4⟩ := nears_pos (Dist := Dist) (clients := clients) (r := r) (a := a) n (by omega)
      exact ⟨n, k, Nat.lt_succ_self n, hk, e, h4⟩
    · rw [nears_succ] at h
      have e2 : nearAt Dist clients r a n = 0 := by
        unfold nearAt at e ⊢
        split at e
        · omega
        · rename_i h3; rw [if_neg h3]
      obtain ⟨i, k, h3, h4⟩ := nears_two (Dist := Dist) (clients := clients) (r := r) (a := a) n (by omega)
      exact ⟨i, k, by omega, h4⟩
theorem nearAt_one {Dist : List (List Int)} {clients : List Int} {r : Int} {a k : Nat} : nearAt Dist clients r a k = 1 ↔ (Dist.getD (clients.getD k 0).toNat []).getD a 0 ≤ r := by
  unfold nearAt
  split <;> simp_all
theorem far_eq (n : Nat) (Dist : List (List Int)) (clients : List Int) (r : Int) : farI n Dist clients r = farS n Dist clients r := by
  rw [Bool.eq_iff_iff]
  unfold farI farS
  simp only [allTo_iff, decide_eq_true_eq, apart]
  constructor
  · intro h i hi k hk a ha
    have h1 := h a ha
    simp only [closeAt, Bool.not_eq_true', Bool.and_eq_false_iff, decide_eq_false_iff_not]
    by_cases e1 : (Dist.getD (clients.getD i 0).toNat []).getD a 0 ≤ r
    · by_cases e2 : (Dist.getD (clients.getD k 0).toNat []).getD a 0 ≤ r
      · exfalso
        have m1 := nears_mono (Dist := Dist) (clients := clients) (r := r) (a := a) clients.length (i + 1) (by omega)
        have m2 := nears_mono (Dist := Dist) (clients := clients) (r := r) (a := a) i (k + 1) (by omega)
        have b := (nears_bound (Dist := Dist) (clients := clients) (r := r) (a := a) (k := k)).1
        rw [nears_succ, nearAt_one.2 e1] at m1
        rw [nears_succ, nearAt_one.2 e2] at m2
        omega
      · exact .inr e2
    · exact .inl e1
  · intro h a ha
    by_cases e : nears Dist clients r a clients.length ≤ 1
    · exact e
    · obtain ⟨i, k, h1, h2, h3, h4⟩ := nears_two (Dist := Dist) (clients := clients) (r := r) (a := a) clients.length (by omega)
      have h5 := h i h1 k h2 a ha
      rw [nearAt_one] at h3 h4
      simp only [closeAt, Bool.not_eq_true', Bool.and_eq_false_iff, decide_eq_false_iff_not] at h5
      rcases h5 with h5 | h5
      · exact absurd h3 h5
      · exact absurd h4 h5

abbrev s_l5Apart_JJ0 (Open : List Int) (Dist : List (List Int)) (i : Int) (j : Int) (r : Int) (a : Int) : Prop := (0 ≤ a) ∧ (a ≤ (Open.length : Int)) ∧ (allTo (fun c => !(closeAt Dist r i.toNat j.toNat c)) a.toNat = true)
abbrev s_l5Apart_mJ0 (Open : List Int) (Dist : List (List Int)) (i : Int) (j : Int) (r : Int) (a : Int) : Nat := (Open.length - a).toNat
def s_l5Apart_C (f : FuncId) (ds : List D) : Orc := .no
def s_l5Apart_A (Open : List Int) (Dist : List (List Int)) (i : Int) (j : Int) (r : Int) : Ann := .two (.none) (.two (.two (.none) (.loop (cut1 (fun (a : Int) => s_l5Apart_JJ0 Open Dist i j r a) (fun (a : Int) => [(1, .d false (.int .i64 i)), (2, .d false (.int .i64 j)), (3, .d false (.int .i64 r)), (4, .ptr 4 0), (9, .d true (.int .i64 a))]) (fun (a : Int) => [(4, .box 48 [.d false (.sl (.ints Open)), .d false (.sl (.rows Dist))])])) (fun g => s_l5Apart_mJ0 Open Dist i j r g) (fun _ => .none))) (.none))
def s_l5Apart_P (Open : List Int) (Dist : List (List Int)) (i : Int) (j : Int) (r : Int) : Prop :=
  ((∃ a' : Int, (s_l5Apart_JJ0 Open Dist i j r a') ∧ (i = i) ∧ (j = j) ∧ (r = r) ∧ ((0 : Int) = a') ∧ (Open = Open) ∧ (Dist = Dist)) ∧ (∀ a : Int, (s_l5Apart_JJ0 Open Dist i j r a) → (((decide (a < (Open.length : Int))) = true → ((0 : Int) ≤ i) ∧ ((i : Int) < Dist.length) ∧ (i.toNat < Dist.length) ∧ ((0 : Int) ≤ a) ∧ ((a : Int) < (Dist.getD i.toNat []).length) ∧ (a.toNat < (Dist.getD i.toNat []).length) ∧ ((decide (((Dist.getD i.toNat []).getD a.toNat 0) ≤ r)) = true → (decide (((Dist.getD i.toNat []).getD a.toNat 0) ≤ r)) = true) ∧ ((decide (((Dist.getD i.toNat []).getD a.toNat 0) ≤ r)) = true → (decide (((Dist.getD i.toNat []).getD a.toNat 0) ≤ r)) = true) ∧ ((decide (((Dist.getD i.toNat []).getD a.toNat 0) ≤ r)) = true → (decide (((Dist.getD i.toNat []).getD a.toNat 0) ≤ r)) = true) ∧ (((decide (((Dist.getD i.toNat []).getD a.toNat 0) ≤ r)) = true → (0 : Int) ≤ j)) ∧ (((decide (((Dist.getD i.toNat []).getD a.toNat 0) ≤ r)) = true → (j : Int) < Dist.length)) ∧ ((decide (((Dist.getD i.toNat []).getD a.toNat 0) ≤ r)) = true → (decide (((Dist.getD i.toNat []).getD a.toNat 0) ≤ r)) = true) ∧ (((decide (((Dist.getD i.toNat []).getD a.toNat 0) ≤ r)) = true → j.toNat < Dist.length)) ∧ ((decide (((Dist.getD i.toNat []).getD a.toNat 0) ≤ r)) = true → (decide (((Dist.getD i.toNat []).getD a.toNat 0) ≤ r)) = true) ∧ ((decide (((Dist.getD i.toNat []).getD a.toNat 0) ≤ r)) = true → (decide (((Dist.getD i.toNat []).getD a.toNat 0) ≤ r)) = true) ∧ (((decide (((Dist.getD i.toNat []).getD a.toNat 0) ≤ r)) = true → (0 : Int) ≤ a)) ∧ (((decide (((Dist.getD i.toNat []).getD a.toNat 0) ≤ r)) = true → (a : Int) < (Dist.getD j.toNat []).length)) ∧ ((decide (((Dist.getD i.toNat []).getD a.toNat 0) ≤ r)) = true → (decide (((Dist.getD i.toNat []).getD a.toNat 0) ≤ r)) = true) ∧ (((decide (((Dist.getD i.toNat []).getD a.toNat 0) ≤ r)) = true → a.toNat < (Dist.getD j.toNat []).length)) ∧ ((decide (((Dist.getD i.toNat []).getD a.toNat 0) ≤ r)) = true → (decide (((Dist.getD i.toNat []).getD a.toNat 0) ≤ r)) = true) ∧ ((decide (((Dist.getD i.toNat []).getD a.toNat 0) ≤ r)) = true → (decide (((Dist.getD i.toNat []).getD a.toNat 0) ≤ r)) = true) ∧ (true = true) ∧ (((decide (((Dist.getD i.toNat []).getD a.toNat 0) ≤ r)) = true → (decide (((Dist.getD i.toNat []).getD a.toNat 0) ≤ r)) = true)) ∧ (((decide (((Dist.getD i.toNat []).getD a.toNat 0) ≤ r)) = false → true = true)) ∧ (((cond (decide (((Dist.getD i.toNat []).getD a.toNat 0) ≤ r)) (decide (((Dist.getD j.toNat []).getD a.toNat 0) ≤ r)) false) = true → ((false = (apart Open.length Dist i j r)))) ∧ ((cond (decide (((Dist.getD i.toNat []).getD a.toNat 0) ≤ r)) (decide (((Dist.getD j.toNat []).getD a.toNat 0) ≤ r)) false) = false → (-9223372036854775808 ≤ (a + 1) ∧ (a + 1) ≤ 9223372036854775807) ∧ (∃ a' : Int, (s_l5Apart_JJ0 Open Dist i j r a') ∧ (s_l5Apart_mJ0 Open Dist i j r a' < s_l5Apart_mJ0 Open Dist i j r a) ∧ (i = i) ∧ (j = j) ∧ (r = r) ∧ ((a + 1) = a') ∧ (Open = Open) ∧ (Dist = Dist))))) ∧ ((decide (a < (Open.length : Int))) = false → ((true = (apart Open.length Dist i j r)))))))
theorem s_l5Apart_vc (Open : List Int) (Dist : List (List Int)) (i : Int) (j : Int) (r : Int) (hg : goodField Open Dist = true) (hi : 0 ≤ i ∧ i < (Dist.length : Int)) (hj : 0 ≤ j ∧ j < (Dist.length : Int)) (w_Open : (Open.length : Int) ≤ 9223372036854775807) (w_Dist : (Dist.length : Int) ≤ 9223372036854775807) (v_Dist : ∀ x9 ∈ Dist, (x9.length : Int) ≤ 9223372036854775807) : s_l5Apart_P Open Dist i j r := by
  unfold s_l5Apart_P
  obtain ⟨g1, g2, g3⟩ := gf_open hg
  obtain ⟨ri, ci⟩ := gf_row (i := i.toNat) hg (by omega)
  obtain ⟨rj, cj⟩ := gf_row (i := j.toNat) hg (by omega)
  refine ⟨?_, ?_⟩
  · refine ⟨0, ?_⟩
    refine ⟨?_, rfl, rfl, rfl, rfl, rfl, rfl⟩
    · refine ⟨?_, ?_, ?_⟩
      · first | omega | rfl | (intro hg; simp only [nrmT] at hg; omega) | (intro g1 g2; simp [g1, g2]; done) | (intro g1; simp at g1 ⊢; simp [g1]; done) | (simp only [nrmT] at *; omega) | (simp at * <;> omega) | (simp_all <;> omega) | (simp_all; done)
      · first | omega | rfl | (intro hg; simp only [nrmT] at hg; omega) | (intro g1 g2; simp [g1, g2]; done) | (intro g1; simp at g1 ⊢; simp [g1]; done) | (simp only [nrmT] at *; omega) | (simp at * <;> omega) | (simp_all <;> omega) | (simp_all; done)
      · first | omega | rfl | (intro hg; simp only [nrmT] at hg; omega) | (intro g1 g2; simp [g1, g2]; done) | (intro g1; simp at g1 ⊢; simp [g1]; done) | (simp only [nrmT] at *; omega) | (simp at * <;> omega) | (simp_all <;> omega) | (simp_all; done)
  · intro a hJ
    obtain ⟨h1, h2, h3⟩ := hJ
    refine ⟨?_, ?_⟩
    · intro b1
      try simp only [nrmT] at b1
      refine ⟨?_, ?_, ?_, ?_, ?_, ?_, id, id, id, ?_, ?_, id, ?_, id, id, ?_, ?_, id, ?_, id, id, rfl, id, fun _ => rfl, ?_, ?_⟩
      · first | omega | rfl | (intro hg; simp only [nrmT] at hg; omega) | (intro g1 g2; simp [g1, g2]; done) | (intro g1; simp at g1 ⊢; simp [g1]; done) | (simp only [nrmT] at *; omega) | (simp at * <;> omega) | (simp_all <;> omega) | (simp_all; done)
      · first | omega | rfl | (intro hg; simp only [nrmT] at hg; omega) | (intro g1 g2; simp [g1, g2]; done) | (intro g1; simp at g1 ⊢; simp [g1]; done) | (simp only [nrmT] at *; omega) | (simp at * <;> omega) | (simp_all <;> omega) | (simp_all; done)
      · first | omega | rfl | (intro hg; simp only [nrmT] at hg; omega) | (intro g1 g2; simp [g1, g2]; done) | (intro g1; simp at g1 ⊢; simp [g1]; done) | (simp only [nrmT] at *; omega) | (simp at * <;> omega) | (simp_all <;> omega) | (simp_all; done)
      · first | omega | rfl | (intro hg; simp only [nrmT] at hg; omega) | (intro g1 g2; simp [g1, g2]; done) | (intro g1; simp at g1 ⊢; simp [g1]; done) | (simp only [nrmT] at *; omega) | (simp at * <;> omega) | (simp_all <;> omega) | (simp_all; done)
      · first | omega | rfl | (intro hg; simp only [nrmT] at hg; omega) | (intro g1 g2; simp [g1, g2]; done) | (intro g1; simp at g1 ⊢; simp [g1]; done) | (simp only [nrmT] at *; omega) | (simp at * <;> omega) | (simp_all <;> omega) | (simp_all; done)
      · first | omega | rfl | (intro hg; simp only [nrmT] at hg; omega) | (intro g1 g2; simp [g1, g2]; done) | (intro g1; simp at g1 ⊢; simp [g1]; done) | (simp only [nrmT] at *; omega) | (simp at * <;> omega) | (simp_all <;> omega) | (simp_all; done)
      · first | omega | rfl | (intro hg; simp only [nrmT] at hg; omega) | (intro g1 g2; simp [g1, g2]; done) | (intro g1; simp at g1 ⊢; simp [g1]; done) | (simp only [nrmT] at *; omega) | (simp at * <;> omega) | (simp_all <;> omega) | (simp_all; done)
      · first | omega | rfl | (intro hg; simp only [nrmT] at hg; omega) | (intro g1 g2; simp [g1, g2]; done) | (intro g1; simp at g1 ⊢; simp [g1]; done) | (simp only [nrmT] at *; omega) | (simp at * <;> omega) | (simp_all <;> omega) | (simp_all; done)
      · first | omega | rfl | (intro hg; simp only [nrmT] at hg; omega) | (intro g1 g2; simp [g1, g2]; done) | (intro g1; simp at g1 ⊢; simp [g1]; done) | (simp only [nrmT] at *; omega) | (simp at * <;> omega) | (simp_all <;> omega) | (simp_all; done)
      · first | omega | rfl | (intro hg; simp only [nrmT] at hg; omega) | (intro g1 g2; simp [g1, g2]; done) | (intro g1; simp at g1 ⊢; simp [g1]; done) | (simp only [nrmT] at *; omega) | (simp at * <;> omega) | (simp_all <;> omega) | (simp_all; done)
      · intro _; omega
      · intro _; omega
      · intro b2
        exact (allTo_falseI h1 (by omega) (by rw [Bool.not_eq_false']; unfold closeAt; rw [← b2]; cases decide ((Dist.getD i.toNat []).getD a.toNat 0 ≤ r) <;> rfl)).symm
      · intro b3
        refine ⟨?_, ?_⟩
        · first | omega | rfl | (intro hg; simp only [nrmT] at hg; omega) | (intro g1 g2; simp [g1, g2]; done) | (intro g1; simp at g1 ⊢; simp [g1]; done) | (simp only [nrmT] at *; omega) | (simp at * <;> omega) | (simp_all <;> omega) | (simp_all; done)
        · refine ⟨(a + 1), ?_⟩
          refine ⟨?_, ?_, rfl, rfl, rfl, rfl, rfl, rfl⟩
          · refine ⟨?_, ?_, ?_⟩
            · first | omega | rfl | (intro hg; simp only [nrmT] at hg; omega) | (intro g1 g2; simp [g1, g2]; done) | (intro g1; simp at g1 ⊢; simp [g1]; done) | (simp only [nrmT] at *; omega) | (simp at * <;> omega) | (simp_all <;> omega) | (simp_all; done)
            · first | omega | rfl | (intro hg; simp only [nrmT] at hg; omega) | (intro g1 g2; simp [g1, g2]; done) | (intro g1; simp at g1 ⊢; simp [g1]; done) | (simp only [nrmT] at *; omega) | (simp at * <;> omega) | (simp_all <;> omega) | (simp_all; done)
            · refine allTo_step h1 h3 ?_
              rw [Bool.not_eq_true']; unfold closeAt; rw [← b3]; cases decide ((Dist.getD i.toNat []).getD a.toNat 0 ≤ r) <;> rfl
          · first | (show _ < _; omega) | (simp only [s_l5Apart_mJ0]; omega) | (simp only [s_l5Apart_mJ0] at *; simp at *; omega)
    · intro b4
      try simp only [nrmT] at b4
      unfold apart
      rw [← h3]; congr 1; omega
theorem s_l5Apart_pc (Open : List Int) (Dist : List (List Int)) (i : Int) (j : Int) (r : Int) (hg : goodField Open Dist = true) (hi : 0 ≤ i ∧ i < (Dist.length : Int)) (hj : 0 ≤ j ∧ j < (Dist.length : Int)) : PC Try.prog 161 [.agg [.sl (.ints Open), .sl (.rows Dist)], .int .i64 i, .int .i64 j, .int .i64 r] (.one (.d (.bool (apart Open.length Dist i j r)))) :=
  pc_wf @Try.call161 fun hw => pc_by (by kernel_rfl) Try.func161 @Try.call161 (by kernel_rfl) s_l5Apart_C (s_l5Apart_A Open Dist i j r) (by kernel_rfl) (s_l5Apart_vc Open Dist i j r hg hi hj hw.1.1 hw.1.2.1.1 hw.1.2.1.2) (by kernel_rfl)
def s_l5Apart_orc : List D → Orc := orcN [none, none, none, none] fun ds => match ds with
  | [.agg [.sl (.ints Open), .sl (.rows Dist)], .int .i64 i, .int .i64 j, .int .i64 r] => some (.one (.d (.bool (apart Open.length Dist i j r))))
  | _ => none

abbrev s_l5Far_JJ0 (Open : List Int) (Dist : List (List Int)) (clients : List Int) (r : Int) (i : Int) : Prop := (0 ≤ i) ∧ (i ≤ (clients.length : Int)) ∧ (allTo (fun i => allTo (fun k => apart Open.length Dist (clients.getD i 0) (clients.getD k 0) r) i) i.toNat = true)
abbrev s_l5Far_mJ0 (Open : List Int) (Dist : List (List Int)) (clients : List Int) (r : Int) (i : Int) : Nat := (clients.length - i).toNat
abbrev s_l5Far_JJ1 (Open : List Int) (Dist : List (List Int)) (clients : List Int) (r : Int) (i : Int) (k : Int) : Prop := (0 ≤ k) ∧ (k ≤ i) ∧ (allTo (fun c => apart Open.length Dist (clients.getD i.toNat 0) (clients.getD c 0) r) k.toNat = true)
abbrev s_l5Far_mJ1 (Open : List Int) (Dist : List (List Int)) (clients : List Int) (r : Int) (i : Int) (k : Int) : Nat := (i - k).toNat
def s_l5Far_C (f : FuncId) (ds : List D) : Orc := bif Nat.beq f 161 then s_l5Apart_orc ds else .no
def s_l5Far_A (Open : List Int) (Dist : List (List Int)) (clients : List Int) (r : Int) : Ann := .two (.none) (.two (.two (.none) (.loop (cut1 (fun (i : Int) => s_l5Far_JJ0 Open Dist clients r i) (fun (i : Int) => [(1, .d false (.sl (.ints clients))), (2, .d false (.int .i64 r)), (3, .ptr 3 0), (7, .d true (.int .i64 i))]) (fun (i : Int) => [(3, .box 48 [.d false (.sl (.ints Open)), .d false (.sl (.rows Dist))])])) (fun g => s_l5Far_mJ0 Open Dist clients r g) (fun g => (fun (i : Int) => .two (.none) (.two (.two (.none) (.loop (cut1 (fun (k : Int) => s_l5Far_JJ1 Open Dist clients r i k) (fun (k : Int) => [(1, .d false (.sl (.ints clients))), (2, .d false (.int .i64 r)), (3, .ptr 3 0), (7, .d true (.int .i64 i)), (8, .d true (.int .i64 k))]) (fun (k : Int) => [(3, .box 48 [.d false (.sl (.ints Open)), .d false (.sl (.rows Dist))])])) (fun g => s_l5Far_mJ1 Open Dist clients r i g) (fun _ => .none))) (.none))) g))) (.none))
def s_l5Far_P (Open : List Int) (Dist : List (List Int)) (clients : List Int) (r : Int) : Prop :=
  ((∃ i' : Int, (s_l5Far_JJ0 Open Dist clients r i') ∧ (clients = clients) ∧ (r = r) ∧ ((0 : Int) = i') ∧ (Open = Open) ∧ (Dist = Dist)) ∧ (∀ i : Int, (s_l5Far_JJ0 Open Dist clients r i) → (((decide (i < (clients.length : Int))) = true → ((∃ k' : Int, (s_l5Far_JJ1 Open Dist clients r i k') ∧ (clients = clients) ∧ (r = r) ∧ (i = i) ∧ ((0 : Int) = k') ∧ (Open = Open) ∧ (Dist = Dist)) ∧ (∀ k : Int, (s_l5Far_JJ1 Open Dist clients r i k) → (((decide (k < i)) = true → (true = true) ∧ ((0 : Int) ≤ i) ∧ ((i : Int) < clients.length) ∧ (i.toNat < clients.length) ∧ ((0 : Int) ≤ k) ∧ ((k : Int) < clients.length) ∧ (k.toNat < clients.length) ∧ (PC Try.prog 161 [.agg [.sl (.ints Open), .sl (.rows Dist)], .int .i64 (clients.getD i.toNat 0), .int .i64 (clients.getD k.toNat 0), .int .i64 r] (.one (.d (.bool (apart Open.length Dist (clients.getD i.toNat 0) (clients.getD k.toNat 0) r))))) ∧ (((!(apart Open.length Dist (clients.getD i.toNat 0) (clients.getD k.toNat 0) r)) = true → ((false = (farS Open.length Dist clients r)))) ∧ ((!(apart Open.length Dist (clients.getD i.toNat 0) (clients.getD k.toNat 0) r)) = false → (-9223372036854775808 ≤ (k + 1) ∧ (k + 1) ≤ 9223372036854775807) ∧ (∃ k' : Int, (s_l5Far_JJ1 Open Dist clients r i k') ∧ (s_l5Far_mJ1 Open Dist clients r i k' < s_l5Far_mJ1 Open Dist clients r i k) ∧ (clients = clients) ∧ (r = r) ∧ (i = i) ∧ ((k + 1) = k') ∧ (Open = Open) ∧ (Dist = Dist))))) ∧ ((decide (k < i)) = false → (-9223372036854775808 ≤ (i + 1) ∧ (i + 1) ≤ 9223372036854775807) ∧ (∃ i' : Int, (s_l5Far_JJ0 Open Dist clients r i') ∧ (s_l5Far_mJ0 Open Dist clients r i' < s_l5Far_mJ0 Open Dist clients r i) ∧ (clients = clients) ∧ (r = r) ∧ ((i + 1) = i') ∧ (Open = Open) ∧ (Dist = Dist))))))) ∧ ((decide (i < (clients.length : Int))) = false → ((true = (farS Open.length Dist clients r)))))))
theorem s_l5Far_vc (Open : List Int) (Dist : List (List Int)) (clients : List Int) (r : Int) (hg : goodField Open Dist = true) (hc : rising clients 0 ((Dist.length : Int) - 1) = true) (w_Open : (Open.length : Int) ≤ 9223372036854775807) (w_Dist : (Dist.length : Int) ≤ 9223372036854775807) (v_Dist : ∀ x9 ∈ Dist, (x9.length : Int) ≤ 9223372036854775807) (w_clients : (clients.length : Int) ≤ 9223372036854775807) : s_l5Far_P Open Dist clients r := by
  unfold s_l5Far_P
  obtain ⟨g1, g2, g3⟩ := gf_open hg
  have ca := fun k => rising_at hc k
  have cl := rising_len hc (by omega)
  refine ⟨?_, ?_⟩
  · refine ⟨0, ?_⟩
    refine ⟨?_, rfl, rfl, rfl, rfl, rfl⟩
    · refine ⟨?_, ?_, ?_⟩
      · first | omega | rfl | (intro hg; simp only [nrmT] at hg; omega) | (intro g1 g2; simp [g1, g2]; done) | (intro g1; simp at g1 ⊢; simp [g1]; done) | (simp only [nrmT] at *; omega) | (simp at * <;> omega) | (simp_all <;> omega) | (simp_all; done)
      · first | omega | rfl | (intro hg; simp only [nrmT] at hg; omega) | (intro g1 g2; simp [g1, g2]; done) | (intro g1; simp at g1 ⊢; simp [g1]; done) | (simp only [nrmT] at *; omega) | (simp at * <;> omega) | (simp_all <;> omega) | (simp_all; done)
      · first | omega | rfl | (intro hg; simp only [nrmT] at hg; omega) | (intro g1 g2; simp [g1, g2]; done) | (intro g1; simp at g1 ⊢; simp [g1]; done) | (simp only [nrmT] at *; omega) | (simp at * <;> omega) | (simp_all <;> omega) | (simp_all; done)
  · intro i hJ
    obtain ⟨h1, h2, h3⟩ := hJ
    refine ⟨?_, ?_⟩
    · intro b1
      try simp only [nrmT] at b1
      refine ⟨?_, ?_⟩
      · refine ⟨0, ?_⟩
        refine ⟨?_, rfl, rfl, rfl, rfl, rfl, rfl⟩
        · refine ⟨?_, ?_, ?_⟩
          · first | omega | rfl | (intro hg; simp only [nrmT] at hg; omega) | (intro g1 g2; simp [g1, g2]; done) | (intro g1; simp at g1 ⊢; simp [g1]; done) | (simp only [nrmT] at *; omega) | (simp at * <;> omega) | (simp_all <;> omega) | (simp_all; done)
          · first | omega | rfl | (intro hg; simp only [nrmT] at hg; omega) | (intro g1 g2; simp [g1, g2]; done) | (intro g1; simp at g1 ⊢; simp [g1]; done) | (simp only [nrmT] at *; omega) | (simp at * <;> omega) | (simp_all <;> omega) | (simp_all; done)
          · first | omega | rfl | (intro hg; simp only [nrmT] at hg; omega) | (intro g1 g2; simp [g1, g2]; done) | (intro g1; simp at g1 ⊢; simp [g1]; done) | (simp only [nrmT] at *; omega) | (simp at * <;> omega) | (simp_all <;> omega) | (simp_all; done)
      · intro k hJ
        obtain ⟨h4, h5, h6⟩ := hJ
        refine ⟨?_, ?_⟩
        · intro b2
          try simp only [nrmT] at b2
          refine ⟨rfl, ?_, ?_, ?_, ?_, ?_, ?_, ?_, ?_, ?_⟩
          · first | omega | rfl | (intro hg; simp only [nrmT] at hg; omega) | (intro g1 g2; simp [g1, g2]; done) | (intro g1; simp at g1 ⊢; simp [g1]; done) | (simp only [nrmT] at *; omega) | (simp at * <;> omega) | (simp_all <;> omega) | (simp_all; done)
          · first | omega | rfl | (intro hg; simp only [nrmT] at hg; omega) | (intro g1 g2; simp [g1, g2]; done) | (intro g1; simp at g1 ⊢; simp [g1]; done) | (simp only [nrmT] at *; omega) | (simp at * <;> omega) | (simp_all <;> omega) | (simp_all; done)
          · first | omega | rfl | (intro hg; simp only [nrmT] at hg; omega) | (intro g1 g2; simp [g1, g2]; done) | (intro g1; simp at g1 ⊢; simp [g1]; done) | (simp only [nrmT] at *; omega) | (simp at * <;> omega) | (simp_all <;> omega) | (simp_all; done)
          · first | omega | rfl | (intro hg; simp only [nrmT] at hg; omega) | (intro g1 g2; simp [g1, g2]; done) | (intro g1; simp at g1 ⊢; simp [g1]; done) | (simp only [nrmT] at *; omega) | (simp at * <;> omega) | (simp_all <;> omega) | (simp_all; done)
          · first | omega | rfl | (intro hg; simp only [nrmT] at hg; omega) | (intro g1 g2; simp [g1, g2]; done) | (intro g1; simp at g1 ⊢; simp [g1]; done) | (simp only [nrmT] at *; omega) | (simp at * <;> omega) | (simp_all <;> omega) | (simp_all; done)
          · first | omega | rfl | (intro hg; simp only [nrmT] at hg; omega) | (intro g1 g2; simp [g1, g2]; done) | (intro g1; simp at g1 ⊢; simp [g1]; done) | (simp only [nrmT] at *; omega) | (simp at * <;> omega) | (simp_all <;> omega) | (simp_all; done)
          · refine s_l5Apart_pc Open Dist (clients.getD i.toNat 0) (clients.getD k.toNat 0) r ?_ ?_ ?_
            · first | omega | rfl | (intro hg; simp only [nrmT] at hg; omega) | (intro g1 g2; simp [g1, g2]; done) | (intro g1; simp at g1 ⊢; simp [g1]; done) | (simp only [nrmT] at *; omega) | (simp at * <;> omega) | (simp_all <;> omega) | (simp_all; done)
            · have := ca i.toNat (by omega)
              omega
            · have := ca k.toNat (by omega)
              omega
          · intro b3
            try simp only [nrmT] at b3
            refine (allTo_falseI h1 (by omega) ?_).symm
            exact allTo_falseI h4 (by omega) b3
          · intro b4
            try simp only [nrmT] at b4
            refine ⟨?_, ?_⟩
            · first | omega | rfl | (intro hg; simp only [nrmT] at hg; omega) | (intro g1 g2; simp [g1, g2]; done) | (intro g1; simp at g1 ⊢; simp [g1]; done) | (simp only [nrmT] at *; omega) | (simp at * <;> omega) | (simp_all <;> omega) | (simp_all; done)
            · refine ⟨(k + 1), ?_⟩
              refine ⟨?_, ?_, rfl, rfl, rfl, rfl, rfl, rfl⟩
              · refine ⟨?_, ?_, ?_⟩
                · first | omega | rfl | (intro hg; simp only [nrmT] at hg; omega) | (intro g1 g2; simp [g1, g2]; done) | (intro g1; simp at g1 ⊢; simp [g1]; done) | (simp only [nrmT] at *; omega) | (simp at * <;> omega) | (simp_all <;> omega) | (simp_all; done)
                · first | omega | rfl | (intro hg; simp only [nrmT] at hg; omega) | (intro g1 g2; simp [g1, g2]; done) | (intro g1; simp at g1 ⊢; simp [g1]; done) | (simp only [nrmT] at *; omega) | (simp at * <;> omega) | (simp_all <;> omega) | (simp_all; done)
                · exact allTo_step h4 h6 b4
              · first | (show _ < _; omega) | (simp only [s_l5Far_mJ1]; omega) | (simp only [s_l5Far_mJ1] at *; simp at *; omega)
        · intro b5
          try simp only [nrmT] at b5
          refine ⟨?_, ?_⟩
          · first | omega | rfl | (intro hg; simp only [nrmT] at hg; omega) | (intro g1 g2; simp [g1, g2]; done) | (intro g1; simp at g1 ⊢; simp [g1]; done) | (simp only [nrmT] at *; omega) | (simp at * <;> omega) | (simp_all <;> omega) | (simp_all; done)
          · refine ⟨(i + 1), ?_⟩
            refine ⟨?_, ?_, rfl, rfl, rfl, rfl, rfl⟩
            · refine ⟨?_, ?_, ?_⟩
              · first | omega | rfl | (intro hg; simp only [nrmT] at hg; omega) | (intro g1 g2; simp [g1, g2]; done) | (intro g1; simp at g1 ⊢; simp [g1]; done) | (simp only [nrmT] at *; omega) | (simp at * <;> omega) | (simp_all <;> omega) | (simp_all; done)
              · first | omega | rfl | (intro hg; simp only [nrmT] at hg; omega) | (intro g1 g2; simp [g1, g2]; done) | (intro g1; simp at g1 ⊢; simp [g1]; done) | (simp only [nrmT] at *; omega) | (simp at * <;> omega) | (simp_all <;> omega) | (simp_all; done)
              · have e : k.toNat = i.toNat := by omega
                rw [e] at h6
                exact allTo_step h1 h3 h6
            · first | (show _ < _; omega) | (simp only [s_l5Far_mJ0]; omega) | (simp only [s_l5Far_mJ0] at *; simp at *; omega)
    · intro b6
      try simp only [nrmT] at b6
      unfold farS
      rw [← h3]; congr 1; omega
theorem s_l5Far_pc (Open : List Int) (Dist : List (List Int)) (clients : List Int) (r : Int) (hg : goodField Open Dist = true) (hc : rising clients 0 ((Dist.length : Int) - 1) = true) : PC Try.prog 120 [.agg [.sl (.ints Open), .sl (.rows Dist)], .sl (.ints clients), .int .i64 r] (.one (.d (.bool (farS Open.length Dist clients r)))) :=
  pc_wf @Try.call120 fun hw => pc_by (by kernel_rfl) Try.func120 @Try.call120 (by kernel_rfl) s_l5Far_C (s_l5Far_A Open Dist clients r) (by kernel_rfl) (s_l5Far_vc Open Dist clients r hg hc hw.1.1 hw.1.2.1.1 hw.1.2.1.2 hw.2.1) (by kernel_rfl)
def s_l5Far_orc : List D → Orc := orcN [none, some .ints, none] fun ds => match ds with
  | [.agg [.sl (.ints Open), .sl (.rows Dist)], .sl (.ints clients), .int .i64 r] => some (.one (.d (.bool (farS Open.length Dist clients r))))
  | _ => none

abbrev i_Field_areFar_JJ0 (Open : List Int) (Dist : List (List Int)) (clients : List Int) (r : Int) (a : Int) : Prop := (0 ≤ a) ∧ (a ≤ (Open.length : Int)) ∧ (allTo (fun c => decide (nears Dist clients r c clients.length ≤ 1)) a.toNat = true)
abbrev i_Field_areFar_mJ0 (Open : List Int) (Dist : List (List Int)) (clients : List Int) (r : Int) (a : Int) : Nat := (Open.length - a).toNat
abbrev i_Field_areFar_JJ1 (Open : List Int) (Dist : List (List Int)) (clients : List Int) (r : Int) (a : Int) (near : Int) (k : Int) : Prop := (0 ≤ k) ∧ (k ≤ (clients.length : Int)) ∧ (near = nears Dist clients r a.toNat k.toNat)
abbrev i_Field_areFar_mJ1 (Open : List Int) (Dist : List (List Int)) (clients : List Int) (r : Int) (a : Int) (near : Int) (k : Int) : Nat := (clients.length - k).toNat
def i_Field_areFar_C (f : FuncId) (ds : List D) : Orc := .no
def i_Field_areFar_A (Open : List Int) (Dist : List (List Int)) (clients : List Int) (r : Int) : Ann := .two (.none) (.two (.two (.none) (.loop (cut1 (fun (a : Int) => i_Field_areFar_JJ0 Open Dist clients r a) (fun (a : Int) => [(1, .d false (.sl (.ints clients))), (2, .d false (.int .i64 r)), (3, .ptr 3 0), (13, .d true (.int .i64 (Open.length : Int))), (14, .d true (.int .i64 a))]) (fun (a : Int) => [(3, .box 48 [.d false (.sl (.ints Open)), .d false (.sl (.rows Dist))])])) (fun g => i_Field_areFar_mJ0 Open Dist clients r g) (fun g => (fun (a : Int) => .two (.none) (.two (.none) (.two (.two (.none) (.two (.none) (.two (.two (.none) (.loop (cut2 (fun (near : Int) (k : Int) => i_Field_areFar_JJ1 Open Dist clients r a near k) (fun (near : Int) (k : Int) => [(1, .d false (.sl (.ints clients))), (2, .d false (.int .i64 r)), (3, .ptr 3 0), (7, .d true (.int .i64 a)), (8, .d true (.int .i64 near)), (13, .d true (.int .i64 (Open.length : Int))), (14, .d true (.int .i64 a)), (17, .d false (.sl (.ints clients))), (18, .d true (.int .i64 (clients.length : Int))), (19, .d true (.int .i64 k))]) (fun (near : Int) (k : Int) => [(3, .box 48 [.d false (.sl (.ints Open)), .d false (.sl (.rows Dist))])])) (fun g => i_Field_areFar_mJ1 Open Dist clients r a g.1 g.2) (fun _ => .none))) (.none)))) (.none)))) g))) (.none))
def i_Field_areFar_P (Open : List Int) (Dist : List (List Int)) (clients : List Int) (r : Int) : Prop :=
  ((∃ a' : Int, (i_Field_areFar_JJ0 Open Dist clients r a') ∧ (clients = clients) ∧ (r = r) ∧ ((Open.length : Int) = (Open.length : Int)) ∧ ((0 : Int) = a') ∧ (Open = Open) ∧ (Dist = Dist)) ∧ (∀ a : Int, (i_Field_areFar_JJ0 Open Dist clients r a) → (((decide (a < (Open.length : Int))) = true → ((∃ near' : Int, ∃ k' : Int, (i_Field_areFar_JJ1 Open Dist clients r a near' k') ∧ (clients = clients) ∧ (r = r) ∧ (a = a) ∧ ((0 : Int) = near') ∧ ((Open.length : Int) = (Open.length : Int)) ∧ (a = a) ∧ (clients = clients) ∧ ((clients.length : Int) = (clients.length : Int)) ∧ ((0 : Int) = k') ∧ (Open = Open) ∧ (Dist = Dist)) ∧ (∀ near : Int, ∀ k : Int, (i_Field_areFar_JJ1 Open Dist clients r a near k) → (((decide (k < (clients.length : Int))) = true → ((0 : Int) ≤ k) ∧ ((k : Int) < clients.length) ∧ (k.toNat < clients.length) ∧ ((0 : Int) ≤ (clients.getD k.toNat 0)) ∧ (((clients.getD k.toNat 0) : Int) < Dist.length) ∧ ((clients.getD k.toNat 0).toNat < Dist.length) ∧ ((0 : Int) ≤ a) ∧ ((a : Int) < (Dist.getD ((clients.getD k.toNat 0).toNat) []).length) ∧ (a.toNat < (Dist.getD ((clients.getD k.toNat 0).toNat) []).length) ∧ (((decide (((Dist.getD ((clients.getD k.toNat 0).toNat) []).getD a.toNat 0) ≤ r)) = true → (-9223372036854775808 ≤ (near + 1) ∧ (near + 1) ≤ 9223372036854775807) ∧ (-9223372036854775808 ≤ (k + 1) ∧ (k + 1) ≤ 9223372036854775807) ∧ (∃ near' : Int, ∃ k' : Int, (i_Field_areFar_JJ1 Open Dist clients r a near' k') ∧ (i_Field_areFar_mJ1 Open Dist clients r a near' k' < i_Field_areFar_mJ1 Open Dist clients r a near k) ∧ (clients = clients) ∧ (r = r) ∧ (a = a) ∧ ((near + 1) = near') ∧ ((Open.length : Int) = (Open.length : Int)) ∧ (a = a) ∧ (clients = clients) ∧ ((clients.length : Int) = (clients.length : Int)) ∧ ((k + 1) = k') ∧ (Open = Open) ∧ (Dist = Dist))) ∧ ((decide (((Dist.getD ((clients.getD k.toNat 0).toNat) []).getD a.toNat 0) ≤ r)) = false → (-9223372036854775808 ≤ (k + 1) ∧ (k + 1) ≤ 9223372036854775807) ∧ (∃ near' : Int, ∃ k' : Int, (i_Field_areFar_JJ1 Open Dist clients r a near' k') ∧ (i_Field_areFar_mJ1 Open Dist clients r a near' k' < i_Field_areFar_mJ1 Open Dist clients r a near k) ∧ (clients = clients) ∧ (r = r) ∧ (a = a) ∧ (near = near') ∧ ((Open.length : Int) = (Open.length : Int)) ∧ (a = a) ∧ (clients = clients) ∧ ((clients.length : Int) = (clients.length : Int)) ∧ ((k + 1) = k') ∧ (Open = Open) ∧ (Dist = Dist))))) ∧ ((decide (k < (clients.length : Int))) = false → (((decide (near > 1)) = true → ((false = (farS Open.length Dist clients r)))) ∧ ((decide (near > 1)) = false → (-9223372036854775808 ≤ (a + 1) ∧ (a + 1) ≤ 9223372036854775807) ∧ (∃ a' : Int, (i_Field_areFar_JJ0 Open Dist clients r a') ∧ (i_Field_areFar_mJ0 Open Dist clients r a' < i_Field_areFar_mJ0 Open Dist clients r a) ∧ (clients = clients) ∧ (r = r) ∧ ((Open.length : Int) = (Open.length : Int)) ∧ ((a + 1) = a') ∧ (Open = Open) ∧ (Dist = Dist))))))))) ∧ ((decide (a < (Open.length : Int))) = false → ((true = (farS Open.length Dist clients r)))))))
theorem i_Field_areFar_vc (Open : List Int) (Dist : List (List Int)) (clients : List Int) (r : Int) (hg : goodField Open Dist = true) (hc : rising clients 0 ((Dist.length : Int) - 1) = true) (w_Open : (Open.length : Int) ≤ 9223372036854775807) (w_Dist : (Dist.length : Int) ≤ 9223372036854775807) (v_Dist : ∀ x9 ∈ Dist, (x9.length : Int) ≤ 9223372036854775807) (w_clients : (clients.length : Int) ≤ 9223372036854775807) : i_Field_areFar_P Open Dist clients r := by
  unfold i_Field_areFar_P
  obtain ⟨g1, g2, g3⟩ := gf_open hg
  have ca := fun k => rising_at hc k
  have cl := rising_len hc (by omega)
  refine ⟨?_, ?_⟩
  · refine ⟨0, ?_⟩
    refine ⟨?_, rfl, rfl, rfl, rfl, rfl, rfl⟩
    · refine ⟨?_, ?_, ?_⟩
      · first | omega | rfl | (intro hg; simp only [nrmT] at hg; omega) | (intro g1 g2; simp [g1, g2]; done) | (intro g1; simp at g1 ⊢; simp [g1]; done) | (simp only [nrmT] at *; omega) | (simp at * <;> omega) | (simp_all <;> omega) | (simp_all; done)
      · first | omega | rfl | (intro hg; simp only [nrmT] at hg; omega) | (intro g1 g2; simp [g1, g2]; done) | (intro g1; simp at g1 ⊢; simp [g1]; done) | (simp only [nrmT] at *; omega) | (simp at * <;> omega) | (simp_all <;> omega) | (simp_all; done)
      · first | omega | rfl | (intro hg; simp only [nrmT] at hg; omega) | (intro g1 g2; simp [g1, g2]; done) | (intro g1; simp at g1 ⊢; simp [g1]; done) | (simp only [nrmT] at *; omega) | (simp at * <;> omega) | (simp_all <;> omega) | (simp_all; done)
  · intro a hJ
    obtain ⟨h1, h2, h3⟩ := hJ
    refine ⟨?_, ?_⟩
    · intro b1
      try simp only [nrmT] at b1
      refine ⟨?_, ?_⟩
      · refine ⟨0, 0, ?_⟩
        refine ⟨?_, rfl, rfl, rfl, rfl, rfl, rfl, rfl, rfl, rfl, rfl, rfl⟩
        · refine ⟨?_, ?_, ?_⟩
          · first | omega | rfl | (intro hg; simp only [nrmT] at hg; omega) | (intro g1 g2; simp [g1, g2]; done) | (intro g1; simp at g1 ⊢; simp [g1]; done) | (simp only [nrmT] at *; omega) | (simp at * <;> omega) | (simp_all <;> omega) | (simp_all; done)
          · first | omega | rfl | (intro hg; simp only [nrmT] at hg; omega) | (intro g1 g2; simp [g1, g2]; done) | (intro g1; simp at g1 ⊢; simp [g1]; done) | (simp only [nrmT] at *; omega) | (simp at * <;> omega) | (simp_all <;> omega) | (simp_all; done)
          · first | omega | rfl | (intro hg; simp only [nrmT] at hg; omega) | (intro g1 g2; simp [g1, g2]; done) | (intro g1; simp at g1 ⊢; simp [g1]; done) | (simp only [nrmT] at *; omega) | (simp at * <;> omega) | (simp_all <;> omega) | (simp_all; done)
      · intro near k hJ
        obtain ⟨h4, h5, h6⟩ := hJ
        refine ⟨?_, ?_⟩
        · intro b2
          try simp only [nrmT] at b2
          refine ⟨?_, ?_, ?_, ?_, ?_, ?_, ?_, ?_, ?_, ?_, ?_⟩
          · first | omega | rfl | (intro hg; simp only [nrmT] at hg; omega) | (intro g1 g2; simp [g1, g2]; done) | (intro g1; simp at g1 ⊢; simp [g1]; done) | (simp only [nrmT] at *; omega) | (simp at * <;> omega) | (simp_all <;> omega) | (simp_all; done)
          · first | omega | rfl | (intro hg; simp only [nrmT] at hg; omega) | (intro g1 g2; simp [g1, g2]; done) | (intro g1; simp at g1 ⊢; simp [g1]; done) | (simp only [nrmT] at *; omega) | (simp at * <;> omega) | (simp_all <;> omega) | (simp_all; done)
          · first | omega | rfl | (intro hg; simp only [nrmT] at hg; omega) | (intro g1 g2; simp [g1, g2]; done) | (intro g1; simp at g1 ⊢; simp [g1]; done) | (simp only [nrmT] at *; omega) | (simp at * <;> omega) | (simp_all <;> omega) | (simp_all; done)
          · have := ca k.toNat (by omega)
            omega
          · have := ca k.toNat (by omega)
            omega
          · have := ca k.toNat (by omega)
            omega
          · first | omega | rfl | (intro hg; simp only [nrmT] at hg; omega) | (intro g1 g2; simp [g1, g2]; done) | (intro g1; simp at g1 ⊢; simp [g1]; done) | (simp only [nrmT] at *; omega) | (simp at * <;> omega) | (simp_all <;> omega) | (simp_all; done)
          · have := ca k.toNat (by omega)
            obtain ⟨rr, _⟩ := gf_row (i := (clients.getD k.toNat 0).toNat) hg (by omega)
            omega
          · have := ca k.toNat (by omega)
            obtain ⟨rr, _⟩ := gf_row (i := (clients.getD k.toNat 0).toNat) hg (by omega)
            omega
          · intro b3
            try simp only [nrmT] at b3
            refine ⟨?_, ?_, ?_⟩
            · have := nears_bound (Dist := Dist) (clients := clients) (r := r) (a := a.toNat) (k := k.toNat)
              omega
            · first | omega | rfl | (intro hg; simp only [nrmT] at hg; omega) | (intro g1 g2; simp [g1, g2]; done) | (intro g1; simp at g1 ⊢; simp [g1]; done) | (simp only [nrmT] at *; omega) | (simp at * <;> omega) | (simp_all <;> omega) | (simp_all; done)
            · refine ⟨(near + 1), (k + 1), ?_⟩
              refine ⟨?_, ?_, rfl, rfl, rfl, rfl, rfl, rfl, rfl, rfl, rfl, rfl, rfl⟩
              · refine ⟨?_, ?_, ?_⟩
                · first | omega | rfl | (intro hg; simp only [nrmT] at hg; omega) | (intro g1 g2; simp [g1, g2]; done) | (intro g1; simp at g1 ⊢; simp [g1]; done) | (simp only [nrmT] at *; omega) | (simp at * <;> omega) | (simp_all <;> omega) | (simp_all; done)
                · first | omega | rfl | (intro hg; simp only [nrmT] at hg; omega) | (intro g1 g2; simp [g1, g2]; done) | (intro g1; simp at g1 ⊢; simp [g1]; done) | (simp only [nrmT] at *; omega) | (simp at * <;> omega) | (simp_all <;> omega) | (simp_all; done)
                · rw [h6, show (k + 1).toNat = k.toNat + 1 by omega, nears_succ, nearAt_one.2 b3]
              · first | (show _ < _; omega) | (simp only [i_Field_areFar_mJ1]; omega) | (simp only [i_Field_areFar_mJ1] at *; simp at *; omega)
          · intro b4
            try simp only [nrmT] at b4
            refine ⟨?_, ?_⟩
            · first | omega | rfl | (intro hg; simp only [nrmT] at hg; omega) | (intro g1 g2; simp [g1, g2]; done) | (intro g1; simp at g1 ⊢; simp [g1]; done) | (simp only [nrmT] at *; omega) | (simp at * <;> omega) | (simp_all <;> omega) | (simp_all; done)
            · refine ⟨near, (k + 1), ?_⟩
              refine ⟨?_, ?_, rfl, rfl, rfl, rfl, rfl, rfl, rfl, rfl, rfl, rfl, rfl⟩
              · refine ⟨?_, ?_, ?_⟩
                · first | omega | rfl | (intro hg; simp only [nrmT] at hg; omega) | (intro g1 g2; simp [g1, g2]; done) | (intro g1; simp at g1 ⊢; simp [g1]; done) | (simp only [nrmT] at *; omega) | (simp at * <;> omega) | (simp_all <;> omega) | (simp_all; done)
                · first | omega | rfl | (intro hg; simp only [nrmT] at hg; omega) | (intro g1 g2; simp [g1, g2]; done) | (intro g1; simp at g1 ⊢; simp [g1]; done) | (simp only [nrmT] at *; omega) | (simp at * <;> omega) | (simp_all <;> omega) | (simp_all; done)
                · rw [h6, show (k + 1).toNat = k.toNat + 1 by omega, nears_succ]
                  have : nearAt Dist clients r a.toNat k.toNat = 0 := by unfold nearAt; rw [if_neg (by omega)]
                  omega
              · first | (show _ < _; omega) | (simp only [i_Field_areFar_mJ1]; omega) | (simp only [i_Field_areFar_mJ1] at *; simp at *; omega)
        · intro b5
          try simp only [nrmT] at b5
          refine ⟨?_, ?_⟩
          · intro b6
            try simp only [nrmT] at b6
            rw [← far_eq]
            refine (allTo_falseI h1 (by omega) ?_).symm
            rw [h6, show k.toNat = clients.length by omega] at b6
            simp only [decide_eq_false_iff_not]
            omega
          · intro b7
            try simp only [nrmT] at b7
            refine ⟨?_, ?_⟩
            · first | omega | rfl | (intro hg; simp only [nrmT] at hg; omega) | (intro g1 g2; simp [g1, g2]; done) | (intro g1; simp at g1 ⊢; simp [g1]; done) | (simp only [nrmT] at *; omega) | (simp at * <;> omega) | (simp_all <;> omega) | (simp_all; done)
            · refine ⟨(a + 1), ?_⟩
              refine ⟨?_, ?_, rfl, rfl, rfl, rfl, rfl, rfl⟩
              · refine ⟨?_, ?_, ?_⟩
                · first | omega | rfl | (intro hg; simp only [nrmT] at hg; omega) | (intro g1 g2; simp [g1, g2]; done) | (intro g1; simp at g1 ⊢; simp [g1]; done) | (simp only [nrmT] at *; omega) | (simp at * <;> omega) | (simp_all <;> omega) | (simp_all; done)
                · first | omega | rfl | (intro hg; simp only [nrmT] at hg; omega) | (intro g1 g2; simp [g1, g2]; done) | (intro g1; simp at g1 ⊢; simp [g1]; done) | (simp only [nrmT] at *; omega) | (simp at * <;> omega) | (simp_all <;> omega) | (simp_all; done)
                · rw [h6, show k.toNat = clients.length by omega] at b7
                  exact allTo_step h1 h3 (by simp only [decide_eq_true_eq]; omega)
              · first | (show _ < _; omega) | (simp only [i_Field_areFar_mJ0]; omega) | (simp only [i_Field_areFar_mJ0] at *; simp at *; omega)
    · intro b8
      try simp only [nrmT] at b8
      rw [← far_eq]
      unfold farI
      rw [← h3]; congr 1; omega
theorem i_Field_areFar_pc (Open : List Int) (Dist : List (List Int)) (clients : List Int) (r : Int) (hg : goodField Open Dist = true) (hc : rising clients 0 ((Dist.length : Int) - 1) = true) : PC Try.prog 122 [.agg [.sl (.ints Open), .sl (.rows Dist)], .sl (.ints clients), .int .i64 r] (.one (.d (.bool (farS Open.length Dist clients r)))) :=
  pc_wf @Try.call122 fun hw => pc_by (by kernel_rfl) Try.func122 @Try.call122 (by kernel_rfl) i_Field_areFar_C (i_Field_areFar_A Open Dist clients r) (by kernel_rfl) (i_Field_areFar_vc Open Dist clients r hg hc hw.1.1 hw.1.2.1.1 hw.1.2.1.2 hw.2.1) (by kernel_rfl)
def i_Field_areFar_orc : List D → Orc := orcN [none, some .ints, none] fun ds => match ds with
  | [.agg [.sl (.ints Open), .sl (.rows Dist)], .sl (.ints clients), .int .i64 r] => some (.one (.d (.bool (farS Open.length Dist clients r))))
  | _ => none

def i_isRadius_C (f : FuncId) (ds : List D) : Orc := bif Nat.beq f 101 then i_IsField_orc ds else .no
def i_isRadius_A (Open : List Int) (Dist : List (List Int)) (r : Int) : Ann := .none
def i_isRadius_P (Open : List Int) (Dist : List (List Int)) (r : Int) : Prop :=
  (PC Try.prog 101 [.agg [.sl (.ints Open), .sl (.rows Dist)]] (.one (.d (.bool (goodField Open Dist))))) ∧ ((goodField Open Dist) = true → (goodField Open Dist) = true) ∧ (true = true) ∧ (((goodField Open Dist) = true → (goodField Open Dist) = true)) ∧ (((goodField Open Dist) = false → true = true)) ∧ (((cond (goodField Open Dist) (decide (r ≥ 0)) false) = (goodField Open Dist && decide (0 ≤ r))))
theorem i_isRadius_vc (Open : List Int) (Dist : List (List Int)) (r : Int)  (w_Open : (Open.length : Int) ≤ 9223372036854775807) (w_Dist : (Dist.length : Int) ≤ 9223372036854775807) (v_Dist : ∀ x9 ∈ Dist, (x9.length : Int) ≤ 9223372036854775807) : i_isRadius_P Open Dist r := by
  unfold i_isRadius_P
  refine ⟨i_IsField_pc Open Dist, id, rfl, id, fun _ => rfl, ?_⟩
  · cases goodField Open Dist <;> rfl
theorem i_isRadius_pc (Open : List Int) (Dist : List (List Int)) (r : Int)  : PC Try.prog 121 [.agg [.sl (.ints Open), .sl (.rows Dist)], .int .i64 r] (.one (.d (.bool (goodField Open Dist && decide (0 ≤ r))))) :=
  pc_wf @Try.call121 fun hw => pc_by (by kernel_rfl) Try.func121 @Try.call121 (by kernel_rfl) i_isRadius_C (i_isRadius_A Open Dist r) (by kernel_rfl) (i_isRadius_vc Open Dist r hw.1.1 hw.1.2.1.1 hw.1.2.1.2) (by kernel_rfl)
def i_isRadius_orc : List D → Orc := orcN [none, none] fun ds => match ds with
  | [.agg [.sl (.ints Open), .sl (.rows Dist)], .int .i64 r] => some (.one (.d (.bool (goodField Open Dist && decide (0 ≤ r)))))
  | _ => none

def s_AreFarClients_C (f : FuncId) (ds : List D) : Orc := bif Nat.beq f 99 then s_l2Good_orc ds else bif Nat.beq f 119 then s_l1Rising_orc ds else bif Nat.beq f 120 then s_l5Far_orc ds else .no
def s_AreFarClients_A (Open : List Int) (Dist : List (List Int)) (clients : List Int) (r : Int) : Ann := .none
def s_AreFarClients_P (Open : List Int) (Dist : List (List Int)) (clients : List Int) (r : Int) : Prop :=
  (PC Try.prog 99 [.agg [.sl (.ints Open), .sl (.rows Dist)]] (.one (.d (.bool (goodField Open Dist))))) ∧ ((!(!(goodField Open Dist))) = true → (!(!(goodField Open Dist))) = true) ∧ ((!(!(goodField Open Dist))) = true → (!(!(goodField Open Dist))) = true) ∧ ((!(!(goodField Open Dist))) = true → (!(!(goodField Open Dist))) = true) ∧ (((!(!(goodField Open Dist))) = true → -9223372036854775808 ≤ ((Dist.length : Int) - 1) ∧ ((Dist.length : Int) - 1) ≤ 9223372036854775807)) ∧ ((!(!(goodField Open Dist))) = true → (!(!(goodField Open Dist))) = true) ∧ ((!(!(goodField Open Dist))) = true → (!(!(goodField Open Dist))) = true) ∧ ((!(!(goodField Open Dist))) = true → PC Try.prog 119 [.sl (.ints clients), .int .i64 0, .int .i64 ((Dist.length : Int) - 1)] (.one (.d (.bool (rising clients 0 ((Dist.length : Int) - 1)))))) ∧ ((!(!(goodField Open Dist))) = true → (!(!(goodField Open Dist))) = true) ∧ (true = true) ∧ (((!(goodField Open Dist)) = true → true = true)) ∧ (((!(goodField Open Dist)) = false → (!(!(goodField Open Dist))) = true)) ∧ ((!(cond (!(goodField Open Dist)) true (!(rising clients 0 ((Dist.length : Int) - 1))))) = true → (!(cond (!(goodField Open Dist)) true (!(rising clients 0 ((Dist.length : Int) - 1))))) = true) ∧ (true = true) ∧ (((cond (!(goodField Open Dist)) true (!(rising clients 0 ((Dist.length : Int) - 1)))) = true → true = true)) ∧ (((cond (!(goodField Open Dist)) true (!(rising clients 0 ((Dist.length : Int) - 1)))) = false → (!(cond (!(goodField Open Dist)) true (!(rising clients 0 ((Dist.length : Int) - 1))))) = true)) ∧ (((cond (cond (!(goodField Open Dist)) true (!(rising clients 0 ((Dist.length : Int) - 1)))) true (decide (r < 0))) = true → ((false = ((goodField Open Dist && rising clients 0 ((Dist.length : Int) - 1) && decide (0 ≤ r)) && farS Open.length Dist clients r)) ∧ (false = (goodField Open Dist && rising clients 0 ((Dist.length : Int) - 1) && decide (0 ≤ r))))) ∧ ((cond (cond (!(goodField Open Dist)) true (!(rising clients 0 ((Dist.length : Int) - 1)))) true (decide (r < 0))) = false → (PC Try.prog 120 [.agg [.sl (.ints Open), .sl (.rows Dist)], .sl (.ints clients), .int .i64 r] (.one (.d (.bool (farS Open.length Dist clients r))))) ∧ (((farS Open.length Dist clients r) = ((goodField Open Dist && rising clients 0 ((Dist.length : Int) - 1) && decide (0 ≤ r)) && farS Open.length Dist clients r)) ∧ (true = (goodField Open Dist && rising clients 0 ((Dist.length : Int) - 1) && decide (0 ≤ r))))))
theorem s_AreFarClients_vc (Open : List Int) (Dist : List (List Int)) (clients : List Int) (r : Int)  (w_Open : (Open.length : Int) ≤ 9223372036854775807) (w_Dist : (Dist.length : Int) ≤ 9223372036854775807) (v_Dist : ∀ x9 ∈ Dist, (x9.length : Int) ≤ 9223372036854775807) (w_clients : (clients.length : Int) ≤ 9223372036854775807) : s_AreFarClients_P Open Dist clients r := by
  unfold s_AreFarClients_P
  refine ⟨s_l2Good_pc Open Dist, id, id, id, ?_, id, id, fun _ => s_l1Rising_pc clients 0 ((Dist.length : Int) - 1), id, rfl, fun _ => rfl, ?_, id, rfl, fun _ => rfl, ?_, ?_, ?_⟩
  · intro _; omega
  · intro h; rw [h]; rfl
  · intro h; rw [h]; rfl
  · intro b1
    refine ⟨?_, ?_⟩
    · have hq : (goodField Open Dist && rising clients 0 ((Dist.length : Int) - 1) && decide (0 ≤ r)) = false := by
        revert b1; cases goodField Open Dist <;> cases rising clients 0 ((Dist.length : Int) - 1) <;> by_cases h : r < 0 <;> simp [h] <;> omega
      rw [hq]; rfl
    · have hq : (goodField Open Dist && rising clients 0 ((Dist.length : Int) - 1) && decide (0 ≤ r)) = false := by
        revert b1; cases goodField Open Dist <;> cases rising clients 0 ((Dist.length : Int) - 1) <;> by_cases h : r < 0 <;> simp [h] <;> omega
      exact hq.symm
  · intro b2
    refine ⟨?_, ?_, ?_⟩
    · refine s_l5Far_pc Open Dist clients r ?_ ?_
      · have hq : goodField Open Dist = true ∧ rising clients 0 ((Dist.length : Int) - 1) = true ∧ decide (0 ≤ r) = true := by
          revert b2; cases goodField Open Dist <;> cases rising clients 0 ((Dist.length : Int) - 1) <;> by_cases h : r < 0 <;> simp [h] <;> omega
        exact hq.1
      · have hq : goodField Open Dist = true ∧ rising clients 0 ((Dist.length : Int) - 1) = true ∧ decide (0 ≤ r) = true := by
          revert b2; cases goodField Open Dist <;> cases rising clients 0 ((Dist.length : Int) - 1) <;> by_cases h : r < 0 <;> simp [h] <;> omega
        exact hq.2.1
    · have hq : goodField Open Dist = true ∧ rising clients 0 ((Dist.length : Int) - 1) = true ∧ decide (0 ≤ r) = true := by
        revert b2; cases goodField Open Dist <;> cases rising clients 0 ((Dist.length : Int) - 1) <;> by_cases h : r < 0 <;> simp [h] <;> omega
      rw [hq.1, hq.2.1, hq.2.2]; rfl
    · have hq : goodField Open Dist = true ∧ rising clients 0 ((Dist.length : Int) - 1) = true ∧ decide (0 ≤ r) = true := by
        revert b2; cases goodField Open Dist <;> cases rising clients 0 ((Dist.length : Int) - 1) <;> by_cases h : r < 0 <;> simp [h] <;> omega
      rw [hq.1, hq.2.1, hq.2.2]; rfl
theorem s_AreFarClients_pc (Open : List Int) (Dist : List (List Int)) (clients : List Int) (r : Int)  : PC Try.prog 58 [.agg [.sl (.ints Open), .sl (.rows Dist)], .sl (.ints clients), .int .i64 r] (.tup [.d (.bool ((goodField Open Dist && rising clients 0 ((Dist.length : Int) - 1) && decide (0 ≤ r)) && farS Open.length Dist clients r)), .d (.bool (goodField Open Dist && rising clients 0 ((Dist.length : Int) - 1) && decide (0 ≤ r)))]) :=
  pc_wf @Try.call58 fun hw => pc_by (by kernel_rfl) Try.func58 @Try.call58 (by kernel_rfl) s_AreFarClients_C (s_AreFarClients_A Open Dist clients r) (by kernel_rfl) (s_AreFarClients_vc Open Dist clients r hw.1.1 hw.1.2.1.1 hw.1.2.1.2 hw.2.1) (by kernel_rfl)
def s_AreFarClients_orc : List D → Orc := orcN [none, some .ints, none] fun ds => match ds with
  | [.agg [.sl (.ints Open), .sl (.rows Dist)], .sl (.ints clients), .int .i64 r] => some (.tup [.d (.bool ((goodField Open Dist && rising clients 0 ((Dist.length : Int) - 1) && decide (0 ≤ r)) && farS Open.length Dist clients r)), .d (.bool (goodField Open Dist && rising clients 0 ((Dist.length : Int) - 1) && decide (0 ≤ r)))])
  | _ => none

def i_AreFarClients_C (f : FuncId) (ds : List D) : Orc := bif Nat.beq f 121 then i_isRadius_orc ds else bif Nat.beq f 90 then i_isRising_orc ds else bif Nat.beq f 122 then i_Field_areFar_orc ds else .no
def i_AreFarClients_A (Open : List Int) (Dist : List (List Int)) (clients : List Int) (r : Int) : Ann := .none
def i_AreFarClients_P (Open : List Int) (Dist : List (List Int)) (clients : List Int) (r : Int) : Prop :=
  (PC Try.prog 121 [.agg [.sl (.ints Open), .sl (.rows Dist)], .int .i64 r] (.one (.d (.bool (goodField Open Dist && decide (0 ≤ r)))))) ∧ ((!(!(goodField Open Dist && decide (0 ≤ r)))) = true → (!(!(goodField Open Dist && decide (0 ≤ r)))) = true) ∧ ((!(!(goodField Open Dist && decide (0 ≤ r)))) = true → (!(!(goodField Open Dist && decide (0 ≤ r)))) = true) ∧ ((!(!(goodField Open Dist && decide (0 ≤ r)))) = true → (!(!(goodField Open Dist && decide (0 ≤ r)))) = true) ∧ ((!(!(goodField Open Dist && decide (0 ≤ r)))) = true → (!(!(goodField Open Dist && decide (0 ≤ r)))) = true) ∧ ((!(!(goodField Open Dist && decide (0 ≤ r)))) = true → PC Try.prog 90 [.sl (.ints clients), .int .i64 (Dist.length : Int)] (.one (.d (.bool (rising clients 0 ((Dist.length : Int) - 1)))))) ∧ ((!(!(goodField Open Dist && decide (0 ≤ r)))) = true → (!(!(goodField Open Dist && decide (0 ≤ r)))) = true) ∧ (true = true) ∧ (((!(goodField Open Dist && decide (0 ≤ r))) = true → true = true)) ∧ (((!(goodField Open Dist && decide (0 ≤ r))) = false → (!(!(goodField Open Dist && decide (0 ≤ r)))) = true)) ∧ (((cond (!(goodField Open Dist && decide (0 ≤ r))) true (!(rising clients 0 ((Dist.length : Int) - 1)))) = true → ((false = ((goodField Open Dist && rising clients 0 ((Dist.length : Int) - 1) && decide (0 ≤ r)) && farS Open.length Dist clients r)) ∧ (false = (goodField Open Dist && rising clients 0 ((Dist.length : Int) - 1) && decide (0 ≤ r))))) ∧ ((cond (!(goodField Open Dist && decide (0 ≤ r))) true (!(rising clients 0 ((Dist.length : Int) - 1)))) = false → (PC Try.prog 122 [.agg [.sl (.ints Open), .sl (.rows Dist)], .sl (.ints clients), .int .i64 r] (.one (.d (.bool (farS Open.length Dist clients r))))) ∧ (((farS Open.length Dist clients r) = ((goodField Open Dist && rising clients 0 ((Dist.length : Int) - 1) && decide (0 ≤ r)) && farS Open.length Dist clients r)) ∧ (true = (goodField Open Dist && rising clients 0 ((Dist.length : Int) - 1) && decide (0 ≤ r))))))
theorem i_AreFarClients_vc (Open : List Int) (Dist : List (List Int)) (clients : List Int) (r : Int)  (w_Open : (Open.length : Int) ≤ 9223372036854775807) (w_Dist : (Dist.length : Int) ≤ 9223372036854775807) (v_Dist : ∀ x9 ∈ Dist, (x9.length : Int) ≤ 9223372036854775807) (w_clients : (clients.length : Int) ≤ 9223372036854775807) : i_AreFarClients_P Open Dist clients r := by
  unfold i_AreFarClients_P
  refine ⟨i_isRadius_pc Open Dist r, id, id, id, id, ?_, id, rfl, fun _ => rfl, ?_, ?_, ?_⟩
  · intro hg
    refine i_isRising_pc clients (Dist.length : Int) ?_
    · first | omega | rfl | (intro hg; simp only [nrmT] at hg; omega) | (intro g1 g2; simp [g1, g2]; done) | (intro g1; simp at g1 ⊢; simp [g1]; done) | (simp only [nrmT] at *; omega) | (simp at * <;> omega) | (simp_all <;> omega) | (simp_all; done)
  · intro h; rw [h]; rfl
  · intro b1
    refine ⟨?_, ?_⟩
    · have hq : (goodField Open Dist && rising clients 0 ((Dist.length : Int) - 1) && decide (0 ≤ r)) = false := by
        revert b1; cases goodField Open Dist <;> cases rising clients 0 ((Dist.length : Int) - 1) <;> cases decide (0 ≤ r) <;> simp
      rw [hq]; rfl
    · have hq : (goodField Open Dist && rising clients 0 ((Dist.length : Int) - 1) && decide (0 ≤ r)) = false := by
        revert b1; cases goodField Open Dist <;> cases rising clients 0 ((Dist.length : Int) - 1) <;> cases decide (0 ≤ r) <;> simp
      exact hq.symm
  · intro b2
    refine ⟨?_, ?_, ?_⟩
    · refine i_Field_areFar_pc Open Dist clients r ?_ ?_
      · have hq : goodField Open Dist = true ∧ rising clients 0 ((Dist.length : Int) - 1) = true ∧ decide (0 ≤ r) = true := by
          revert b2; cases goodField Open Dist <;> cases rising clients 0 ((Dist.length : Int) - 1) <;> cases decide (0 ≤ r) <;> simp
        exact hq.1
      · have hq : goodField Open Dist = true ∧ rising clients 0 ((Dist.length : Int) - 1) = true ∧ decide (0 ≤ r) = true := by
          revert b2; cases goodField Open Dist <;> cases rising clients 0 ((Dist.length : Int) - 1) <;> cases decide (0 ≤ r) <;> simp
        exact hq.2.1
    · have hq : goodField Open Dist = true ∧ rising clients 0 ((Dist.length : Int) - 1) = true ∧ decide (0 ≤ r) = true := by
        revert b2; cases goodField Open Dist <;> cases rising clients 0 ((Dist.length : Int) - 1) <;> cases decide (0 ≤ r) <;> simp
      rw [hq.1, hq.2.1, hq.2.2]; rfl
    · have hq : goodField Open Dist = true ∧ rising clients 0 ((Dist.length : Int) - 1) = true ∧ decide (0 ≤ r) = true := by
        revert b2; cases goodField Open Dist <;> cases rising clients 0 ((Dist.length : Int) - 1) <;> cases decide (0 ≤ r) <;> simp
      rw [hq.1, hq.2.1, hq.2.2]; rfl
theorem i_AreFarClients_pc (Open : List Int) (Dist : List (List Int)) (clients : List Int) (r : Int)  : PC Try.prog 59 [.agg [.sl (.ints Open), .sl (.rows Dist)], .sl (.ints clients), .int .i64 r] (.tup [.d (.bool ((goodField Open Dist && rising clients 0 ((Dist.length : Int) - 1) && decide (0 ≤ r)) && farS Open.length Dist clients r)), .d (.bool (goodField Open Dist && rising clients 0 ((Dist.length : Int) - 1) && decide (0 ≤ r)))]) :=
  pc_wf @Try.call59 fun hw => pc_by (by kernel_rfl) Try.func59 @Try.call59 (by kernel_rfl) i_AreFarClients_C (i_AreFarClients_A Open Dist clients r) (by kernel_rfl) (i_AreFarClients_vc Open Dist clients r hw.1.1 hw.1.2.1.1 hw.1.2.1.2 hw.2.1) (by kernel_rfl)
def i_AreFarClients_orc : List D → Orc := orcN [none, some .ints, none] fun ds => match ds with
  | [.agg [.sl (.ints Open), .sl (.rows Dist)], .sl (.ints clients), .int .i64 r] => some (.tup [.d (.bool ((goodField Open Dist && rising clients 0 ((Dist.length : Int) - 1) && decide (0 ≤ r)) && farS Open.length Dist clients r)), .d (.bool (goodField Open Dist && rising clients 0 ((Dist.length : Int) - 1) && decide (0 ≤ r)))])
  | _ => none

def l_FnExactAreFarClients_C (f : FuncId) (ds : List D) : Orc := bif Nat.beq f 37 then l_szField_orc ds else bif Nat.beq f 39 then l_toField_orc ds else bif Nat.beq f 40 then l_toIntS_orc ds else bif Nat.beq f 58 then s_AreFarClients_orc ds else bif Nat.beq f 59 then i_AreFarClients_orc ds else bif Nat.beq f 42 then l_eqField_orc ds else bif Nat.beq f 43 then l_eqIntS_orc ds else .no
def l_FnExactAreFarClients_A (Open : List Int) (Dist : List (List Int)) (clients : List Int) (r : Int) : Ann := .none
def l_FnExactAreFarClients_P (Open : List Int) (Dist : List (List Int)) (clients : List Int) (r : Int) : Prop :=
  (((decide ((clients.length : Int) > 1048576)) = true → ((true = true))) ∧ ((decide ((clients.length : Int) > 1048576)) = false → (PC Try.prog 37 [.agg [.sl (.ints Open), .sl (.rows Dist)], .int .i64 1048576] (.one (.d (.int .i64 (szField Open Dist 1048576))))) ∧ (((decide ((szField Open Dist 1048576) < 0)) = true → ((true = true))) ∧ ((decide ((szField Open Dist 1048576) < 0)) = false → (PC Try.prog 39 [.agg [.sl (.ints Open), .sl (.rows Dist)]] (.one (.d (.agg [.sl (.ints Open), .sl (.rows Dist)])))) ∧ (PC Try.prog 40 [.sl (.ints clients)] (.one (.d (.sl (.ints clients))))) ∧ (PC Try.prog 58 [.agg [.sl (.ints Open), .sl (.rows Dist)], .sl (.ints clients), .int .i64 r] (.tup [.d (.bool ((goodField Open Dist && rising clients 0 ((Dist.length : Int) - 1) && decide (0 ≤ r)) && farS Open.length Dist clients r)), .d (.bool (goodField Open Dist && rising clients 0 ((Dist.length : Int) - 1) && decide (0 ≤ r)))])) ∧ (PC Try.prog 39 [.agg [.sl (.ints Open), .sl (.rows Dist)]] (.one (.d (.agg [.sl (.ints Open), .sl (.rows Dist)])))) ∧ (PC Try.prog 40 [.sl (.ints clients)] (.one (.d (.sl (.ints clients))))) ∧ (PC Try.prog 59 [.agg [.sl (.ints Open), .sl (.rows Dist)], .sl (.ints clients), .int .i64 r] (.tup [.d (.bool ((goodField Open Dist && rising clients 0 ((Dist.length : Int) - 1) && decide (0 ≤ r)) && farS Open.length Dist clients r)), .d (.bool (goodField Open Dist && rising clients 0 ((Dist.length : Int) - 1) && decide (0 ≤ r)))])) ∧ ((!(((goodField Open Dist && rising clients 0 ((Dist.length : Int) - 1) && decide (0 ≤ r)) && farS Open.length Dist clients r) != ((goodField Open Dist && rising clients 0 ((Dist.length : Int) - 1) && decide (0 ≤ r)) && farS Open.length Dist clients r))) = true → (!(((goodField Open Dist && rising clients 0 ((Dist.length : Int) - 1) && decide (0 ≤ r)) && farS Open.length Dist clients r) != ((goodField Open Dist && rising clients 0 ((Dist.length : Int) - 1) && decide (0 ≤ r)) && farS Open.length Dist clients r))) = true) ∧ ((!(((goodField Open Dist && rising clients 0 ((Dist.length : Int) - 1) && decide (0 ≤ r)) && farS Open.length Dist clients r) != ((goodField Open Dist && rising clients 0 ((Dist.length : Int) - 1) && decide (0 ≤ r)) && farS Open.length Dist clients r))) = true → (!(((goodField Open Dist && rising clients 0 ((Dist.length : Int) - 1) && decide (0 ≤ r)) && farS Open.length Dist clients r) != ((goodField Open Dist && rising clients 0 ((Dist.length : Int) - 1) && decide (0 ≤ r)) && farS Open.length Dist clients r))) = true) ∧ (true = true) ∧ (((((goodField Open Dist && rising clients 0 ((Dist.length : Int) - 1) && decide (0 ≤ r)) && farS Open.length Dist clients r) != ((goodField Open Dist && rising clients 0 ((Dist.length : Int) - 1) && decide (0 ≤ r)) && farS Open.length Dist clients r)) = true → true = true)) ∧ (((((goodField Open Dist && rising clients 0 ((Dist.length : Int) - 1) && decide (0 ≤ r)) && farS Open.length Dist clients r) != ((goodField Open Dist && rising clients 0 ((Dist.length : Int) - 1) && decide (0 ≤ r)) && farS Open.length Dist clients r)) = false → (!(((goodField Open Dist && rising clients 0 ((Dist.length : Int) - 1) && decide (0 ≤ r)) && farS Open.length Dist clients r) != ((goodField Open Dist && rising clients 0 ((Dist.length : Int) - 1) && decide (0 ≤ r)) && farS Open.length Dist clients r))) = true)) ∧ (((cond (((goodField Open Dist && rising clients 0 ((Dist.length : Int) - 1) && decide (0 ≤ r)) && farS Open.length Dist clients r) != ((goodField Open Dist && rising clients 0 ((Dist.length : Int) - 1) && decide (0 ≤ r)) && farS Open.length Dist clients r)) true ((goodField Open Dist && rising clients 0 ((Dist.length : Int) - 1) && decide (0 ≤ r)) != (goodField Open Dist && rising clients 0 ((Dist.length : Int) - 1) && decide (0 ≤ r)))) = true → ((false = true))) ∧ ((cond (((goodField Open Dist && rising clients 0 ((Dist.length : Int) - 1) && decide (0 ≤ r)) && farS Open.length Dist clients r) != ((goodField Open Dist && rising clients 0 ((Dist.length : Int) - 1) && decide (0 ≤ r)) && farS Open.length Dist clients r)) true ((goodField Open Dist && rising clients 0 ((Dist.length : Int) - 1) && decide (0 ≤ r)) != (goodField Open Dist && rising clients 0 ((Dist.length : Int) - 1) && decide (0 ≤ r)))) = false → (true = true) ∧ (PC Try.prog 39 [.agg [.sl (.ints Open), .sl (.rows Dist)]] (.one (.d (.agg [.sl (.ints Open), .sl (.rows Dist)])))) ∧ (PC Try.prog 42 [.agg [.sl (.ints Open), .sl (.rows Dist)], .agg [.sl (.ints Open), .sl (.rows Dist)]] (.one (.d (.bool ((Open == Open) && (Dist == Dist)))))) ∧ (((!((Open == Open) && (Dist == Dist))) = true → ((false = true))) ∧ ((!((Open == Open) && (Dist == Dist))) = false → (PC Try.prog 40 [.sl (.ints clients)] (.one (.d (.sl (.ints clients))))) ∧ (PC Try.prog 43 [.sl (.ints clients), .sl (.ints clients)] (.one (.d (.bool (clients == clients))))) ∧ (((!(clients == clients)) = true → ((false = true))) ∧ ((!(clients == clients)) = false → ((true = true))))))))))))
theorem l_FnExactAreFarClients_vc (Open : List Int) (Dist : List (List Int)) (clients : List Int) (r : Int)  (w_Open : (Open.length : Int) ≤ 9223372036854775807) (w_Dist : (Dist.length : Int) ≤ 9223372036854775807) (v_Dist : ∀ x9 ∈ Dist, (x9.length : Int) ≤ 9223372036854775807) (w_clients : (clients.length : Int) ≤ 9223372036854775807) : l_FnExactAreFarClients_P Open Dist clients r := by
  unfold l_FnExactAreFarClients_P
  refine ⟨?_, ?_⟩
  · intro b1
    try simp only [nrmT] at b1
    exact rfl
  · intro b2
    try simp only [nrmT] at b2
    refine ⟨?_, ?_, ?_⟩
    · refine l_szField_pc Open Dist 1048576 ?_
      · first | omega | rfl | (intro hg; simp only [nrmT] at hg; omega) | (intro g1 g2; simp [g1, g2]; done) | (intro g1; simp at g1 ⊢; simp [g1]; done) | (simp only [nrmT] at *; omega) | (simp at * <;> omega) | (simp_all <;> omega) | (simp_all; done)
    · intro b3
      try simp only [nrmT] at b3
      exact rfl
    · intro b4
      try simp only [nrmT] at b4
      refine ⟨?_, ?_, s_AreFarClients_pc Open Dist clients r, ?_, ?_, i_AreFarClients_pc Open Dist clients r, id, id, rfl, fun _ => rfl, ?_, ?_, ?_⟩
      · refine l_toField_pc Open Dist ?_ ?_ ?_
        · have := szField_bound b4; omega
        · have := szField_bound b4; omega
        · have h := (szField_bound b4).2.2
          intro xs hx
          have h := h xs hx
          omega
      · refine l_toIntS_pc clients ?_
        · first | omega | rfl | (intro hg; simp only [nrmT] at hg; omega) | (intro g1 g2; simp [g1, g2]; done) | (intro g1; simp at g1 ⊢; simp [g1]; done) | (simp only [nrmT] at *; omega) | (simp at * <;> omega) | (simp_all <;> omega) | (simp_all; done)
      · refine l_toField_pc Open Dist ?_ ?_ ?_
        · have := szField_bound b4; omega
        · have := szField_bound b4; omega
        · have h := (szField_bound b4).2.2
          intro xs hx
          have h := h xs hx
          omega
      · refine l_toIntS_pc clients ?_
        · first | omega | rfl | (intro hg; simp only [nrmT] at hg; omega) | (intro g1 g2; simp [g1, g2]; done) | (intro g1; simp at g1 ⊢; simp [g1]; done) | (simp only [nrmT] at *; omega) | (simp at * <;> omega) | (simp_all <;> omega) | (simp_all; done)
      · first | omega | rfl | (intro hg; simp only [nrmT] at hg; omega) | (intro g1 g2; simp [g1, g2]; done) | (intro g1; simp at g1 ⊢; simp [g1]; done) | (simp only [nrmT] at *; omega) | (simp at * <;> omega) | (simp_all <;> omega) | (simp_all; done)
      · intro b5
        first | omega | rfl | (intro hg; simp only [nrmT] at hg; omega) | (intro g1 g2; simp [g1, g2]; done) | (intro g1; simp at g1 ⊢; simp [g1]; done) | (simp only [nrmT] at *; omega) | (simp at * <;> omega) | (simp_all <;> omega) | (simp_all; done)
      · intro b6
        refine ⟨rfl, ?_, l_eqField_pc Open Dist Open Dist, ?_, ?_⟩
        · refine l_toField_pc Open Dist ?_ ?_ ?_
          · have := szField_bound b4; omega
          · have := szField_bound b4; omega
          · have h := (szField_bound b4).2.2
            intro xs hx
            have h := h xs hx
            omega
        · intro b7
          try simp only [Bool.not_eq_true', Bool.not_eq_false', Bool.not_not] at b7
          first | omega | rfl | (intro hg; simp only [nrmT] at hg; omega) | (intro g1 g2; simp [g1, g2]; done) | (intro g1; simp at g1 ⊢; simp [g1]; done) | (simp only [nrmT] at *; omega) | (simp at * <;> omega) | (simp_all <;> omega) | (simp_all; done)
        · intro b8
          try simp only [Bool.not_eq_true', Bool.not_eq_false', Bool.not_not] at b8
          refine ⟨?_, l_eqIntS_pc clients clients, ?_, ?_⟩
          · refine l_toIntS_pc clients ?_
            · first | omega | rfl | (intro hg; simp only [nrmT] at hg; omega) | (intro g1 g2; simp [g1, g2]; done) | (intro g1; simp at g1 ⊢; simp [g1]; done) | (simp only [nrmT] at *; omega) | (simp at * <;> omega) | (simp_all <;> omega) | (simp_all; done)
          · intro b9
            try simp only [nrmT] at b9
            first | omega | rfl | (intro hg; simp only [nrmT] at hg; omega) | (intro g1 g2; simp [g1, g2]; done) | (intro g1; simp at g1 ⊢; simp [g1]; done) | (simp only [nrmT] at *; omega) | (simp at * <;> omega) | (simp_all <;> omega) | (simp_all; done)
          · intro b10
            try simp only [nrmT] at b10
            exact rfl
theorem l_FnExactAreFarClients_pc (Open : List Int) (Dist : List (List Int)) (clients : List Int) (r : Int)  : PC Try.prog 13 [.agg [.sl (.ints Open), .sl (.rows Dist)], .sl (.ints clients), .int .i64 r] (.one (.d (.bool true))) :=
  pc_wf @Try.call13 fun hw => pc_by (by kernel_rfl) Try.func13 @Try.call13 (by kernel_rfl) l_FnExactAreFarClients_C (l_FnExactAreFarClients_A Open Dist clients r) (by kernel_rfl) (l_FnExactAreFarClients_vc Open Dist clients r hw.1.1 hw.1.2.1.1 hw.1.2.1.2 hw.2.1) (by kernel_rfl)
def l_FnExactAreFarClients_orc : List D → Orc := orcN [none, some .ints, none] fun ds => match ds with
  | [.agg [.sl (.ints Open), .sl (.rows Dist)], .sl (.ints clients), .int .i64 r] => some (.one (.d (.bool true)))
  | _ => none

end Go.Proofs.Ytmcbcomcejgbcaa
