/- Contracts of the functions that the law reaches. -/
import Derived.Test.YtijdbfbeobflnaaKIsFlow1
import Derived.KernelRfl
set_option linter.unusedVariables false
set_option linter.unusedSimpArgs false
namespace Go.Proofs.Ytijdbfbeobflnaa
open Go

def l_FnExactIsFlow_P (Open : List Int) (Dist : List (List Int)) (rooms : List Int) (needs : List Int) (set : List Int) (flow : List (List Int)) : Prop :=
  (((decide ((rooms.length : Int) > 1048576)) = true → ((true = true))) ∧ ((decide ((rooms.length : Int) > 1048576)) = false → (((decide ((needs.length : Int) > 1048576)) = true → ((true = true))) ∧ ((decide ((needs.length : Int) > 1048576)) = false → (((decide ((set.length : Int) > 1048576)) = true → ((true = true))) ∧ ((decide ((set.length : Int) > 1048576)) = false → (PC Try.prog 40 [.agg [.sl (.ints Open), .sl (.rows Dist)], .int .i64 1048576] (.one (.d (.int .i64 (szField Open Dist 1048576))))) ∧ (((decide ((szField Open Dist 1048576) < 0)) = true → ((true = true))) ∧ ((decide ((szField Open Dist 1048576) < 0)) = false → (PC Try.prog 65 [.sl (.rows flow), .int .i64 (szField Open Dist 1048576)] (.one (.d (.int .i64 (szRows flow (szField Open Dist 1048576)))))) ∧ (((decide ((szRows flow (szField Open Dist 1048576)) < 0)) = true → ((true = true))) ∧ ((decide ((szRows flow (szField Open Dist 1048576)) < 0)) = false → (PC Try.prog 42 [.agg [.sl (.ints Open), .sl (.rows Dist)]] (.one (.d (.agg [.sl (.ints Open), .sl (.rows Dist)])))) ∧ (PC Try.prog 38 [.sl (.ints rooms)] (.one (.d (.sl (.ints rooms))))) ∧ (PC Try.prog 38 [.sl (.ints needs)] (.one (.d (.sl (.ints needs))))) ∧ (PC Try.prog 38 [.sl (.ints set)] (.one (.d (.sl (.ints set))))) ∧ (PC Try.prog 67 [.sl (.rows flow)] (.one (.d (.sl (.rows flow))))) ∧ (PC Try.prog 66 [.agg [.sl (.ints Open), .sl (.rows Dist)], .sl (.ints rooms), .sl (.ints needs), .sl (.ints set), .sl (.rows flow)] (.tup [.d (.bool (((goodField Open Dist && rising set 0 ((Open.length : Int) - 1) && decide (0 < set.length)) && (rowOk rooms (Open.length : Int) 20 && rowOk needs (Dist.length : Int) 5)) && flowGood Open.length Dist.length rooms needs set flow)), .d (.bool ((goodField Open Dist && rising set 0 ((Open.length : Int) - 1) && decide (0 < set.length)) && (rowOk rooms (Open.length : Int) 20 && rowOk needs (Dist.length : Int) 5)))])) ∧ (PC Try.prog 42 [.agg [.sl (.ints Open), .sl (.rows Dist)]] (.one (.d (.agg [.sl (.ints Open), .sl (.rows Dist)])))) ∧ (PC Try.prog 38 [.sl (.ints rooms)] (.one (.d (.sl (.ints rooms))))) ∧ (PC Try.prog 38 [.sl (.ints needs)] (.one (.d (.sl (.ints needs))))) ∧ (PC Try.prog 38 [.sl (.ints set)] (.one (.d (.sl (.ints set))))) ∧ (PC Try.prog 67 [.sl (.rows flow)] (.one (.d (.sl (.rows flow))))) ∧ (PC Try.prog 68 [.agg [.sl (.ints Open), .sl (.rows Dist)], .sl (.ints rooms), .sl (.ints needs), .sl (.ints set), .sl (.rows flow)] (.tup [.d (.bool (((goodField Open Dist && rising set 0 ((Open.length : Int) - 1) && decide (0 < set.length)) && (rowOk rooms (Open.length : Int) 20 && rowOk needs (Dist.length : Int) 5)) && flowGood Open.length Dist.length rooms needs set flow)), .d (.bool ((goodField Open Dist && rising set 0 ((Open.length : Int) - 1) && decide (0 < set.length)) && (rowOk rooms (Open.length : Int) 20 && rowOk needs (Dist.length : Int) 5)))])) ∧ ((!((((goodField Open Dist && rising set 0 ((Open.length : Int) - 1) && decide (0 < set.length)) && (rowOk rooms (Open.length : Int) 20 && rowOk needs (Dist.length : Int) 5)) && flowGood Open.length Dist.length rooms needs set flow) != (((goodField Open Dist && rising set 0 ((Open.length : Int) - 1) && decide (0 < set.length)) && (rowOk rooms (Open.length : Int) 20 && rowOk needs (Dist.length : Int) 5)) && flowGood Open.length Dist.length rooms needs set flow))) = true → (!((((goodField Open Dist && rising set 0 ((Open.length : Int) - 1) && decide (0 < set.length)) && (rowOk rooms (Open.length : Int) 20 && rowOk needs (Dist.length : Int) 5)) && flowGood Open.length Dist.length rooms needs set flow) != (((goodField Open Dist && rising set 0 ((Open.length : Int) - 1) && decide (0 < set.length)) && (rowOk rooms (Open.length : Int) 20 && rowOk needs (Dist.length : Int) 5)) && flowGood Open.length Dist.length rooms needs set flow))) = true) ∧ ((!((((goodField Open Dist && rising set 0 ((Open.length : Int) - 1) && decide (0 < set.length)) && (rowOk rooms (Open.length : Int) 20 && rowOk needs (Dist.length : Int) 5)) && flowGood Open.length Dist.length rooms needs set flow) != (((goodField Open Dist && rising set 0 ((Open.length : Int) - 1) && decide (0 < set.length)) && (rowOk rooms (Open.length : Int) 20 && rowOk needs (Dist.length : Int) 5)) && flowGood Open.length Dist.length rooms needs set flow))) = true → (!((((goodField Open Dist && rising set 0 ((Open.length : Int) - 1) && decide (0 < set.length)) && (rowOk rooms (Open.length : Int) 20 && rowOk needs (Dist.length : Int) 5)) && flowGood Open.length Dist.length rooms needs set flow) != (((goodField Open Dist && rising set 0 ((Open.length : Int) - 1) && decide (0 < set.length)) && (rowOk rooms (Open.length : Int) 20 && rowOk needs (Dist.length : Int) 5)) && flowGood Open.length Dist.length rooms needs set flow))) = true) ∧ (true = true) ∧ ((((((goodField Open Dist && rising set 0 ((Open.length : Int) - 1) && decide (0 < set.length)) && (rowOk rooms (Open.length : Int) 20 && rowOk needs (Dist.length : Int) 5)) && flowGood Open.length Dist.length rooms needs set flow) != (((goodField Open Dist && rising set 0 ((Open.length : Int) - 1) && decide (0 < set.length)) && (rowOk rooms (Open.length : Int) 20 && rowOk needs (Dist.length : Int) 5)) && flowGood Open.length Dist.length rooms needs set flow)) = true → true = true)) ∧ ((((((goodField Open Dist && rising set 0 ((Open.length : Int) - 1) && decide (0 < set.length)) && (rowOk rooms (Open.length : Int) 20 && rowOk needs (Dist.length : Int) 5)) && flowGood Open.length Dist.length rooms needs set flow) != (((goodField Open Dist && rising set 0 ((Open.length : Int) - 1) && decide (0 < set.length)) && (rowOk rooms (Open.length : Int) 20 && rowOk needs (Dist.length : Int) 5)) && flowGood Open.length Dist.length rooms needs set flow)) = false → (!((((goodField Open Dist && rising set 0 ((Open.length : Int) - 1) && decide (0 < set.length)) && (rowOk rooms (Open.length : Int) 20 && rowOk needs (Dist.length : Int) 5)) && flowGood Open.length Dist.length rooms needs set flow) != (((goodField Open Dist && rising set 0 ((Open.length : Int) - 1) && decide (0 < set.length)) && (rowOk rooms (Open.length : Int) 20 && rowOk needs (Dist.length : Int) 5)) && flowGood Open.length Dist.length rooms needs set flow))) = true)) ∧ (((cond ((((goodField Open Dist && rising set 0 ((Open.length : Int) - 1) && decide (0 < set.length)) && (rowOk rooms (Open.length : Int) 20 && rowOk needs (Dist.length : Int) 5)) && flowGood Open.length Dist.length rooms needs set flow) != (((goodField Open Dist && rising set 0 ((Open.length : Int) - 1) && decide (0 < set.length)) && (rowOk rooms (Open.length : Int) 20 && rowOk needs (Dist.length : Int) 5)) && flowGood Open.length Dist.length rooms needs set flow)) true (((goodField Open Dist && rising set 0 ((Open.length : Int) - 1) && decide (0 < set.length)) && (rowOk rooms (Open.length : Int) 20 && rowOk needs (Dist.length : Int) 5)) != ((goodField Open Dist && rising set 0 ((Open.length : Int) - 1) && decide (0 < set.length)) && (rowOk rooms (Open.length : Int) 20 && rowOk needs (Dist.length : Int) 5)))) = true → ((false = true))) ∧ ((cond ((((goodField Open Dist && rising set 0 ((Open.length : Int) - 1) && decide (0 < set.length)) && (rowOk rooms (Open.length : Int) 20 && rowOk needs (Dist.length : Int) 5)) && flowGood Open.length Dist.length rooms needs set flow) != (((goodField Open Dist && rising set 0 ((Open.length : Int) - 1) && decide (0 < set.length)) && (rowOk rooms (Open.length : Int) 20 && rowOk needs (Dist.length : Int) 5)) && flowGood Open.length Dist.length rooms needs set flow)) true (((goodField Open Dist && rising set 0 ((Open.length : Int) - 1) && decide (0 < set.length)) && (rowOk rooms (Open.length : Int) 20 && rowOk needs (Dist.length : Int) 5)) != ((goodField Open Dist && rising set 0 ((Open.length : Int) - 1) && decide (0 < set.length)) && (rowOk rooms (Open.length : Int) 20 && rowOk needs (Dist.length : Int) 5)))) = false → (true = true) ∧ (PC Try.prog 42 [.agg [.sl (.ints Open), .sl (.rows Dist)]] (.one (.d (.agg [.sl (.ints Open), .sl (.rows Dist)])))) ∧ (PC Try.prog 44 [.agg [.sl (.ints Open), .sl (.rows Dist)], .agg [.sl (.ints Open), .sl (.rows Dist)]] (.one (.d (.bool ((Open == Open) && (Dist == Dist)))))) ∧ (((!((Open == Open) && (Dist == Dist))) = true → ((false = true))) ∧ ((!((Open == Open) && (Dist == Dist))) = false → (PC Try.prog 38 [.sl (.ints rooms)] (.one (.d (.sl (.ints rooms))))) ∧ (PC Try.prog 32 [.sl (.ints rooms), .sl (.ints rooms)] (.one (.d (.bool (rooms == rooms))))) ∧ (((!(rooms == rooms)) = true → ((false = true))) ∧ ((!(rooms == rooms)) = false → (PC Try.prog 38 [.sl (.ints needs)] (.one (.d (.sl (.ints needs))))) ∧ (PC Try.prog 32 [.sl (.ints needs), .sl (.ints needs)] (.one (.d (.bool (needs == needs))))) ∧ (((!(needs == needs)) = true → ((false = true))) ∧ ((!(needs == needs)) = false → (PC Try.prog 38 [.sl (.ints set)] (.one (.d (.sl (.ints set))))) ∧ (PC Try.prog 32 [.sl (.ints set), .sl (.ints set)] (.one (.d (.bool (set == set))))) ∧ (((!(set == set)) = true → ((false = true))) ∧ ((!(set == set)) = false → (PC Try.prog 67 [.sl (.rows flow)] (.one (.d (.sl (.rows flow))))) ∧ (PC Try.prog 69 [.sl (.rows flow), .sl (.rows flow)] (.one (.d (.bool (flow == flow))))) ∧ (((!(flow == flow)) = true → ((false = true))) ∧ ((!(flow == flow)) = false → ((true = true))))))))))))))))))))))))
theorem l_FnExactIsFlow_vc (Open : List Int) (Dist : List (List Int)) (rooms : List Int) (needs : List Int) (set : List Int) (flow : List (List Int))  (w_Open : (Open.length : Int) ≤ 9223372036854775807) (w_Dist : (Dist.length : Int) ≤ 9223372036854775807) (v_Dist : ∀ x9 ∈ Dist, (x9.length : Int) ≤ 9223372036854775807) (w_rooms : (rooms.length : Int) ≤ 9223372036854775807) (w_needs : (needs.length : Int) ≤ 9223372036854775807) (w_set : (set.length : Int) ≤ 9223372036854775807) (w_flow : (flow.length : Int) ≤ 9223372036854775807) (v_flow : ∀ x9 ∈ flow, (x9.length : Int) ≤ 9223372036854775807) : l_FnExactIsFlow_P Open Dist rooms needs set flow := by
  unfold l_FnExactIsFlow_P
  refine ⟨?_, ?_⟩
  · intro b1
    try simp only [nrmT] at b1
    exact rfl
  · intro b2
    try simp only [nrmT] at b2
    refine ⟨?_, ?_⟩
    · intro b3
      try simp only [nrmT] at b3
      exact rfl
    · intro b4
      try simp only [nrmT] at b4
      refine ⟨?_, ?_⟩
      · intro b5
        try simp only [nrmT] at b5
        exact rfl
      · intro b6
        try simp only [nrmT] at b6
        refine ⟨?_, ?_, ?_⟩
        · refine l_szField_pc Open Dist 1048576 ?_
          · first | omega | rfl | (intro hg; simp only [nrmT] at hg; omega) | (intro g1 g2; simp [g1, g2]; done) | (intro g1; simp at g1 ⊢; simp [g1]; done) | (simp only [nrmT] at *; omega) | (simp at * <;> omega) | (simp_all <;> omega) | (simp_all; done)
        · intro b7
          try simp only [nrmT] at b7
          exact rfl
        · intro b8
          try simp only [nrmT] at b8
          refine ⟨?_, ?_, ?_⟩
          · refine l_szIntSS_pc flow (szField Open Dist 1048576) ?_
            · have := szField_le (o := Open) (d := Dist) (left := 1048576) (by omega)
              omega
          · intro b9
            try simp only [nrmT] at b9
            exact rfl
          · intro b10
            try simp only [nrmT] at b10
            refine ⟨?_, ?_, ?_, ?_, ?_, s_IsFlow_pc Open Dist rooms needs set flow, ?_, ?_, ?_, ?_, ?_, i_IsFlow_pc Open Dist rooms needs set flow, id, id, rfl, fun _ => rfl, ?_, ?_, ?_⟩
            · refine l_toField_pc Open Dist ?_ ?_ ?_
              · have := szField_bound b8; omega
              · have := szField_bound b8; omega
              · have h := (szField_bound b8).2.2
                intro xs hx
                have h := h xs hx
                omega
            · refine l_toIntS_pc rooms ?_
              · first | omega | rfl | (intro hg; simp only [nrmT] at hg; omega) | (intro g1 g2; simp [g1, g2]; done) | (intro g1; simp at g1 ⊢; simp [g1]; done) | (simp only [nrmT] at *; omega) | (simp at * <;> omega) | (simp_all <;> omega) | (simp_all; done)
            · refine l_toIntS_pc needs ?_
              · first | omega | rfl | (intro hg; simp only [nrmT] at hg; omega) | (intro g1 g2; simp [g1, g2]; done) | (intro g1; simp at g1 ⊢; simp [g1]; done) | (simp only [nrmT] at *; omega) | (simp at * <;> omega) | (simp_all <;> omega) | (simp_all; done)
            · refine l_toIntS_pc set ?_
              · first | omega | rfl | (intro hg; simp only [nrmT] at hg; omega) | (intro g1 g2; simp [g1, g2]; done) | (intro g1; simp at g1 ⊢; simp [g1]; done) | (simp only [nrmT] at *; omega) | (simp at * <;> omega) | (simp_all <;> omega) | (simp_all; done)
            · refine l_toIntSS_pc flow ?_ ?_
              · have hf1 := szField_le (o := Open) (d := Dist) (left := 1048576) (by omega)
                have hf := szRows_bound (xss := flow) (left := szField Open Dist 1048576) (by omega)
                omega
              · have hf1 := szField_le (o := Open) (d := Dist) (left := 1048576) (by omega)
                have hf := szRows_bound (xss := flow) (left := szField Open Dist 1048576) (by omega)
                intro xs hx
                have h := hf.2.2 xs hx
                omega
            · refine l_toField_pc Open Dist ?_ ?_ ?_
              · have := szField_bound b8; omega
              · have := szField_bound b8; omega
              · have h := (szField_bound b8).2.2
                intro xs hx
                have h := h xs hx
                omega
            · refine l_toIntS_pc rooms ?_
              · first | omega | rfl | (intro hg; simp only [nrmT] at hg; omega) | (intro g1 g2; simp [g1, g2]; done) | (intro g1; simp at g1 ⊢; simp [g1]; done) | (simp only [nrmT] at *; omega) | (simp at * <;> omega) | (simp_all <;> omega) | (simp_all; done)
            · refine l_toIntS_pc needs ?_
              · first | omega | rfl | (intro hg; simp only [nrmT] at hg; omega) | (intro g1 g2; simp [g1, g2]; done) | (intro g1; simp at g1 ⊢; simp [g1]; done) | (simp only [nrmT] at *; omega) | (simp at * <;> omega) | (simp_all <;> omega) | (simp_all; done)
            · refine l_toIntS_pc set ?_
              · first | omega | rfl | (intro hg; simp only [nrmT] at hg; omega) | (intro g1 g2; simp [g1, g2]; done) | (intro g1; simp at g1 ⊢; simp [g1]; done) | (simp only [nrmT] at *; omega) | (simp at * <;> omega) | (simp_all <;> omega) | (simp_all; done)
            · refine l_toIntSS_pc flow ?_ ?_
              · have hf1 := szField_le (o := Open) (d := Dist) (left := 1048576) (by omega)
                have hf := szRows_bound (xss := flow) (left := szField Open Dist 1048576) (by omega)
                omega
              · have hf1 := szField_le (o := Open) (d := Dist) (left := 1048576) (by omega)
                have hf := szRows_bound (xss := flow) (left := szField Open Dist 1048576) (by omega)
                intro xs hx
                have h := hf.2.2 xs hx
                omega
            · intro h; rw [h]; rfl
            · intro b11
              first | (simp at b11; done) | omega | rfl | (intro hg; simp only [nrmT] at hg; omega) | (intro g1 g2; simp [g1, g2]; done) | (intro g1; simp at g1 ⊢; simp [g1]; done) | (simp only [nrmT] at *; omega) | (simp at * <;> omega) | (simp_all <;> omega) | (simp_all; done)
            · intro b12
              refine ⟨rfl, ?_, l_eqField_pc Open Dist Open Dist, ?_, ?_⟩
              · refine l_toField_pc Open Dist ?_ ?_ ?_
                · have := szField_bound b8; omega
                · have := szField_bound b8; omega
                · have h := (szField_bound b8).2.2
                  intro xs hx
                  have h := h xs hx
                  omega
              · intro b13
                try simp only [Bool.not_eq_true', Bool.not_eq_false', Bool.not_not] at b13
                first | (simp at b13; done) | omega | rfl | (intro hg; simp only [nrmT] at hg; omega) | (intro g1 g2; simp [g1, g2]; done) | (intro g1; simp at g1 ⊢; simp [g1]; done) | (simp only [nrmT] at *; omega) | (simp at * <;> omega) | (simp_all <;> omega) | (simp_all; done)
              · intro b14
                try simp only [Bool.not_eq_true', Bool.not_eq_false', Bool.not_not] at b14
                refine ⟨?_, l_eqIntS_pc rooms rooms, ?_, ?_⟩
                · refine l_toIntS_pc rooms ?_
                  · first | omega | rfl | (intro hg; simp only [nrmT] at hg; omega) | (intro g1 g2; simp [g1, g2]; done) | (intro g1; simp at g1 ⊢; simp [g1]; done) | (simp only [nrmT] at *; omega) | (simp at * <;> omega) | (simp_all <;> omega) | (simp_all; done)
                · intro b15
                  try simp only [nrmT] at b15
                  first | (simp at b15; done) | omega | rfl | (intro hg; simp only [nrmT] at hg; omega) | (intro g1 g2; simp [g1, g2]; done) | (intro g1; simp at g1 ⊢; simp [g1]; done) | (simp only [nrmT] at *; omega) | (simp at * <;> omega) | (simp_all <;> omega) | (simp_all; done)
                · intro b16
                  try simp only [nrmT] at b16
                  refine ⟨?_, l_eqIntS_pc needs needs, ?_, ?_⟩
                  · refine l_toIntS_pc needs ?_
                    · first | omega | rfl | (intro hg; simp only [nrmT] at hg; omega) | (intro g1 g2; simp [g1, g2]; done) | (intro g1; simp at g1 ⊢; simp [g1]; done) | (simp only [nrmT] at *; omega) | (simp at * <;> omega) | (simp_all <;> omega) | (simp_all; done)
                  · intro b17
                    try simp only [nrmT] at b17
                    first | (simp at b17; done) | omega | rfl | (intro hg; simp only [nrmT] at hg; omega) | (intro g1 g2; simp [g1, g2]; done) | (intro g1; simp at g1 ⊢; simp [g1]; done) | (simp only [nrmT] at *; omega) | (simp at * <;> omega) | (simp_all <;> omega) | (simp_all; done)
                  · intro b18
                    try simp only [nrmT] at b18
                    refine ⟨?_, l_eqIntS_pc set set, ?_, ?_⟩
                    · refine l_toIntS_pc set ?_
                      · first | omega | rfl | (intro hg; simp only [nrmT] at hg; omega) | (intro g1 g2; simp [g1, g2]; done) | (intro g1; simp at g1 ⊢; simp [g1]; done) | (simp only [nrmT] at *; omega) | (simp at * <;> omega) | (simp_all <;> omega) | (simp_all; done)
                    · intro b19
                      try simp only [nrmT] at b19
                      first | (simp at b19; done) | omega | rfl | (intro hg; simp only [nrmT] at hg; omega) | (intro g1 g2; simp [g1, g2]; done) | (intro g1; simp at g1 ⊢; simp [g1]; done) | (simp only [nrmT] at *; omega) | (simp at * <;> omega) | (simp_all <;> omega) | (simp_all; done)
                    · intro b20
                      try simp only [nrmT] at b20
                      refine ⟨?_, l_eqIntSS_pc flow flow, ?_, ?_⟩
                      · refine l_toIntSS_pc flow ?_ ?_
                        · have hf1 := szField_le (o := Open) (d := Dist) (left := 1048576) (by omega)
                          have hf := szRows_bound (xss := flow) (left := szField Open Dist 1048576) (by omega)
                          omega
                        · have hf1 := szField_le (o := Open) (d := Dist) (left := 1048576) (by omega)
                          have hf := szRows_bound (xss := flow) (left := szField Open Dist 1048576) (by omega)
                          intro xs hx
                          have h := hf.2.2 xs hx
                          omega
                      · intro b21
                        try simp only [nrmT] at b21
                        first | (simp at b21; done) | omega | rfl | (intro hg; simp only [nrmT] at hg; omega) | (intro g1 g2; simp [g1, g2]; done) | (intro g1; simp at g1 ⊢; simp [g1]; done) | (simp only [nrmT] at *; omega) | (simp at * <;> omega) | (simp_all <;> omega) | (simp_all; done)
                      · intro b22
                        try simp only [nrmT] at b22
                        exact rfl
theorem l_FnExactIsFlow_pc (Open : List Int) (Dist : List (List Int)) (rooms : List Int) (needs : List Int) (set : List Int) (flow : List (List Int))  : PC Try.prog 15 [.agg [.sl (.ints Open), .sl (.rows Dist)], .sl (.ints rooms), .sl (.ints needs), .sl (.ints set), .sl (.rows flow)] (.one (.d (.bool true))) :=
  pc_wf @Try.call15 fun hw => pc_by (by kernel_rfl) Try.func15 @Try.call15 (by kernel_rfl) l_FnExactIsFlow_C (l_FnExactIsFlow_A Open Dist rooms needs set flow) (by kernel_rfl) (l_FnExactIsFlow_vc Open Dist rooms needs set flow hw.1.1 hw.1.2.1.1 hw.1.2.1.2 hw.2.1 hw.2.2.1 hw.2.2.2.1 hw.2.2.2.2.1.1 hw.2.2.2.2.1.2) (by kernel_rfl)
end Go.Proofs.Ytijdbfbeobflnaa
