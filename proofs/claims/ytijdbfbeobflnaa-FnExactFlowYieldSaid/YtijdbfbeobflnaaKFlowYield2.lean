/- Contracts of the functions that the law reaches. -/
import Derived.Test.YtijdbfbeobflnaaKFlowYield1
import Derived.KernelRfl
set_option linter.unusedVariables false
set_option linter.unusedSimpArgs false
namespace Go.Proofs.Ytijdbfbeobflnaa
open Go

theorem s_FlowYield_vc (Open : List Int) (Dist : List (List Int)) (rooms : List Int) (needs : List Int) (set : List Int) (u : List Int) (w : List Int)  (w_Open : (Open.length : Int) ≤ 9223372036854775807) (w_Dist : (Dist.length : Int) ≤ 9223372036854775807) (v_Dist : ∀ x9 ∈ Dist, (x9.length : Int) ≤ 9223372036854775807) (w_rooms : (rooms.length : Int) ≤ 9223372036854775807) (w_needs : (needs.length : Int) ≤ 9223372036854775807) (w_set : (set.length : Int) ≤ 9223372036854775807) (w_u : (u.length : Int) ≤ 9223372036854775807) (w_w : (w.length : Int) ≤ 9223372036854775807) : s_FlowYield_P Open Dist rooms needs set u w := by
  unfold s_FlowYield_P
  refine ⟨s_l7Given_pc Open Dist rooms needs set, id, id, id, id, ?_, id, rfl, fun _ => rfl, ?_, ?_, ?_⟩
  · intro hg
    refine s_l7Prices_pc Open Dist set u w ?_
    · exact (haul_facts (by simpa only [Bool.not_not] using hg)).1
  · intro h; rw [h]; rfl
  · intro b1
    refine ⟨?_, ?_⟩
    · have hq : (((goodField Open Dist && rising set 0 ((Open.length : Int) - 1) && decide (0 < set.length)) && (rowOk rooms (Open.length : Int) 20 && rowOk needs (Dist.length : Int) 5)) && flowPrices Open Dist set u w) = false := by
        revert b1; cases ((goodField Open Dist && rising set 0 ((Open.length : Int) - 1) && decide (0 < set.length)) && (rowOk rooms (Open.length : Int) 20 && rowOk needs (Dist.length : Int) 5)) <;> cases flowPrices Open Dist set u w <;> simp
      rw [if_neg (by rw [hq]; decide)]
    · have hq : (((goodField Open Dist && rising set 0 ((Open.length : Int) - 1) && decide (0 < set.length)) && (rowOk rooms (Open.length : Int) 20 && rowOk needs (Dist.length : Int) 5)) && flowPrices Open Dist set u w) = false := by
        revert b1; cases ((goodField Open Dist && rising set 0 ((Open.length : Int) - 1) && decide (0 < set.length)) && (rowOk rooms (Open.length : Int) 20 && rowOk needs (Dist.length : Int) 5)) <;> cases flowPrices Open Dist set u w <;> simp
      exact hq.symm
  · intro b2
    refine ⟨?_, ?_, ?_⟩
    · refine s_l7Yield_pc rooms needs u w ?_
      · have hq : ((goodField Open Dist && rising set 0 ((Open.length : Int) - 1) && decide (0 < set.length)) && (rowOk rooms (Open.length : Int) 20 && rowOk needs (Dist.length : Int) 5)) = true ∧ flowPrices Open Dist set u w = true := by
          revert b2; cases ((goodField Open Dist && rising set 0 ((Open.length : Int) - 1) && decide (0 < set.length)) && (rowOk rooms (Open.length : Int) 20 && rowOk needs (Dist.length : Int) 5)) <;> cases flowPrices Open Dist set u w <;> simp
        obtain ⟨ht, hr, hn⟩ := haul_facts hq.1
        obtain ⟨hg, hs, hp⟩ := two_facts ht
        obtain ⟨g1, g2, g3⟩ := gf_open hg
        obtain ⟨f1, f2, f3⟩ := flow_facts hq.2
        obtain ⟨w1, w2⟩ := rowOk_at f2
        obtain ⟨r1, _⟩ := rowOk_at hr
        obtain ⟨n1, _⟩ := rowOk_at hn
        exact ⟨_, _, hr, hn, by omega, by omega, fun k hk => by have := w2 k (by omega); omega, fun k hk => f3 k (by omega), by omega, by omega⟩
    · have hq : ((goodField Open Dist && rising set 0 ((Open.length : Int) - 1) && decide (0 < set.length)) && (rowOk rooms (Open.length : Int) 20 && rowOk needs (Dist.length : Int) 5)) = true ∧ flowPrices Open Dist set u w = true := by
        revert b2; cases ((goodField Open Dist && rising set 0 ((Open.length : Int) - 1) && decide (0 < set.length)) && (rowOk rooms (Open.length : Int) 20 && rowOk needs (Dist.length : Int) 5)) <;> cases flowPrices Open Dist set u w <;> simp
      rw [if_pos (by rw [hq.1, hq.2]; rfl)]
    · have hq : ((goodField Open Dist && rising set 0 ((Open.length : Int) - 1) && decide (0 < set.length)) && (rowOk rooms (Open.length : Int) 20 && rowOk needs (Dist.length : Int) 5)) = true ∧ flowPrices Open Dist set u w = true := by
        revert b2; cases ((goodField Open Dist && rising set 0 ((Open.length : Int) - 1) && decide (0 < set.length)) && (rowOk rooms (Open.length : Int) 20 && rowOk needs (Dist.length : Int) 5)) <;> cases flowPrices Open Dist set u w <;> simp
      rw [hq.1, hq.2]; rfl
theorem s_FlowYield_pc (Open : List Int) (Dist : List (List Int)) (rooms : List Int) (needs : List Int) (set : List Int) (u : List Int) (w : List Int)  : PC Try.prog 63 [.agg [.sl (.ints Open), .sl (.rows Dist)], .sl (.ints rooms), .sl (.ints needs), .sl (.ints set), .sl (.ints u), .sl (.ints w)] (.tup [.d (.int .i64 (if (((goodField Open Dist && rising set 0 ((Open.length : Int) - 1) && decide (0 < set.length)) && (rowOk rooms (Open.length : Int) 20 && rowOk needs (Dist.length : Int) 5)) && flowPrices Open Dist set u w) = true then yieldOf rooms needs u w else 0)), .d (.bool (((goodField Open Dist && rising set 0 ((Open.length : Int) - 1) && decide (0 < set.length)) && (rowOk rooms (Open.length : Int) 20 && rowOk needs (Dist.length : Int) 5)) && flowPrices Open Dist set u w))]) :=
  pc_wf @Try.call63 fun hw => pc_by (by kernel_rfl) Try.func63 @Try.call63 (by kernel_rfl) s_FlowYield_C (s_FlowYield_A Open Dist rooms needs set u w) (by kernel_rfl) (s_FlowYield_vc Open Dist rooms needs set u w hw.1.1 hw.1.2.1.1 hw.1.2.1.2 hw.2.1 hw.2.2.1 hw.2.2.2.1 hw.2.2.2.2.1 hw.2.2.2.2.2.1) (by kernel_rfl)
def s_FlowYield_orc : List D → Orc := orcN [none, some .ints, some .ints, some .ints, some .ints, some .ints] fun ds => match ds with
  | [.agg [.sl (.ints Open), .sl (.rows Dist)], .sl (.ints rooms), .sl (.ints needs), .sl (.ints set), .sl (.ints u), .sl (.ints w)] => some (.tup [.d (.int .i64 (if (((goodField Open Dist && rising set 0 ((Open.length : Int) - 1) && decide (0 < set.length)) && (rowOk rooms (Open.length : Int) 20 && rowOk needs (Dist.length : Int) 5)) && flowPrices Open Dist set u w) = true then yieldOf rooms needs u w else 0)), .d (.bool (((goodField Open Dist && rising set 0 ((Open.length : Int) - 1) && decide (0 < set.length)) && (rowOk rooms (Open.length : Int) 20 && rowOk needs (Dist.length : Int) 5)) && flowPrices Open Dist set u w))])
  | _ => none
def i_FlowYield_C (f : FuncId) (ds : List D) : Orc := bif Nat.beq f 132 then i_isHaul_orc ds else bif Nat.beq f 133 then i_Field_areFlowPrices_orc ds else bif Nat.beq f 134 then i_yield_orc ds else .no
def i_FlowYield_A (Open : List Int) (Dist : List (List Int)) (rooms : List Int) (needs : List Int) (set : List Int) (u : List Int) (w : List Int) : Ann := .none
def i_FlowYield_P (Open : List Int) (Dist : List (List Int)) (rooms : List Int) (needs : List Int) (set : List Int) (u : List Int) (w : List Int) : Prop :=
  (PC Try.prog 132 [.agg [.sl (.ints Open), .sl (.rows Dist)], .sl (.ints rooms), .sl (.ints needs), .sl (.ints set)] (.one (.d (.bool ((goodField Open Dist && rising set 0 ((Open.length : Int) - 1) && decide (0 < set.length)) && (rowOk rooms (Open.length : Int) 20 && rowOk needs (Dist.length : Int) 5)))))) ∧ ((!(!((goodField Open Dist && rising set 0 ((Open.length : Int) - 1) && decide (0 < set.length)) && (rowOk rooms (Open.length : Int) 20 && rowOk needs (Dist.length : Int) 5)))) = true → (!(!((goodField Open Dist && rising set 0 ((Open.length : Int) - 1) && decide (0 < set.length)) && (rowOk rooms (Open.length : Int) 20 && rowOk needs (Dist.length : Int) 5)))) = true) ∧ ((!(!((goodField Open Dist && rising set 0 ((Open.length : Int) - 1) && decide (0 < set.length)) && (rowOk rooms (Open.length : Int) 20 && rowOk needs (Dist.length : Int) 5)))) = true → (!(!((goodField Open Dist && rising set 0 ((Open.length : Int) - 1) && decide (0 < set.length)) && (rowOk rooms (Open.length : Int) 20 && rowOk needs (Dist.length : Int) 5)))) = true) ∧ ((!(!((goodField Open Dist && rising set 0 ((Open.length : Int) - 1) && decide (0 < set.length)) && (rowOk rooms (Open.length : Int) 20 && rowOk needs (Dist.length : Int) 5)))) = true → (!(!((goodField Open Dist && rising set 0 ((Open.length : Int) - 1) && decide (0 < set.length)) && (rowOk rooms (Open.length : Int) 20 && rowOk needs (Dist.length : Int) 5)))) = true) ∧ ((!(!((goodField Open Dist && rising set 0 ((Open.length : Int) - 1) && decide (0 < set.length)) && (rowOk rooms (Open.length : Int) 20 && rowOk needs (Dist.length : Int) 5)))) = true → (!(!((goodField Open Dist && rising set 0 ((Open.length : Int) - 1) && decide (0 < set.length)) && (rowOk rooms (Open.length : Int) 20 && rowOk needs (Dist.length : Int) 5)))) = true) ∧ ((!(!((goodField Open Dist && rising set 0 ((Open.length : Int) - 1) && decide (0 < set.length)) && (rowOk rooms (Open.length : Int) 20 && rowOk needs (Dist.length : Int) 5)))) = true → PC Try.prog 133 [.agg [.sl (.ints Open), .sl (.rows Dist)], .sl (.ints set), .sl (.ints u), .sl (.ints w)] (.one (.d (.bool (flowPrices Open Dist set u w))))) ∧ ((!(!((goodField Open Dist && rising set 0 ((Open.length : Int) - 1) && decide (0 < set.length)) && (rowOk rooms (Open.length : Int) 20 && rowOk needs (Dist.length : Int) 5)))) = true → (!(!((goodField Open Dist && rising set 0 ((Open.length : Int) - 1) && decide (0 < set.length)) && (rowOk rooms (Open.length : Int) 20 && rowOk needs (Dist.length : Int) 5)))) = true) ∧ (true = true) ∧ (((!((goodField Open Dist && rising set 0 ((Open.length : Int) - 1) && decide (0 < set.length)) && (rowOk rooms (Open.length : Int) 20 && rowOk needs (Dist.length : Int) 5))) = true → true = true)) ∧ (((!((goodField Open Dist && rising set 0 ((Open.length : Int) - 1) && decide (0 < set.length)) && (rowOk rooms (Open.length : Int) 20 && rowOk needs (Dist.length : Int) 5))) = false → (!(!((goodField Open Dist && rising set 0 ((Open.length : Int) - 1) && decide (0 < set.length)) && (rowOk rooms (Open.length : Int) 20 && rowOk needs (Dist.length : Int) 5)))) = true)) ∧ (((cond (!((goodField Open Dist && rising set 0 ((Open.length : Int) - 1) && decide (0 < set.length)) && (rowOk rooms (Open.length : Int) 20 && rowOk needs (Dist.length : Int) 5))) true (!(flowPrices Open Dist set u w))) = true → (((0 : Int) = (if (((goodField Open Dist && rising set 0 ((Open.length : Int) - 1) && decide (0 < set.length)) && (rowOk rooms (Open.length : Int) 20 && rowOk needs (Dist.length : Int) 5)) && flowPrices Open Dist set u w) = true then yieldOf rooms needs u w else 0)) ∧ (false = (((goodField Open Dist && rising set 0 ((Open.length : Int) - 1) && decide (0 < set.length)) && (rowOk rooms (Open.length : Int) 20 && rowOk needs (Dist.length : Int) 5)) && flowPrices Open Dist set u w)))) ∧ ((cond (!((goodField Open Dist && rising set 0 ((Open.length : Int) - 1) && decide (0 < set.length)) && (rowOk rooms (Open.length : Int) 20 && rowOk needs (Dist.length : Int) 5))) true (!(flowPrices Open Dist set u w))) = false → (PC Try.prog 134 [.sl (.ints rooms), .sl (.ints needs), .sl (.ints u), .sl (.ints w)] (.one (.d (.int .i64 (yieldOf rooms needs u w))))) ∧ (((yieldOf rooms needs u w) = (if (((goodField Open Dist && rising set 0 ((Open.length : Int) - 1) && decide (0 < set.length)) && (rowOk rooms (Open.length : Int) 20 && rowOk needs (Dist.length : Int) 5)) && flowPrices Open Dist set u w) = true then yieldOf rooms needs u w else 0)) ∧ (true = (((goodField Open Dist && rising set 0 ((Open.length : Int) - 1) && decide (0 < set.length)) && (rowOk rooms (Open.length : Int) 20 && rowOk needs (Dist.length : Int) 5)) && flowPrices Open Dist set u w)))))
theorem i_FlowYield_vc (Open : List Int) (Dist : List (List Int)) (rooms : List Int) (needs : List Int) (set : List Int) (u : List Int) (w : List Int)  (w_Open : (Open.length : Int) ≤ 9223372036854775807) (w_Dist : (Dist.length : Int) ≤ 9223372036854775807) (v_Dist : ∀ x9 ∈ Dist, (x9.length : Int) ≤ 9223372036854775807) (w_rooms : (rooms.length : Int) ≤ 9223372036854775807) (w_needs : (needs.length : Int) ≤ 9223372036854775807) (w_set : (set.length : Int) ≤ 9223372036854775807) (w_u : (u.length : Int) ≤ 9223372036854775807) (w_w : (w.length : Int) ≤ 9223372036854775807) : i_FlowYield_P Open Dist rooms needs set u w := by
  unfold i_FlowYield_P
  refine ⟨i_isHaul_pc Open Dist rooms needs set, id, id, id, id, ?_, id, rfl, fun _ => rfl, ?_, ?_, ?_⟩
  · intro hg
    refine i_Field_areFlowPrices_pc Open Dist set u w ?_
    · exact (haul_facts (by simpa only [Bool.not_not] using hg)).1
  · intro h; rw [h]; rfl
  · intro b1
    refine ⟨?_, ?_⟩
    · have hq : (((goodField Open Dist && rising set 0 ((Open.length : Int) - 1) && decide (0 < set.length)) && (rowOk rooms (Open.length : Int) 20 && rowOk needs (Dist.length : Int) 5)) && flowPrices Open Dist set u w) = false := by
        revert b1; cases ((goodField Open Dist && rising set 0 ((Open.length : Int) - 1) && decide (0 < set.length)) && (rowOk rooms (Open.length : Int) 20 && rowOk needs (Dist.length : Int) 5)) <;> cases flowPrices Open Dist set u w <;> simp
      rw [if_neg (by rw [hq]; decide)]
    · have hq : (((goodField Open Dist && rising set 0 ((Open.length : Int) - 1) && decide (0 < set.length)) && (rowOk rooms (Open.length : Int) 20 && rowOk needs (Dist.length : Int) 5)) && flowPrices Open Dist set u w) = false := by
        revert b1; cases ((goodField Open Dist && rising set 0 ((Open.length : Int) - 1) && decide (0 < set.length)) && (rowOk rooms (Open.length : Int) 20 && rowOk needs (Dist.length : Int) 5)) <;> cases flowPrices Open Dist set u w <;> simp
      exact hq.symm
  · intro b2
    refine ⟨?_, ?_, ?_⟩
    · refine i_yield_pc rooms needs u w ?_
      · have hq : ((goodField Open Dist && rising set 0 ((Open.length : Int) - 1) && decide (0 < set.length)) && (rowOk rooms (Open.length : Int) 20 && rowOk needs (Dist.length : Int) 5)) = true ∧ flowPrices Open Dist set u w = true := by
          revert b2; cases ((goodField Open Dist && rising set 0 ((Open.length : Int) - 1) && decide (0 < set.length)) && (rowOk rooms (Open.length : Int) 20 && rowOk needs (Dist.length : Int) 5)) <;> cases flowPrices Open Dist set u w <;> simp
        obtain ⟨ht, hr, hn⟩ := haul_facts hq.1
        obtain ⟨hg, hs, hp⟩ := two_facts ht
        obtain ⟨g1, g2, g3⟩ := gf_open hg
        obtain ⟨f1, f2, f3⟩ := flow_facts hq.2
        obtain ⟨w1, w2⟩ := rowOk_at f2
        obtain ⟨r1, _⟩ := rowOk_at hr
        obtain ⟨n1, _⟩ := rowOk_at hn
        exact ⟨_, _, hr, hn, by omega, by omega, fun k hk => by have := w2 k (by omega); omega, fun k hk => f3 k (by omega), by omega, by omega⟩
    · have hq : ((goodField Open Dist && rising set 0 ((Open.length : Int) - 1) && decide (0 < set.length)) && (rowOk rooms (Open.length : Int) 20 && rowOk needs (Dist.length : Int) 5)) = true ∧ flowPrices Open Dist set u w = true := by
        revert b2; cases ((goodField Open Dist && rising set 0 ((Open.length : Int) - 1) && decide (0 < set.length)) && (rowOk rooms (Open.length : Int) 20 && rowOk needs (Dist.length : Int) 5)) <;> cases flowPrices Open Dist set u w <;> simp
      rw [if_pos (by rw [hq.1, hq.2]; rfl)]
    · have hq : ((goodField Open Dist && rising set 0 ((Open.length : Int) - 1) && decide (0 < set.length)) && (rowOk rooms (Open.length : Int) 20 && rowOk needs (Dist.length : Int) 5)) = true ∧ flowPrices Open Dist set u w = true := by
        revert b2; cases ((goodField Open Dist && rising set 0 ((Open.length : Int) - 1) && decide (0 < set.length)) && (rowOk rooms (Open.length : Int) 20 && rowOk needs (Dist.length : Int) 5)) <;> cases flowPrices Open Dist set u w <;> simp
      rw [hq.1, hq.2]; rfl
theorem i_FlowYield_pc (Open : List Int) (Dist : List (List Int)) (rooms : List Int) (needs : List Int) (set : List Int) (u : List Int) (w : List Int)  : PC Try.prog 64 [.agg [.sl (.ints Open), .sl (.rows Dist)], .sl (.ints rooms), .sl (.ints needs), .sl (.ints set), .sl (.ints u), .sl (.ints w)] (.tup [.d (.int .i64 (if (((goodField Open Dist && rising set 0 ((Open.length : Int) - 1) && decide (0 < set.length)) && (rowOk rooms (Open.length : Int) 20 && rowOk needs (Dist.length : Int) 5)) && flowPrices Open Dist set u w) = true then yieldOf rooms needs u w else 0)), .d (.bool (((goodField Open Dist && rising set 0 ((Open.length : Int) - 1) && decide (0 < set.length)) && (rowOk rooms (Open.length : Int) 20 && rowOk needs (Dist.length : Int) 5)) && flowPrices Open Dist set u w))]) :=
  pc_wf @Try.call64 fun hw => pc_by (by kernel_rfl) Try.func64 @Try.call64 (by kernel_rfl) i_FlowYield_C (i_FlowYield_A Open Dist rooms needs set u w) (by kernel_rfl) (i_FlowYield_vc Open Dist rooms needs set u w hw.1.1 hw.1.2.1.1 hw.1.2.1.2 hw.2.1 hw.2.2.1 hw.2.2.2.1 hw.2.2.2.2.1 hw.2.2.2.2.2.1) (by kernel_rfl)
def i_FlowYield_orc : List D → Orc := orcN [none, some .ints, some .ints, some .ints, some .ints, some .ints] fun ds => match ds with
  | [.agg [.sl (.ints Open), .sl (.rows Dist)], .sl (.ints rooms), .sl (.ints needs), .sl (.ints set), .sl (.ints u), .sl (.ints w)] => some (.tup [.d (.int .i64 (if (((goodField Open Dist && rising set 0 ((Open.length : Int) - 1) && decide (0 < set.length)) && (rowOk rooms (Open.length : Int) 20 && rowOk needs (Dist.length : Int) 5)) && flowPrices Open Dist set u w) = true then yieldOf rooms needs u w else 0)), .d (.bool (((goodField Open Dist && rising set 0 ((Open.length : Int) - 1) && decide (0 < set.length)) && (rowOk rooms (Open.length : Int) 20 && rowOk needs (Dist.length : Int) 5)) && flowPrices Open Dist set u w))])
  | _ => none
def l_FnExactFlowYield_C (f : FuncId) (ds : List D) : Orc := bif Nat.beq f 40 then l_szField_orc ds else bif Nat.beq f 42 then l_toField_orc ds else bif Nat.beq f 38 then l_toIntS_orc ds else bif Nat.beq f 63 then s_FlowYield_orc ds else bif Nat.beq f 64 then i_FlowYield_orc ds else bif Nat.beq f 44 then l_eqField_orc ds else bif Nat.beq f 32 then l_eqIntS_orc ds else .no
def l_FnExactFlowYield_A (Open : List Int) (Dist : List (List Int)) (rooms : List Int) (needs : List Int) (set : List Int) (u : List Int) (w : List Int) : Ann := .two (.none) (.two (.none) (.two (.none) (.two (.none) (.two (.none) (.two (.none) (.two (.none) (.two (.none) (.two (.none) (.two (.reg [(1, .g), (3, .g), (5, .g), (7, .g), (9, .g), (11, .g)]) (.two (.reg [(1, .g)]) (.two (.reg [(1, .g)]) (.two (.reg [(1, .g)]) (.two (.reg [(1, .g)]) (.two (.reg [(1, .g)]) (.two (.reg [(1, .g)]) (.two (.none) (.two (.none) (.two (.two (.reg [(2, .g)]) (.none)) (.two (.two (.reg [(2, .g)]) (.none)) (.two (.two (.reg [(2, .g)]) (.none)) (.two (.two (.reg [(2, .g)]) (.none)) (.two (.two (.reg [(2, .g)]) (.none)) (.two (.two (.reg [(2, .g)]) (.none)) (.none))))))))))))))))))))))))
def l_FnExactFlowYield_P (Open : List Int) (Dist : List (List Int)) (rooms : List Int) (needs : List Int) (set : List Int) (u : List Int) (w : List Int) : Prop :=
  (((decide ((rooms.length : Int) > 1048576)) = true → ((true = true))) ∧ ((decide ((rooms.length : Int) > 1048576)) = false → (((decide ((needs.length : Int) > 1048576)) = true → ((true = true))) ∧ ((decide ((needs.length : Int) > 1048576)) = false → (((decide ((set.length : Int) > 1048576)) = true → ((true = true))) ∧ ((decide ((set.length : Int) > 1048576)) = false → (((decide ((u.length : Int) > 1048576)) = true → ((true = true))) ∧ ((decide ((u.length : Int) > 1048576)) = false → (((decide ((w.length : Int) > 1048576)) = true → ((true = true))) ∧ ((decide ((w.length : Int) > 1048576)) = false → (PC Try.prog 40 [.agg [.sl (.ints Open), .sl (.rows Dist)], .int .i64 1048576] (.one (.d (.int .i64 (szField Open Dist 1048576))))) ∧ (((decide ((szField Open Dist 1048576) < 0)) = true → ((true = true))) ∧ ((decide ((szField Open Dist 1048576) < 0)) = false → (PC Try.prog 42 [.agg [.sl (.ints Open), .sl (.rows Dist)]] (.one (.d (.agg [.sl (.ints Open), .sl (.rows Dist)])))) ∧ (PC Try.prog 38 [.sl (.ints rooms)] (.one (.d (.sl (.ints rooms))))) ∧ (PC Try.prog 38 [.sl (.ints needs)] (.one (.d (.sl (.ints needs))))) ∧ (PC Try.prog 38 [.sl (.ints set)] (.one (.d (.sl (.ints set))))) ∧ (PC Try.prog 38 [.sl (.ints u)] (.one (.d (.sl (.ints u))))) ∧ (PC Try.prog 38 [.sl (.ints w)] (.one (.d (.sl (.ints w))))) ∧ (PC Try.prog 63 [.agg [.sl (.ints Open), .sl (.rows Dist)], .sl (.ints rooms), .sl (.ints needs), .sl (.ints set), .sl (.ints u), .sl (.ints w)] (.tup [.d (.int .i64 (if (((goodField Open Dist && rising set 0 ((Open.length : Int) - 1) && decide (0 < set.length)) && (rowOk rooms (Open.length : Int) 20 && rowOk needs (Dist.length : Int) 5)) && flowPrices Open Dist set u w) = true then yieldOf rooms needs u w else 0)), .d (.bool (((goodField Open Dist && rising set 0 ((Open.length : Int) - 1) && decide (0 < set.length)) && (rowOk rooms (Open.length : Int) 20 && rowOk needs (Dist.length : Int) 5)) && flowPrices Open Dist set u w))])) ∧ (PC Try.prog 42 [.agg [.sl (.ints Open), .sl (.rows Dist)]] (.one (.d (.agg [.sl (.ints Open), .sl (.rows Dist)])))) ∧ (PC Try.prog 38 [.sl (.ints rooms)] (.one (.d (.sl (.ints rooms))))) ∧ (PC Try.prog 38 [.sl (.ints needs)] (.one (.d (.sl (.ints needs))))) ∧ (PC Try.prog 38 [.sl (.ints set)] (.one (.d (.sl (.ints set))))) ∧ (PC Try.prog 38 [.sl (.ints u)] (.one (.d (.sl (.ints u))))) ∧ (PC Try.prog 38 [.sl (.ints w)] (.one (.d (.sl (.ints w))))) ∧ (PC Try.prog 64 [.agg [.sl (.ints Open), .sl (.rows Dist)], .sl (.ints rooms), .sl (.ints needs), .sl (.ints set), .sl (.ints u), .sl (.ints w)] (.tup [.d (.int .i64 (if (((goodField Open Dist && rising set 0 ((Open.length : Int) - 1) && decide (0 < set.length)) && (rowOk rooms (Open.length : Int) 20 && rowOk needs (Dist.length : Int) 5)) && flowPrices Open Dist set u w) = true then yieldOf rooms needs u w else 0)), .d (.bool (((goodField Open Dist && rising set 0 ((Open.length : Int) - 1) && decide (0 < set.length)) && (rowOk rooms (Open.length : Int) 20 && rowOk needs (Dist.length : Int) 5)) && flowPrices Open Dist set u w))])) ∧ ((!((if (((goodField Open Dist && rising set 0 ((Open.length : Int) - 1) && decide (0 < set.length)) && (rowOk rooms (Open.length : Int) 20 && rowOk needs (Dist.length : Int) 5)) && flowPrices Open Dist set u w) = true then yieldOf rooms needs u w else 0) != (if (((goodField Open Dist && rising set 0 ((Open.length : Int) - 1) && decide (0 < set.length)) && (rowOk rooms (Open.length : Int) 20 && rowOk needs (Dist.length : Int) 5)) && flowPrices Open Dist set u w) = true then yieldOf rooms needs u w else 0))) = true → (!((if (((goodField Open Dist && rising set 0 ((Open.length : Int) - 1) && decide (0 < set.length)) && (rowOk rooms (Open.length : Int) 20 && rowOk needs (Dist.length : Int) 5)) && flowPrices Open Dist set u w) = true then yieldOf rooms needs u w else 0) != (if (((goodField Open Dist && rising set 0 ((Open.length : Int) - 1) && decide (0 < set.length)) && (rowOk rooms (Open.length : Int) 20 && rowOk needs (Dist.length : Int) 5)) && flowPrices Open Dist set u w) = true then yieldOf rooms needs u w else 0))) = true) ∧ ((!((if (((goodField Open Dist && rising set 0 ((Open.length : Int) - 1) && decide (0 < set.length)) && (rowOk rooms (Open.length : Int) 20 && rowOk needs (Dist.length : Int) 5)) && flowPrices Open Dist set u w) = true then yieldOf rooms needs u w else 0) != (if (((goodField Open Dist && rising set 0 ((Open.length : Int) - 1) && decide (0 < set.length)) && (rowOk rooms (Open.length : Int) 20 && rowOk needs (Dist.length : Int) 5)) && flowPrices Open Dist set u w) = true then yieldOf rooms needs u w else 0))) = true → (!((if (((goodField Open Dist && rising set 0 ((Open.length : Int) - 1) && decide (0 < set.length)) && (rowOk rooms (Open.length : Int) 20 && rowOk needs (Dist.length : Int) 5)) && flowPrices Open Dist set u w) = true then yieldOf rooms needs u w else 0) != (if (((goodField Open Dist && rising set 0 ((Open.length : Int) - 1) && decide (0 < set.length)) && (rowOk rooms (Open.length : Int) 20 && rowOk needs (Dist.length : Int) 5)) && flowPrices Open Dist set u w) = true then yieldOf rooms needs u w else 0))) = true) ∧ (true = true) ∧ ((((if (((goodField Open Dist && rising set 0 ((Open.length : Int) - 1) && decide (0 < set.length)) && (rowOk rooms (Open.length : Int) 20 && rowOk needs (Dist.length : Int) 5)) && flowPrices Open Dist set u w) = true then yieldOf rooms needs u w else 0) != (if (((goodField Open Dist && rising set 0 ((Open.length : Int) - 1) && decide (0 < set.length)) && (rowOk rooms (Open.length : Int) 20 && rowOk needs (Dist.length : Int) 5)) && flowPrices Open Dist set u w) = true then yieldOf rooms needs u w else 0)) = true → true = true)) ∧ ((((if (((goodField Open Dist && rising set 0 ((Open.length : Int) - 1) && decide (0 < set.length)) && (rowOk rooms (Open.length : Int) 20 && rowOk needs (Dist.length : Int) 5)) && flowPrices Open Dist set u w) = true then yieldOf rooms needs u w else 0) != (if (((goodField Open Dist && rising set 0 ((Open.length : Int) - 1) && decide (0 < set.length)) && (rowOk rooms (Open.length : Int) 20 && rowOk needs (Dist.length : Int) 5)) && flowPrices Open Dist set u w) = true then yieldOf rooms needs u w else 0)) = false → (!((if (((goodField Open Dist && rising set 0 ((Open.length : Int) - 1) && decide (0 < set.length)) && (rowOk rooms (Open.length : Int) 20 && rowOk needs (Dist.length : Int) 5)) && flowPrices Open Dist set u w) = true then yieldOf rooms needs u w else 0) != (if (((goodField Open Dist && rising set 0 ((Open.length : Int) - 1) && decide (0 < set.length)) && (rowOk rooms (Open.length : Int) 20 && rowOk needs (Dist.length : Int) 5)) && flowPrices Open Dist set u w) = true then yieldOf rooms needs u w else 0))) = true)) ∧ (((cond ((if (((goodField Open Dist && rising set 0 ((Open.length : Int) - 1) && decide (0 < set.length)) && (rowOk rooms (Open.length : Int) 20 && rowOk needs (Dist.length : Int) 5)) && flowPrices Open Dist set u w) = true then yieldOf rooms needs u w else 0) != (if (((goodField Open Dist && rising set 0 ((Open.length : Int) - 1) && decide (0 < set.length)) && (rowOk rooms (Open.length : Int) 20 && rowOk needs (Dist.length : Int) 5)) && flowPrices Open Dist set u w) = true then yieldOf rooms needs u w else 0)) true ((((goodField Open Dist && rising set 0 ((Open.length : Int) - 1) && decide (0 < set.length)) && (rowOk rooms (Open.length : Int) 20 && rowOk needs (Dist.length : Int) 5)) && flowPrices Open Dist set u w) != (((goodField Open Dist && rising set 0 ((Open.length : Int) - 1) && decide (0 < set.length)) && (rowOk rooms (Open.length : Int) 20 && rowOk needs (Dist.length : Int) 5)) && flowPrices Open Dist set u w))) = true → ((false = true))) ∧ ((cond ((if (((goodField Open Dist && rising set 0 ((Open.length : Int) - 1) && decide (0 < set.length)) && (rowOk rooms (Open.length : Int) 20 && rowOk needs (Dist.length : Int) 5)) && flowPrices Open Dist set u w) = true then yieldOf rooms needs u w else 0) != (if (((goodField Open Dist && rising set 0 ((Open.length : Int) - 1) && decide (0 < set.length)) && (rowOk rooms (Open.length : Int) 20 && rowOk needs (Dist.length : Int) 5)) && flowPrices Open Dist set u w) = true then yieldOf rooms needs u w else 0)) true ((((goodField Open Dist && rising set 0 ((Open.length : Int) - 1) && decide (0 < set.length)) && (rowOk rooms (Open.length : Int) 20 && rowOk needs (Dist.length : Int) 5)) && flowPrices Open Dist set u w) != (((goodField Open Dist && rising set 0 ((Open.length : Int) - 1) && decide (0 < set.length)) && (rowOk rooms (Open.length : Int) 20 && rowOk needs (Dist.length : Int) 5)) && flowPrices Open Dist set u w))) = false → (true = true) ∧ (PC Try.prog 42 [.agg [.sl (.ints Open), .sl (.rows Dist)]] (.one (.d (.agg [.sl (.ints Open), .sl (.rows Dist)])))) ∧ (PC Try.prog 44 [.agg [.sl (.ints Open), .sl (.rows Dist)], .agg [.sl (.ints Open), .sl (.rows Dist)]] (.one (.d (.bool ((Open == Open) && (Dist == Dist)))))) ∧ (((!((Open == Open) && (Dist == Dist))) = true → ((false = true))) ∧ ((!((Open == Open) && (Dist == Dist))) = false → (PC Try.prog 38 [.sl (.ints rooms)] (.one (.d (.sl (.ints rooms))))) ∧ (PC Try.prog 32 [.sl (.ints rooms), .sl (.ints rooms)] (.one (.d (.bool (rooms == rooms))))) ∧ (((!(rooms == rooms)) = true → ((false = true))) ∧ ((!(rooms == rooms)) = false → (PC Try.prog 38 [.sl (.ints needs)] (.one (.d (.sl (.ints needs))))) ∧ (PC Try.prog 32 [.sl (.ints needs), .sl (.ints needs)] (.one (.d (.bool (needs == needs))))) ∧ (((!(needs == needs)) = true → ((false = true))) ∧ ((!(needs == needs)) = false → (PC Try.prog 38 [.sl (.ints set)] (.one (.d (.sl (.ints set))))) ∧ (PC Try.prog 32 [.sl (.ints set), .sl (.ints set)] (.one (.d (.bool (set == set))))) ∧ (((!(set == set)) = true → ((false = true))) ∧ ((!(set == set)) = false → (PC Try.prog 38 [.sl (.ints u)] (.one (.d (.sl (.ints u))))) ∧ (PC Try.prog 32 [.sl (.ints u), .sl (.ints u)] (.one (.d (.bool (u == u))))) ∧ (((!(u == u)) = true → ((false = true))) ∧ ((!(u == u)) = false → (PC Try.prog 38 [.sl (.ints w)] (.one (.d (.sl (.ints w))))) ∧ (PC Try.prog 32 [.sl (.ints w), .sl (.ints w)] (.one (.d (.bool (w == w))))) ∧ (((!(w == w)) = true → ((false = true))) ∧ ((!(w == w)) = false → ((true = true))))))))))))))))))))))))))))
theorem l_FnExactFlowYield_vc (Open : List Int) (Dist : List (List Int)) (rooms : List Int) (needs : List Int) (set : List Int) (u : List Int) (w : List Int)  (w_Open : (Open.length : Int) ≤ 9223372036854775807) (w_Dist : (Dist.length : Int) ≤ 9223372036854775807) (v_Dist : ∀ x9 ∈ Dist, (x9.length : Int) ≤ 9223372036854775807) (w_rooms : (rooms.length : Int) ≤ 9223372036854775807) (w_needs : (needs.length : Int) ≤ 9223372036854775807) (w_set : (set.length : Int) ≤ 9223372036854775807) (w_u : (u.length : Int) ≤ 9223372036854775807) (w_w : (w.length : Int) ≤ 9223372036854775807) : l_FnExactFlowYield_P Open Dist rooms needs set u w := by
  unfold l_FnExactFlowYield_P
  refine ⟨?_, ?_⟩
  · intro b1
    try simp only [nrmT] at b1
    exact rfl
  · intro b2
    try simp only [nrmT] at b2
    refine ⟨?_, ?_⟩
    · intro b3
      try simp only [nrmT] at b3
      exact rfl
    · intro b4
      try simp only [nrmT] at b4
      refine ⟨?_, ?_⟩
      · intro b5
        try simp only [nrmT] at b5
        exact rfl
      · intro b6
        try simp only [nrmT] at b6
        refine ⟨?_, ?_⟩
        · intro b7
          try simp only [nrmT] at b7
          exact rfl
        · intro b8
          try simp only [nrmT] at b8
          refine ⟨?_, ?_⟩
          · intro b9
            try simp only [nrmT] at b9
            exact rfl
          · intro b10
            try simp only [nrmT] at b10
            refine ⟨?_, ?_, ?_⟩
            · refine l_szField_pc Open Dist 1048576 ?_
              · first | omega | rfl | (intro hg; simp only [nrmT] at hg; omega) | (intro g1 g2; simp [g1, g2]; done) | (intro g1; simp at g1 ⊢; simp [g1]; done) | (simp only [nrmT] at *; omega) | (simp at * <;> omega) | (simp_all <;> omega) | (simp_all; done)
            · intro b11
              try simp only [nrmT] at b11
              exact rfl
            · intro b12
              try simp only [nrmT] at b12
              refine ⟨?_, ?_, ?_, ?_, ?_, ?_, s_FlowYield_pc Open Dist rooms needs set u w, ?_, ?_, ?_, ?_, ?_, ?_, i_FlowYield_pc Open Dist rooms needs set u w, id, id, rfl, fun _ => rfl, ?_, ?_, ?_⟩
              · refine l_toField_pc Open Dist ?_ ?_ ?_
                · have := szField_bound b12; omega
                · have := szField_bound b12; omega
                · have h := (szField_bound b12).2.2
                  intro xs hx
                  have h := h xs hx
                  omega
              · refine l_toIntS_pc rooms ?_
                · first | omega | rfl | (intro hg; simp only [nrmT] at hg; omega) | (intro g1 g2; simp [g1, g2]; done) | (intro g1; simp at g1 ⊢; simp [g1]; done) | (simp only [nrmT] at *; omega) | (simp at * <;> omega) | (simp_all <;> omega) | (simp_all; done)
              · refine l_toIntS_pc needs ?_
                · first | omega | rfl | (intro hg; simp only [nrmT] at hg; omega) | (intro g1 g2; simp [g1, g2]; done) | (intro g1; simp at g1 ⊢; simp [g1]; done) | (simp only [nrmT] at *; omega) | (simp at * <;> omega) | (simp_all <;> omega) | (simp_all; done)
              · refine l_toIntS_pc set ?_
                · first | omega | rfl | (intro hg; simp only [nrmT] at hg; omega) | (intro g1 g2; simp [g1, g2]; done) | (intro g1; simp at g1 ⊢; simp [g1]; done) | (simp only [nrmT] at *; omega) | (simp at * <;> omega) | (simp_all <;> omega) | (simp_all; done)
              · refine l_toIntS_pc u ?_
                · first | omega | rfl | (intro hg; simp only [nrmT] at hg; omega) | (intro g1 g2; simp [g1, g2]; done) | (intro g1; simp at g1 ⊢; simp [g1]; done) | (simp only [nrmT] at *; omega) | (simp at * <;> omega) | (simp_all <;> omega) | (simp_all; done)
              · refine l_toIntS_pc w ?_
                · first | omega | rfl | (intro hg; simp only [nrmT] at hg; omega) | (intro g1 g2; simp [g1, g2]; done) | (intro g1; simp at g1 ⊢; simp [g1]; done) | (simp only [nrmT] at *; omega) | (simp at * <;> omega) | (simp_all <;> omega) | (simp_all; done)
              · refine l_toField_pc Open Dist ?_ ?_ ?_
                · have := szField_bound b12; omega
                · have := szField_bound b12; omega
                · have h := (szField_bound b12).2.2
                  intro xs hx
                  have h := h xs hx
                  omega
              · refine l_toIntS_pc rooms ?_
                · first | omega | rfl | (intro hg; simp only [nrmT] at hg; omega) | (intro g1 g2; simp [g1, g2]; done) | (intro g1; simp at g1 ⊢; simp [g1]; done) | (simp only [nrmT] at *; omega) | (simp at * <;> omega) | (simp_all <;> omega) | (simp_all; done)
              · refine l_toIntS_pc needs ?_
                · first | omega | rfl | (intro hg; simp only [nrmT] at hg; omega) | (intro g1 g2; simp [g1, g2]; done) | (intro g1; simp at g1 ⊢; simp [g1]; done) | (simp only [nrmT] at *; omega) | (simp at * <;> omega) | (simp_all <;> omega) | (simp_all; done)
              · refine l_toIntS_pc set ?_
                · first | omega | rfl | (intro hg; simp only [nrmT] at hg; omega) | (intro g1 g2; simp [g1, g2]; done) | (intro g1; simp at g1 ⊢; simp [g1]; done) | (simp only [nrmT] at *; omega) | (simp at * <;> omega) | (simp_all <;> omega) | (simp_all; done)
              · refine l_toIntS_pc u ?_
                · first | omega | rfl | (intro hg; simp only [nrmT] at hg; omega) | (intro g1 g2; simp [g1, g2]; done) | (intro g1; simp at g1 ⊢; simp [g1]; done) | (simp only [nrmT] at *; omega) | (simp at * <;> omega) | (simp_all <;> omega) | (simp_all; done)
              · refine l_toIntS_pc w ?_
                · first | omega | rfl | (intro hg; simp only [nrmT] at hg; omega) | (intro g1 g2; simp [g1, g2]; done) | (intro g1; simp at g1 ⊢; simp [g1]; done) | (simp only [nrmT] at *; omega) | (simp at * <;> omega) | (simp_all <;> omega) | (simp_all; done)
              · intro h; rw [h]; rfl
              · intro b13
                first | (simp at b13; done) | omega | rfl | (intro hg; simp only [nrmT] at hg; omega) | (intro g1 g2; simp [g1, g2]; done) | (intro g1; simp at g1 ⊢; simp [g1]; done) | (simp only [nrmT] at *; omega) | (simp at * <;> omega) | (simp_all <;> omega) | (simp_all; done)
              · intro b14
                refine ⟨rfl, ?_, l_eqField_pc Open Dist Open Dist, ?_, ?_⟩
                · refine l_toField_pc Open Dist ?_ ?_ ?_
                  · have := szField_bound b12; omega
                  · have := szField_bound b12; omega
                  · have h := (szField_bound b12).2.2
                    intro xs hx
                    have h := h xs hx
                    omega
                · intro b15
                  try simp only [Bool.not_eq_true', Bool.not_eq_false', Bool.not_not] at b15
                  first | (simp at b15; done) | omega | rfl | (intro hg; simp only [nrmT] at hg; omega) | (intro g1 g2; simp [g1, g2]; done) | (intro g1; simp at g1 ⊢; simp [g1]; done) | (simp only [nrmT] at *; omega) | (simp at * <;> omega) | (simp_all <;> omega) | (simp_all; done)
                · intro b16
                  try simp only [Bool.not_eq_true', Bool.not_eq_false', Bool.not_not] at b16
                  refine ⟨?_, l_eqIntS_pc rooms rooms, ?_, ?_⟩
                  · refine l_toIntS_pc rooms ?_
                    · first | omega | rfl | (intro hg; simp only [nrmT] at hg; omega) | (intro g1 g2; simp [g1, g2]; done) | (intro g1; simp at g1 ⊢; simp [g1]; done) | (simp only [nrmT] at *; omega) | (simp at * <;> omega) | (simp_all <;> omega) | (simp_all; done)
                  · intro b17
                    try simp only [nrmT] at b17
                    first | (simp at b17; done) | omega | rfl | (intro hg; simp only [nrmT] at hg; omega) | (intro g1 g2; simp [g1, g2]; done) | (intro g1; simp at g1 ⊢; simp [g1]; done) | (simp only [nrmT] at *; omega) | (simp at * <;> omega) | (simp_all <;> omega) | (simp_all; done)
                  · intro b18
                    try simp only [nrmT] at b18
                    refine ⟨?_, l_eqIntS_pc needs needs, ?_, ?_⟩
                    · refine l_toIntS_pc needs ?_
                      · first | omega | rfl | (intro hg; simp only [nrmT] at hg; omega) | (intro g1 g2; simp [g1, g2]; done) | (intro g1; simp at g1 ⊢; simp [g1]; done) | (simp only [nrmT] at *; omega) | (simp at * <;> omega) | (simp_all <;> omega) | (simp_all; done)
                    · intro b19
                      try simp only [nrmT] at b19
                      first | (simp at b19; done) | omega | rfl | (intro hg; simp only [nrmT] at hg; omega) | (intro g1 g2; simp [g1, g2]; done) | (intro g1; simp at g1 ⊢; simp [g1]; done) | (simp only [nrmT] at *; omega) | (simp at * <;> omega) | (simp_all <;> omega) | (simp_all; done)
                    · intro b20
                      try simp only [nrmT] at b20
                      refine ⟨?_, l_eqIntS_pc set set, ?_, ?_⟩
                      · refine l_toIntS_pc set ?_
                        · first | omega | rfl | (intro hg; simp only [nrmT] at hg; omega) | (intro g1 g2; simp [g1, g2]; done) | (intro g1; simp at g1 ⊢; simp [g1]; done) | (simp only [nrmT] at *; omega) | (simp at * <;> omega) | (simp_all <;> omega) | (simp_all; done)
                      · intro b21
                        try simp only [nrmT] at b21
                        first | (simp at b21; done) | omega | rfl | (intro hg; simp only [nrmT] at hg; omega) | (intro g1 g2; simp [g1, g2]; done) | (intro g1; simp at g1 ⊢; simp [g1]; done) | (simp only [nrmT] at *; omega) | (simp at * <;> omega) | (simp_all <;> omega) | (simp_all; done)
                      · intro b22
                        try simp only [nrmT] at b22
                        refine ⟨?_, l_eqIntS_pc u u, ?_, ?_⟩
                        · refine l_toIntS_pc u ?_
                          · first | omega | rfl | (intro hg; simp only [nrmT] at hg; omega) | (intro g1 g2; simp [g1, g2]; done) | (intro g1; simp at g1 ⊢; simp [g1]; done) | (simp only [nrmT] at *; omega) | (simp at * <;> omega) | (simp_all <;> omega) | (simp_all; done)
                        · intro b23
                          try simp only [nrmT] at b23
                          first | (simp at b23; done) | omega | rfl | (intro hg; simp only [nrmT] at hg; omega) | (intro g1 g2; simp [g1, g2]; done) | (intro g1; simp at g1 ⊢; simp [g1]; done) | (simp only [nrmT] at *; omega) | (simp at * <;> omega) | (simp_all <;> omega) | (simp_all; done)
                        · intro b24
                          try simp only [nrmT] at b24
                          refine ⟨?_, l_eqIntS_pc w w, ?_, ?_⟩
                          · refine l_toIntS_pc w ?_
                            · first | omega | rfl | (intro hg; simp only [nrmT] at hg; omega) | (intro g1 g2; simp [g1, g2]; done) | (intro g1; simp at g1 ⊢; simp [g1]; done) | (simp only [nrmT] at *; omega) | (simp at * <;> omega) | (simp_all <;> omega) | (simp_all; done)
                          · intro b25
                            try simp only [nrmT] at b25
                            first | (simp at b25; done) | omega | rfl | (intro hg; simp only [nrmT] at hg; omega) | (intro g1 g2; simp [g1, g2]; done) | (intro g1; simp at g1 ⊢; simp [g1]; done) | (simp only [nrmT] at *; omega) | (simp at * <;> omega) | (simp_all <;> omega) | (simp_all; done)
                          · intro b26
                            try simp only [nrmT] at b26
                            exact rfl
theorem l_FnExactFlowYield_pc (Open : List Int) (Dist : List (List Int)) (rooms : List Int) (needs : List Int) (set : List Int) (u : List Int) (w : List Int)  : PC Try.prog 14 [.agg [.sl (.ints Open), .sl (.rows Dist)], .sl (.ints rooms), .sl (.ints needs), .sl (.ints set), .sl (.ints u), .sl (.ints w)] (.one (.d (.bool true))) :=
  pc_wf @Try.call14 fun hw => pc_by (by kernel_rfl) Try.func14 @Try.call14 (by kernel_rfl) l_FnExactFlowYield_C (l_FnExactFlowYield_A Open Dist rooms needs set u w) (by kernel_rfl) (l_FnExactFlowYield_vc Open Dist rooms needs set u w hw.1.1 hw.1.2.1.1 hw.1.2.1.2 hw.2.1 hw.2.2.1 hw.2.2.2.1 hw.2.2.2.2.1 hw.2.2.2.2.2.1) (by kernel_rfl)
end Go.Proofs.Ytijdbfbeobflnaa
