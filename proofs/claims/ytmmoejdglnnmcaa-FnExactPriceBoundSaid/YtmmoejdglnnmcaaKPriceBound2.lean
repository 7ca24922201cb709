/- Contracts of the functions that the law reaches. -/
import Derived.Test.YtmmoejdglnnmcaaKPriceBound1
import Derived.KernelRfl
set_option linter.unusedVariables false
set_option linter.unusedSimpArgs false
namespace Go.Proofs.Ytmmoejdglnnmcaa
open Go

theorem bound_eq {Open : List Int} {Dist : List (List Int)} (hg : goodField Open Dist = true) {price : Int} : mnTo (bnF Dist (setsL (Open.length : Int).toNat) price) (setsL (Open.length : Int).toNat).length = mnTo (prF (valsL Open Dist Open.length) price) Open.length := by
  obtain ⟨g1, g2, g3⟩ := gf_open hg
  have sb := sets_big (n := (Open.length : Int).toNat) (by omega)
  obtain ⟨a1, i, a2, a3⟩ := mnTo_le (bnF Dist (setsL (Open.length : Int).toNat) price) _ sb
  obtain ⟨b1, j, b2, b3⟩ := mnTo_le (prF (valsL Open Dist Open.length) price) Open.length (by omega)
  have hv : ∀ j, j < Open.length → (valsL Open Dist Open.length).getD j 0 = servOf Dist (medS Open Dist ((j : Int) + 1)) := fun j hj => tabTo_get hj
  refine Int.le_antisymm ?_ ?_
  · rw [b3]
    obtain ⟨q, hq, e⟩ := List.mem_iff_getElem.1 (medS_in (Open := Open) (Dist := Dist) (k := (j : Int) + 1) (by omega))
    refine Int.le_trans (a1 q hq) (Int.le_of_eq ?_)
    unfold bnF prF
    rw [getD_get hq, e, hv j b2, medS_len (by omega)]
  · rw [a3]
    have hs := getD_mem (d := []) a2
    have ht := set_two hg hs
    obtain ⟨_, hsr, hpos⟩ := two_facts ht.1
    obtain ⟨c, c1, c2, c3⟩ := setsL_mem.1 hs
    have hl := lst_len (n := (Open.length : Int).toNat) (code := c)
    rw [c3] at hl
    have hlk := b1 (((setsL (Open.length : Int).toNat).getD i []).length - 1) (by omega)
    refine Int.le_trans hlk ?_
    unfold bnF prF
    rw [hv _ (by omega)]
    have e : ((((setsL (Open.length : Int).toNat).getD i []).length - 1 : Nat) : Int) + 1 = (((setsL (Open.length : Int).toNat).getD i []).length : Int) := by omega
    rw [e]
    have := leastL_le (v := servOf Dist) (l := (setsL (Open.length : Int).toNat).filter fun x9 => !(decide ((x9.length : Int) ≠ (((setsL (Open.length : Int).toNat).getD i []).length : Int)))) ((setsL (Open.length : Int).toNat).getD i []) (List.mem_filter.2 ⟨hs, by simp⟩)
    unfold medS
    omega
def pbL (Open : List Int) (Dist : List (List Int)) (k price : Int) : Int := if ((goodField Open Dist && inB k 1 (Open.length : Int)) && inB price 0 999) = true then prcd (valsL Open Dist Open.length) k price else 0
abbrev i_Field_values_JJ0 (Open : List Int) (Dist : List (List Int)) (out : List Int) (i : Int) : Prop := (0 ≤ i) ∧ (i ≤ (Open.length : Int)) ∧ (out = valsL Open Dist i.toNat)
abbrev i_Field_values_mJ0 (Open : List Int) (Dist : List (List Int)) (out : List Int) (i : Int) : Nat := (Open.length - i).toNat
def i_Field_values_C (f : FuncId) (ds : List D) : Orc := bif Nat.beq f 97 then i_Field_median_orc ds else bif Nat.beq f 96 then i_Field_service_orc ds else .no
def i_Field_values_A (Open : List Int) (Dist : List (List Int)) : Ann := .two (.none) (.two (.none) (.two (.two (.none) (.loop (cut2 (fun (out : List Int) (i : Int) => i_Field_values_JJ0 Open Dist out i) (fun (out : List Int) (i : Int) => [(1, .ptr 1 0), (3, .own 1000000 out.length), (8, .d true (.int .i64 (Open.length : Int))), (9, .d true (.int .i64 i))]) (fun (out : List Int) (i : Int) => [(1000000, .arr true 3 (.ints out)), (1, .box 37 [.d false (.sl (.ints Open)), .d false (.sl (.rows Dist))])])) (fun g => i_Field_values_mJ0 Open Dist g.1 g.2) (fun _ => .none))) (.none)))
def i_Field_values_P (Open : List Int) (Dist : List (List Int)) : Prop :=
  ((∃ out' : List Int, ∃ i' : Int, (i_Field_values_JJ0 Open Dist out' i') ∧ ((0 : Nat) = out'.length) ∧ ((Open.length : Int) = (Open.length : Int)) ∧ ((0 : Int) = i') ∧ ([] = out') ∧ (Open = Open) ∧ (Dist = Dist)) ∧ (∀ out : List Int, ∀ i : Int, (i_Field_values_JJ0 Open Dist out i) → (((decide (i < (Open.length : Int))) = true → (true = true) ∧ (-9223372036854775808 ≤ (i + 1) ∧ (i + 1) ≤ 9223372036854775807) ∧ (PC Try.prog 97 [.agg [.sl (.ints Open), .sl (.rows Dist)], .int .i64 (i + 1)] (.one (.d (.sl (.ints (medS Open Dist (i + 1))))))) ∧ (PC Try.prog 96 [.agg [.sl (.ints Open), .sl (.rows Dist)], .sl (.ints (medS Open Dist (i + 1)))] (.one (.d (.int .i64 (servOf Dist (medS Open Dist (i + 1))))))) ∧ (out.length = out.length) ∧ ((1 : Nat) = 1) ∧ ((out.length + 1) * 8 ≤ 140737488355328) ∧ (-9223372036854775808 ≤ (i + 1) ∧ (i + 1) ≤ 9223372036854775807) ∧ (∃ out' : List Int, ∃ i' : Int, (i_Field_values_JJ0 Open Dist out' i') ∧ (i_Field_values_mJ0 Open Dist out' i' < i_Field_values_mJ0 Open Dist out i) ∧ ((out.length + 1) = out'.length) ∧ ((Open.length : Int) = (Open.length : Int)) ∧ ((i + 1) = i') ∧ ((out ++ [(servOf Dist (medS Open Dist (i + 1)))]) = out') ∧ (Open = Open) ∧ (Dist = Dist))) ∧ ((decide (i < (Open.length : Int))) = false → ((out.length = out.length) ∧ ((out : List Int) = valsL Open Dist Open.length))))))
theorem i_Field_values_vc (Open : List Int) (Dist : List (List Int)) (hg : goodField Open Dist = true) (w_Open : (Open.length : Int) ≤ 9223372036854775807) (w_Dist : (Dist.length : Int) ≤ 9223372036854775807) (v_Dist : ∀ x9 ∈ Dist, (x9.length : Int) ≤ 9223372036854775807) : i_Field_values_P Open Dist := by
  unfold i_Field_values_P
  obtain ⟨g1, g2, g3⟩ := gf_open hg
  refine ⟨?_, ?_⟩
  · refine ⟨([]), 0, ?_⟩
    refine ⟨?_, rfl, rfl, rfl, ?_, rfl, rfl⟩
    · refine ⟨?_, ?_, ?_⟩
      · first | omega | rfl | (intro hg; simp only [nrmT] at hg; omega) | (intro g1 g2; simp [g1, g2]; done) | (intro g1; simp at g1 ⊢; simp [g1]; done) | (simp only [nrmT] at *; omega) | (simp at * <;> omega) | (simp_all <;> omega) | (simp_all; done)
      · first | omega | rfl | (intro hg; simp only [nrmT] at hg; omega) | (intro g1 g2; simp [g1, g2]; done) | (intro g1; simp at g1 ⊢; simp [g1]; done) | (simp only [nrmT] at *; omega) | (simp at * <;> omega) | (simp_all <;> omega) | (simp_all; done)
      · first | omega | rfl | (intro hg; simp only [nrmT] at hg; omega) | (intro g1 g2; simp [g1, g2]; done) | (intro g1; simp at g1 ⊢; simp [g1]; done) | (simp only [nrmT] at *; omega) | (simp at * <;> omega) | (simp_all <;> omega) | (simp_all; done)
    · first | omega | rfl | (intro hg; simp only [nrmT] at hg; omega) | (intro g1 g2; simp [g1, g2]; done) | (intro g1; simp at g1 ⊢; simp [g1]; done) | (simp only [nrmT] at *; omega) | (simp at * <;> omega) | (simp_all <;> omega) | (simp_all; done)
  · intro out i hJ
    obtain ⟨h1, h2, h3⟩ := hJ
    refine ⟨?_, ?_⟩
    · intro b1
      try simp only [nrmT] at b1
      refine ⟨rfl, ?_, ?_, ?_, rfl, rfl, ?_, ?_, ?_⟩
      · first | omega | rfl | (intro hg; simp only [nrmT] at hg; omega) | (intro g1 g2; simp [g1, g2]; done) | (intro g1; simp at g1 ⊢; simp [g1]; done) | (simp only [nrmT] at *; omega) | (simp at * <;> omega) | (simp_all <;> omega) | (simp_all; done)
      · refine i_Field_median_pc Open Dist (i + 1) ?_ ?_
        · first | omega | rfl | (intro hg; simp only [nrmT] at hg; omega) | (intro g1 g2; simp [g1, g2]; done) | (intro g1; simp at g1 ⊢; simp [g1]; done) | (simp only [nrmT] at *; omega) | (simp at * <;> omega) | (simp_all <;> omega) | (simp_all; done)
        · omega
      · refine i_Field_service_pc Open Dist (medS Open Dist (i + 1)) ?_
        · exact medS_two hg (by omega)
      · rw [h3, valsL_len]; omega
      · first | omega | rfl | (intro hg; simp only [nrmT] at hg; omega) | (intro g1 g2; simp [g1, g2]; done) | (intro g1; simp at g1 ⊢; simp [g1]; done) | (simp only [nrmT] at *; omega) | (simp at * <;> omega) | (simp_all <;> omega) | (simp_all; done)
      · refine ⟨(out ++ [(servOf Dist (medS Open Dist (i + 1)))]), (i + 1), ?_⟩
        refine ⟨?_, ?_, ?_, rfl, rfl, rfl, rfl, rfl⟩
        · refine ⟨?_, ?_, ?_⟩
          · first | omega | rfl | (intro hg; simp only [nrmT] at hg; omega) | (intro g1 g2; simp [g1, g2]; done) | (intro g1; simp at g1 ⊢; simp [g1]; done) | (simp only [nrmT] at *; omega) | (simp at * <;> omega) | (simp_all <;> omega) | (simp_all; done)
          · first | omega | rfl | (intro hg; simp only [nrmT] at hg; omega) | (intro g1 g2; simp [g1, g2]; done) | (intro g1; simp at g1 ⊢; simp [g1]; done) | (simp only [nrmT] at *; omega) | (simp at * <;> omega) | (simp_all <;> omega) | (simp_all; done)
          · rw [h3, show (i + 1).toNat = i.toNat + 1 by omega]
            unfold valsL
            rw [tabTo_succ, show ((i.toNat : Nat) : Int) + 1 = i + 1 by omega]
        · first | (show _ < _; omega) | (simp only [i_Field_values_mJ0]; omega) | (simp only [i_Field_values_mJ0] at *; simp at *; omega)
        · first | omega | rfl | (intro hg; simp only [nrmT] at hg; omega) | (intro g1 g2; simp [g1, g2]; done) | (intro g1; simp at g1 ⊢; simp [g1]; done) | (simp only [nrmT] at *; omega) | (simp at * <;> omega) | (simp_all <;> omega) | (simp_all; done)
    · intro b2
      try simp only [nrmT] at b2
      refine ⟨rfl, ?_⟩
      · rw [h3, show i.toNat = Open.length by omega]
theorem i_Field_values_pc (Open : List Int) (Dist : List (List Int)) (hg : goodField Open Dist = true) : PC Try.prog 106 [.agg [.sl (.ints Open), .sl (.rows Dist)]] (.one (.own 3 (.ints (valsL Open Dist Open.length)))) :=
  pc_wf @Try.call106 fun hw => pc_by (by kernel_rfl) Try.func106 @Try.call106 (by kernel_rfl) i_Field_values_C (i_Field_values_A Open Dist) (by kernel_rfl) (i_Field_values_vc Open Dist hg hw.1.1 hw.1.2.1.1 hw.1.2.1.2) (by kernel_rfl)
def i_Field_values_orc : List D → Orc := orcN [none] fun ds => match ds with
  | [.agg [.sl (.ints Open), .sl (.rows Dist)]] => some (.one (.own 3 (.ints (valsL Open Dist Open.length))))
  | _ => none
abbrev i_priceBound_JJ0 (values : List Int) (k : Int) (price : Int) (best : Int) (i : Int) : Prop := (0 ≤ i) ∧ (i ≤ (values.length : Int)) ∧ (best = mnTo (prF values price) i.toNat) ∧ (0 ≤ best ∧ best ≤ 1692)
abbrev i_priceBound_mJ0 (values : List Int) (k : Int) (price : Int) (best : Int) (i : Int) : Nat := (values.length - i).toNat
def i_priceBound_C (f : FuncId) (ds : List D) : Orc := .no
def i_priceBound_A (values : List Int) (k : Int) (price : Int) : Ann := .two (.none) (.two (.none) (.two (.two (.none) (.loop (cut2 (fun (best : Int) (i : Int) => i_priceBound_JJ0 values k price best i) (fun (best : Int) (i : Int) => [(1, .d false (.int .i64 k)), (2, .d false (.int .i64 price)), (7, .d true (.int .i64 best)), (15, .d false (.sl (.ints values))), (16, .d true (.int .i64 (values.length : Int))), (17, .d true (.int .i64 i))]) (fun (best : Int) (i : Int) => [])) (fun g => i_priceBound_mJ0 values k price g.1 g.2) (fun _ => .none))) (.none)))
def i_priceBound_P (values : List Int) (k : Int) (price : Int) : Prop :=
  ((0 : Int) ≤ 0) ∧ ((0 : Int) < values.length) ∧ (0 < values.length) ∧ (-9223372036854775808 ≤ ((values.getD 0 0) + price) ∧ ((values.getD 0 0) + price) ≤ 9223372036854775807) ∧ ((∃ best' : Int, ∃ i' : Int, (i_priceBound_JJ0 values k price best' i') ∧ (k = k) ∧ (price = price) ∧ (((values.getD 0 0) + price) = best') ∧ (values = values) ∧ ((values.length : Int) = (values.length : Int)) ∧ ((0 : Int) = i')) ∧ (∀ best : Int, ∀ i : Int, (i_priceBound_JJ0 values k price best i) → (((decide (i < (values.length : Int))) = true → ((0 : Int) ≤ i) ∧ ((i : Int) < values.length) ∧ (i.toNat < values.length) ∧ (-9223372036854775808 ≤ (i + 1) ∧ (i + 1) ≤ 9223372036854775807) ∧ (-9223372036854775808 ≤ (price * (i + 1)) ∧ (price * (i + 1)) ≤ 9223372036854775807) ∧ (-9223372036854775808 ≤ ((values.getD i.toNat 0) + (price * (i + 1))) ∧ ((values.getD i.toNat 0) + (price * (i + 1))) ≤ 9223372036854775807) ∧ (-9223372036854775808 ≤ (i + 1) ∧ (i + 1) ≤ 9223372036854775807) ∧ (∃ best' : Int, ∃ i' : Int, (i_priceBound_JJ0 values k price best' i') ∧ (i_priceBound_mJ0 values k price best' i' < i_priceBound_mJ0 values k price best i) ∧ (k = k) ∧ (price = price) ∧ ((min best ((values.getD i.toNat 0) + (price * (i + 1)))) = best') ∧ (values = values) ∧ ((values.length : Int) = (values.length : Int)) ∧ ((i + 1) = i'))) ∧ ((decide (i < (values.length : Int))) = false → (-9223372036854775808 ≤ (price * k) ∧ (price * k) ≤ 9223372036854775807) ∧ (-9223372036854775808 ≤ (best - (price * k)) ∧ (best - (price * k)) ≤ 9223372036854775807) ∧ (((best - (price * k)) = (prcd values k price)))))))
theorem i_priceBound_vc (values : List Int) (k : Int) (price : Int) (hv : ∀ x ∈ values, 0 ≤ x ∧ x ≤ 693) (hl : 0 < values.length ∧ values.length ≤ 7) (hk : 0 ≤ k ∧ k ≤ 7) (hp : 0 ≤ price ∧ price ≤ 999) (w_values : (values.length : Int) ≤ 9223372036854775807) : i_priceBound_P values k price := by
  unfold i_priceBound_P
  refine ⟨?_, ?_, ?_, ?_, ?_, ?_⟩
  · first | omega | rfl | (intro hg; simp only [nrmT] at hg; omega) | (intro g1 g2; simp [g1, g2]; done) | (intro g1; simp at g1 ⊢; simp [g1]; done) | (simp only [nrmT] at *; omega) | (simp at * <;> omega) | (simp_all <;> omega) | (simp_all; done)
  · first | omega | rfl | (intro hg; simp only [nrmT] at hg; omega) | (intro g1 g2; simp [g1, g2]; done) | (intro g1; simp at g1 ⊢; simp [g1]; done) | (simp only [nrmT] at *; omega) | (simp at * <;> omega) | (simp_all <;> omega) | (simp_all; done)
  · first | omega | rfl | (intro hg; simp only [nrmT] at hg; omega) | (intro g1 g2; simp [g1, g2]; done) | (intro g1; simp at g1 ⊢; simp [g1]; done) | (simp only [nrmT] at *; omega) | (simp at * <;> omega) | (simp_all <;> omega) | (simp_all; done)
  · have v0 := hv _ (getD_mem (d := 0) hl.1)
    omega
  · refine ⟨((values.getD 0 0) + price), 0, ?_⟩
    refine ⟨?_, rfl, rfl, rfl, rfl, rfl, rfl⟩
    · refine ⟨?_, ?_, ?_, ?_⟩
      · first | omega | rfl | (intro hg; simp only [nrmT] at hg; omega) | (intro g1 g2; simp [g1, g2]; done) | (intro g1; simp at g1 ⊢; simp [g1]; done) | (simp only [nrmT] at *; omega) | (simp at * <;> omega) | (simp_all <;> omega) | (simp_all; done)
      · first | omega | rfl | (intro hg; simp only [nrmT] at hg; omega) | (intro g1 g2; simp [g1, g2]; done) | (intro g1; simp at g1 ⊢; simp [g1]; done) | (simp only [nrmT] at *; omega) | (simp at * <;> omega) | (simp_all <;> omega) | (simp_all; done)
      · first | (rw [show (1 : Int).toNat = 1 from rfl, mnTo_one]; unfold prF; omega) | (show _ = prF values price 0; unfold prF; omega)
      · have v0 := hv _ (getD_mem (d := 0) hl.1)
        omega
  · intro best i hJ
    obtain ⟨h1, h2, h3, h4⟩ := hJ
    refine ⟨?_, ?_⟩
    · intro b1
      try simp only [nrmT] at b1
      refine ⟨?_, ?_, ?_, ?_, ?_, ?_, ?_, ?_⟩
      · first | omega | rfl | (intro hg; simp only [nrmT] at hg; omega) | (intro g1 g2; simp [g1, g2]; done) | (intro g1; simp at g1 ⊢; simp [g1]; done) | (simp only [nrmT] at *; omega) | (simp at * <;> omega) | (simp_all <;> omega) | (simp_all; done)
      · first | omega | rfl | (intro hg; simp only [nrmT] at hg; omega) | (intro g1 g2; simp [g1, g2]; done) | (intro g1; simp at g1 ⊢; simp [g1]; done) | (simp only [nrmT] at *; omega) | (simp at * <;> omega) | (simp_all <;> omega) | (simp_all; done)
      · first | omega | rfl | (intro hg; simp only [nrmT] at hg; omega) | (intro g1 g2; simp [g1, g2]; done) | (intro g1; simp at g1 ⊢; simp [g1]; done) | (simp only [nrmT] at *; omega) | (simp at * <;> omega) | (simp_all <;> omega) | (simp_all; done)
      · first | omega | rfl | (intro hg; simp only [nrmT] at hg; omega) | (intro g1 g2; simp [g1, g2]; done) | (intro g1; simp at g1 ⊢; simp [g1]; done) | (simp only [nrmT] at *; omega) | (simp at * <;> omega) | (simp_all <;> omega) | (simp_all; done)
      · have v1 := hv _ (getD_mem (d := 0) (show i.toNat < values.length by omega))
        have v2 := mulB hp (q := i + 1) (n := 7) (by omega)
        omega
      · have v1 := hv _ (getD_mem (d := 0) (show i.toNat < values.length by omega))
        have v2 := mulB hp (q := i + 1) (n := 7) (by omega)
        omega
      · first | omega | rfl | (intro hg; simp only [nrmT] at hg; omega) | (intro g1 g2; simp [g1, g2]; done) | (intro g1; simp at g1 ⊢; simp [g1]; done) | (simp only [nrmT] at *; omega) | (simp at * <;> omega) | (simp_all <;> omega) | (simp_all; done)
      · refine ⟨(min best ((values.getD i.toNat 0) + (price * (i + 1)))), (i + 1), ?_⟩
        refine ⟨?_, ?_, rfl, rfl, rfl, rfl, rfl, rfl⟩
        · refine ⟨?_, ?_, ?_, ?_⟩
          · first | omega | rfl | (intro hg; simp only [nrmT] at hg; omega) | (intro g1 g2; simp [g1, g2]; done) | (intro g1; simp at g1 ⊢; simp [g1]; done) | (simp only [nrmT] at *; omega) | (simp at * <;> omega) | (simp_all <;> omega) | (simp_all; done)
          · first | omega | rfl | (intro hg; simp only [nrmT] at hg; omega) | (intro g1 g2; simp [g1, g2]; done) | (intro g1; simp at g1 ⊢; simp [g1]; done) | (simp only [nrmT] at *; omega) | (simp at * <;> omega) | (simp_all <;> omega) | (simp_all; done)
          · rw [show (i + 1).toNat = i.toNat + 1 by omega, mnTo_succ, ← h3]
            unfold prF
            rw [show ((i.toNat : Nat) : Int) + 1 = i + 1 by omega]
          · have v1 := hv _ (getD_mem (d := 0) (show i.toNat < values.length by omega))
            have v2 := mulB hp (q := i + 1) (n := 7) (by omega)
            omega
        · first | (show _ < _; omega) | (simp only [i_priceBound_mJ0]; omega) | (simp only [i_priceBound_mJ0] at *; simp at *; omega)
    · intro b2
      try simp only [nrmT] at b2
      refine ⟨?_, ?_, ?_⟩
      · have v3 := mulB hp (q := k) (n := 7) hk
        omega
      · have v3 := mulB hp (q := k) (n := 7) hk
        omega
      · rw [h3, show i.toNat = values.length by omega]; rfl
theorem i_priceBound_pc (values : List Int) (k : Int) (price : Int) (hv : ∀ x ∈ values, 0 ≤ x ∧ x ≤ 693) (hl : 0 < values.length ∧ values.length ≤ 7) (hk : 0 ≤ k ∧ k ≤ 7) (hp : 0 ≤ price ∧ price ≤ 999) : PC Try.prog 105 [.sl (.ints values), .int .i64 k, .int .i64 price] (.one (.d (.int .i64 (prcd values k price)))) :=
  pc_wf @Try.call105 fun hw => pc_by (by kernel_rfl) Try.func105 @Try.call105 (by kernel_rfl) i_priceBound_C (i_priceBound_A values k price) (by kernel_rfl) (i_priceBound_vc values k price hv hl hk hp hw.1) (by kernel_rfl)
def i_priceBound_orc : List D → Orc := orcN [some .ints, none, none] fun ds => match ds with
  | [.sl (.ints values), .int .i64 k, .int .i64 price] => some (.one (.d (.int .i64 (prcd values k price))))
  | _ => none
abbrev s_l4Bound_JJ0 (Open : List Int) (Dist : List (List Int)) (k : Int) (price : Int) (best : Int) (i : Int) : Prop := (1 ≤ i) ∧ (i ≤ ((setsL (Open.length : Int).toNat).length : Int)) ∧ (best = mnTo (bnF Dist (setsL (Open.length : Int).toNat) price) i.toNat) ∧ (0 ≤ best ∧ best ≤ 7686)
abbrev s_l4Bound_mJ0 (Open : List Int) (Dist : List (List Int)) (k : Int) (price : Int) (best : Int) (i : Int) : Nat := ((setsL (Open.length : Int).toNat).length - i).toNat
def s_l4Bound_C (f : FuncId) (ds : List D) : Orc := bif Nat.beq f 98 then s_l2Sets_orc ds else bif Nat.beq f 93 then s_l2Serve_orc ds else bif Nat.beq f 163 then s_l1Least_orc ds else .no
def s_l4Bound_A (Open : List Int) (Dist : List (List Int)) (k : Int) (price : Int) : Ann := .two (.none) (.two (.none) (.two (.none) (.two (.two (.none) (.loop (cut2 (fun (best : Int) (i : Int) => s_l4Bound_JJ0 Open Dist k price best i) (fun (best : Int) (i : Int) => [(1, .d false (.int .i64 k)), (2, .d false (.int .i64 price)), (3, .ptr 3 0), (7, .d true (.sl (.rows (setsL (Open.length : Int).toNat)))), (8, .d true (.int .i64 best)), (9, .d true (.int .i64 i))]) (fun (best : Int) (i : Int) => [(3, .box 37 [.d false (.sl (.ints Open)), .d false (.sl (.rows Dist))])])) (fun g => s_l4Bound_mJ0 Open Dist k price g.1 g.2) (fun _ => .none))) (.none))))
def s_l4Bound_P (Open : List Int) (Dist : List (List Int)) (k : Int) (price : Int) : Prop :=
  (PC Try.prog 98 [.int .i64 (Open.length : Int)] (.one (.d (.sl (.rows (setsL (Open.length : Int).toNat)))))) ∧ (true = true) ∧ ((0 : Int) ≤ 0) ∧ ((0 : Int) < (setsL (Open.length : Int).toNat).length) ∧ (0 < (setsL (Open.length : Int).toNat).length) ∧ (PC Try.prog 93 [.agg [.sl (.ints Open), .sl (.rows Dist)], .sl (.ints ((setsL (Open.length : Int).toNat).getD 0 []))] (.one (.d (.int .i64 (servOf Dist ((setsL (Open.length : Int).toNat).getD 0 [])))))) ∧ ((0 : Int) ≤ 0) ∧ ((0 : Int) < (setsL (Open.length : Int).toNat).length) ∧ (0 < (setsL (Open.length : Int).toNat).length) ∧ (-9223372036854775808 ≤ (price * (((setsL (Open.length : Int).toNat).getD 0 []).length : Int)) ∧ (price * (((setsL (Open.length : Int).toNat).getD 0 []).length : Int)) ≤ 9223372036854775807) ∧ (-9223372036854775808 ≤ ((servOf Dist ((setsL (Open.length : Int).toNat).getD 0 [])) + (price * (((setsL (Open.length : Int).toNat).getD 0 []).length : Int))) ∧ ((servOf Dist ((setsL (Open.length : Int).toNat).getD 0 [])) + (price * (((setsL (Open.length : Int).toNat).getD 0 []).length : Int))) ≤ 9223372036854775807) ∧ ((∃ best' : Int, ∃ i' : Int, (s_l4Bound_JJ0 Open Dist k price best' i') ∧ (k = k) ∧ (price = price) ∧ ((setsL (Open.length : Int).toNat) = (setsL (Open.length : Int).toNat)) ∧ (((servOf Dist ((setsL (Open.length : Int).toNat).getD 0 [])) + (price * (((setsL (Open.length : Int).toNat).getD 0 []).length : Int))) = best') ∧ ((1 : Int) = i') ∧ (Open = Open) ∧ (Dist = Dist)) ∧ (∀ best : Int, ∀ i : Int, (s_l4Bound_JJ0 Open Dist k price best i) → (((decide (i < (((setsL (Open.length : Int).toNat).length) : Int))) = true → (true = true) ∧ ((0 : Int) ≤ i) ∧ ((i : Int) < (setsL (Open.length : Int).toNat).length) ∧ (i.toNat < (setsL (Open.length : Int).toNat).length) ∧ (PC Try.prog 93 [.agg [.sl (.ints Open), .sl (.rows Dist)], .sl (.ints ((setsL (Open.length : Int).toNat).getD i.toNat []))] (.one (.d (.int .i64 (servOf Dist ((setsL (Open.length : Int).toNat).getD i.toNat [])))))) ∧ ((0 : Int) ≤ i) ∧ ((i : Int) < (setsL (Open.length : Int).toNat).length) ∧ (i.toNat < (setsL (Open.length : Int).toNat).length) ∧ (-9223372036854775808 ≤ (price * (((setsL (Open.length : Int).toNat).getD i.toNat []).length : Int)) ∧ (price * (((setsL (Open.length : Int).toNat).getD i.toNat []).length : Int)) ≤ 9223372036854775807) ∧ (-9223372036854775808 ≤ ((servOf Dist ((setsL (Open.length : Int).toNat).getD i.toNat [])) + (price * (((setsL (Open.length : Int).toNat).getD i.toNat []).length : Int))) ∧ ((servOf Dist ((setsL (Open.length : Int).toNat).getD i.toNat [])) + (price * (((setsL (Open.length : Int).toNat).getD i.toNat []).length : Int))) ≤ 9223372036854775807) ∧ (PC Try.prog 163 [.int .i64 best, .int .i64 ((servOf Dist ((setsL (Open.length : Int).toNat).getD i.toNat [])) + (price * (((setsL (Open.length : Int).toNat).getD i.toNat []).length : Int)))] (.one (.d (.int .i64 (min best ((servOf Dist ((setsL (Open.length : Int).toNat).getD i.toNat [])) + (price * (((setsL (Open.length : Int).toNat).getD i.toNat []).length : Int)))))))) ∧ (-9223372036854775808 ≤ (i + 1) ∧ (i + 1) ≤ 9223372036854775807) ∧ (∃ best' : Int, ∃ i' : Int, (s_l4Bound_JJ0 Open Dist k price best' i') ∧ (s_l4Bound_mJ0 Open Dist k price best' i' < s_l4Bound_mJ0 Open Dist k price best i) ∧ (k = k) ∧ (price = price) ∧ ((setsL (Open.length : Int).toNat) = (setsL (Open.length : Int).toNat)) ∧ ((min best ((servOf Dist ((setsL (Open.length : Int).toNat).getD i.toNat [])) + (price * (((setsL (Open.length : Int).toNat).getD i.toNat []).length : Int)))) = best') ∧ ((i + 1) = i') ∧ (Open = Open) ∧ (Dist = Dist))) ∧ ((decide (i < (((setsL (Open.length : Int).toNat).length) : Int))) = false → (-9223372036854775808 ≤ (price * k) ∧ (price * k) ≤ 9223372036854775807) ∧ (-9223372036854775808 ≤ (best - (price * k)) ∧ (best - (price * k)) ≤ 9223372036854775807) ∧ (((best - (price * k)) = (prcd (valsL Open Dist Open.length) k price)))))))
theorem s_l4Bound_vc (Open : List Int) (Dist : List (List Int)) (k : Int) (price : Int) (hg : goodField Open Dist = true) (hk : 1 ≤ k ∧ k ≤ (Open.length : Int)) (hp : 0 ≤ price ∧ price ≤ 999) (w_Open : (Open.length : Int) ≤ 9223372036854775807) (w_Dist : (Dist.length : Int) ≤ 9223372036854775807) (v_Dist : ∀ x9 ∈ Dist, (x9.length : Int) ≤ 9223372036854775807) : s_l4Bound_P Open Dist k price := by
  unfold s_l4Bound_P
  obtain ⟨g1, g2, g3⟩ := gf_open hg
  have sb := sets_big (n := (Open.length : Int).toNat) (by omega)
  have sl := sets_small (n := (Open.length : Int).toNat) (by omega)
  refine ⟨?_, rfl, ?_, ?_, ?_, ?_, ?_, ?_, ?_, ?_, ?_, ?_, ?_⟩
  · refine s_l2Sets_pc (Open.length : Int) ?_
    · omega
  · first | omega | rfl | (intro hg; simp only [nrmT] at hg; omega) | (intro g1 g2; simp [g1, g2]; done) | (intro g1; simp at g1 ⊢; simp [g1]; done) | (simp only [nrmT] at *; omega) | (simp at * <;> omega) | (simp_all <;> omega) | (simp_all; done)
  · first | omega | rfl | (intro hg; simp only [nrmT] at hg; omega) | (intro g1 g2; simp [g1, g2]; done) | (intro g1; simp at g1 ⊢; simp [g1]; done) | (simp only [nrmT] at *; omega) | (simp at * <;> omega) | (simp_all <;> omega) | (simp_all; done)
  · first | omega | rfl | (intro hg; simp only [nrmT] at hg; omega) | (intro g1 g2; simp [g1, g2]; done) | (intro g1; simp at g1 ⊢; simp [g1]; done) | (simp only [nrmT] at *; omega) | (simp at * <;> omega) | (simp_all <;> omega) | (simp_all; done)
  · refine s_l2Serve_pc Open Dist ((setsL (Open.length : Int).toNat).getD 0 []) ?_
    · exact (set_two hg (getD_mem (d := []) sb)).1
  · first | omega | rfl | (intro hg; simp only [nrmT] at hg; omega) | (intro g1 g2; simp [g1, g2]; done) | (intro g1; simp at g1 ⊢; simp [g1]; done) | (simp only [nrmT] at *; omega) | (simp at * <;> omega) | (simp_all <;> omega) | (simp_all; done)
  · first | omega | rfl | (intro hg; simp only [nrmT] at hg; omega) | (intro g1 g2; simp [g1, g2]; done) | (intro g1; simp at g1 ⊢; simp [g1]; done) | (simp only [nrmT] at *; omega) | (simp at * <;> omega) | (simp_all <;> omega) | (simp_all; done)
  · first | omega | rfl | (intro hg; simp only [nrmT] at hg; omega) | (intro g1 g2; simp [g1, g2]; done) | (intro g1; simp at g1 ⊢; simp [g1]; done) | (simp only [nrmT] at *; omega) | (simp at * <;> omega) | (simp_all <;> omega) | (simp_all; done)
  · have s1 := set_two hg (getD_mem (d := []) (show 0 < (setsL (Open.length : Int).toNat).length by omega))
    have s2 := servOf_in s1.1
    have s3 := mulB hp (q := (((setsL (Open.length : Int).toNat).getD 0 []).length : Int)) (n := 7) (by omega)
    omega
  · have s1 := set_two hg (getD_mem (d := []) (show 0 < (setsL (Open.length : Int).toNat).length by omega))
    have s2 := servOf_in s1.1
    have s3 := mulB hp (q := (((setsL (Open.length : Int).toNat).getD 0 []).length : Int)) (n := 7) (by omega)
    omega
  · refine ⟨((servOf Dist ((setsL (Open.length : Int).toNat).getD 0 [])) + (price * (((setsL (Open.length : Int).toNat).getD 0 []).length : Int))), 1, ?_⟩
    refine ⟨?_, rfl, rfl, rfl, rfl, rfl, rfl, rfl⟩
    · refine ⟨?_, ?_, ?_, ?_⟩
      · first | omega | rfl | (intro hg; simp only [nrmT] at hg; omega) | (intro g1 g2; simp [g1, g2]; done) | (intro g1; simp at g1 ⊢; simp [g1]; done) | (simp only [nrmT] at *; omega) | (simp at * <;> omega) | (simp_all <;> omega) | (simp_all; done)
      · first | omega | rfl | (intro hg; simp only [nrmT] at hg; omega) | (intro g1 g2; simp [g1, g2]; done) | (intro g1; simp at g1 ⊢; simp [g1]; done) | (simp only [nrmT] at *; omega) | (simp at * <;> omega) | (simp_all <;> omega) | (simp_all; done)
      · rw [show (1 : Int).toNat = 1 from rfl, mnTo_one]; rfl
      · have s1 := set_two hg (getD_mem (d := []) (show 0 < (setsL (Open.length : Int).toNat).length by omega))
        have s2 := servOf_in s1.1
        have s3 := mulB hp (q := (((setsL (Open.length : Int).toNat).getD 0 []).length : Int)) (n := 7) (by omega)
        omega
  · intro best i hJ
    obtain ⟨h1, h2, h3, h4⟩ := hJ
    refine ⟨?_, ?_⟩
    · intro b1
      try simp only [nrmT] at b1
      refine ⟨rfl, ?_, ?_, ?_, ?_, ?_, ?_, ?_, ?_, ?_, s_l1Least_pc best ((servOf Dist ((setsL (Open.length : Int).toNat).getD i.toNat [])) + (price * (((setsL (Open.length : Int).toNat).getD i.toNat []).length : Int))), ?_, ?_⟩
      · first | omega | rfl | (intro hg; simp only [nrmT] at hg; omega) | (intro g1 g2; simp [g1, g2]; done) | (intro g1; simp at g1 ⊢; simp [g1]; done) | (simp only [nrmT] at *; omega) | (simp at * <;> omega) | (simp_all <;> omega) | (simp_all; done)
      · first | omega | rfl | (intro hg; simp only [nrmT] at hg; omega) | (intro g1 g2; simp [g1, g2]; done) | (intro g1; simp at g1 ⊢; simp [g1]; done) | (simp only [nrmT] at *; omega) | (simp at * <;> omega) | (simp_all <;> omega) | (simp_all; done)
      · first | omega | rfl | (intro hg; simp only [nrmT] at hg; omega) | (intro g1 g2; simp [g1, g2]; done) | (intro g1; simp at g1 ⊢; simp [g1]; done) | (simp only [nrmT] at *; omega) | (simp at * <;> omega) | (simp_all <;> omega) | (simp_all; done)
      · refine s_l2Serve_pc Open Dist ((setsL (Open.length : Int).toNat).getD i.toNat []) ?_
        · exact (set_two hg (getD_mem (d := []) (show i.toNat < (setsL (Open.length : Int).toNat).length by omega))).1
      · first | omega | rfl | (intro hg; simp only [nrmT] at hg; omega) | (intro g1 g2; simp [g1, g2]; done) | (intro g1; simp at g1 ⊢; simp [g1]; done) | (simp only [nrmT] at *; omega) | (simp at * <;> omega) | (simp_all <;> omega) | (simp_all; done)
      · first | omega | rfl | (intro hg; simp only [nrmT] at hg; omega) | (intro g1 g2; simp [g1, g2]; done) | (intro g1; simp at g1 ⊢; simp [g1]; done) | (simp only [nrmT] at *; omega) | (simp at * <;> omega) | (simp_all <;> omega) | (simp_all; done)
      · first | omega | rfl | (intro hg; simp only [nrmT] at hg; omega) | (intro g1 g2; simp [g1, g2]; done) | (intro g1; simp at g1 ⊢; simp [g1]; done) | (simp only [nrmT] at *; omega) | (simp at * <;> omega) | (simp_all <;> omega) | (simp_all; done)
      · have s1 := set_two hg (getD_mem (d := []) (show i.toNat < (setsL (Open.length : Int).toNat).length by omega))
        have s2 := servOf_in s1.1
        have s3 := mulB hp (q := (((setsL (Open.length : Int).toNat).getD i.toNat []).length : Int)) (n := 7) (by omega)
        omega
      · have s1 := set_two hg (getD_mem (d := []) (show i.toNat < (setsL (Open.length : Int).toNat).length by omega))
        have s2 := servOf_in s1.1
        have s3 := mulB hp (q := (((setsL (Open.length : Int).toNat).getD i.toNat []).length : Int)) (n := 7) (by omega)
        omega
      · first | omega | rfl | (intro hg; simp only [nrmT] at hg; omega) | (intro g1 g2; simp [g1, g2]; done) | (intro g1; simp at g1 ⊢; simp [g1]; done) | (simp only [nrmT] at *; omega) | (simp at * <;> omega) | (simp_all <;> omega) | (simp_all; done)
      · refine ⟨(min best ((servOf Dist ((setsL (Open.length : Int).toNat).getD i.toNat [])) + (price * (((setsL (Open.length : Int).toNat).getD i.toNat []).length : Int)))), (i + 1), ?_⟩
        refine ⟨?_, ?_, rfl, rfl, rfl, rfl, rfl, rfl, rfl⟩
        · refine ⟨?_, ?_, ?_, ?_⟩
          · first | omega | rfl | (intro hg; simp only [nrmT] at hg; omega) | (intro g1 g2; simp [g1, g2]; done) | (intro g1; simp at g1 ⊢; simp [g1]; done) | (simp only [nrmT] at *; omega) | (simp at * <;> omega) | (simp_all <;> omega) | (simp_all; done)
          · first | omega | rfl | (intro hg; simp only [nrmT] at hg; omega) | (intro g1 g2; simp [g1, g2]; done) | (intro g1; simp at g1 ⊢; simp [g1]; done) | (simp only [nrmT] at *; omega) | (simp at * <;> omega) | (simp_all <;> omega) | (simp_all; done)
          · rw [show (i + 1).toNat = i.toNat + 1 by omega, mnTo_succ, ← h3]; rfl
          · have s1 := set_two hg (getD_mem (d := []) (show i.toNat < (setsL (Open.length : Int).toNat).length by omega))
            have s2 := servOf_in s1.1
            have s3 := mulB hp (q := (((setsL (Open.length : Int).toNat).getD i.toNat []).length : Int)) (n := 7) (by omega)
            omega
        · first | (show _ < _; omega) | (simp only [s_l4Bound_mJ0]; omega) | (simp only [s_l4Bound_mJ0] at *; simp at *; omega)
    · intro b2
      try simp only [nrmT] at b2
      refine ⟨?_, ?_, ?_⟩
      · have v3 := mulB hp (q := k) (n := 7) (by omega)
        omega
      · have v3 := mulB hp (q := k) (n := 7) (by omega)
        omega
      · unfold prcd
        rw [h3, show i.toNat = (setsL (Open.length : Int).toNat).length by omega, bound_eq hg, valsL_len]
theorem s_l4Bound_pc (Open : List Int) (Dist : List (List Int)) (k : Int) (price : Int) (hg : goodField Open Dist = true) (hk : 1 ≤ k ∧ k ≤ (Open.length : Int)) (hp : 0 ≤ price ∧ price ≤ 999) : PC Try.prog 104 [.agg [.sl (.ints Open), .sl (.rows Dist)], .int .i64 k, .int .i64 price] (.one (.d (.int .i64 (prcd (valsL Open Dist Open.length) k price)))) :=
  pc_wf @Try.call104 fun hw => pc_by (by kernel_rfl) Try.func104 @Try.call104 (by kernel_rfl) s_l4Bound_C (s_l4Bound_A Open Dist k price) (by kernel_rfl) (s_l4Bound_vc Open Dist k price hg hk hp hw.1.1 hw.1.2.1.1 hw.1.2.1.2) (by kernel_rfl)
def s_l4Bound_orc : List D → Orc := orcN [none, none, none] fun ds => match ds with
  | [.agg [.sl (.ints Open), .sl (.rows Dist)], .int .i64 k, .int .i64 price] => some (.one (.d (.int .i64 (prcd (valsL Open Dist Open.length) k price))))
  | _ => none
def s_PriceBound_C (f : FuncId) (ds : List D) : Orc := bif Nat.beq f 92 then s_l4K_orc ds else bif Nat.beq f 78 then s_l1In_orc ds else bif Nat.beq f 104 then s_l4Bound_orc ds else .no
def s_PriceBound_A (Open : List Int) (Dist : List (List Int)) (k : Int) (price : Int) : Ann := .none
def s_PriceBound_P (Open : List Int) (Dist : List (List Int)) (k : Int) (price : Int) : Prop :=
  (PC Try.prog 92 [.agg [.sl (.ints Open), .sl (.rows Dist)], .int .i64 k] (.one (.d (.bool (goodField Open Dist && inB k 1 (Open.length : Int)))))) ∧ ((!(!(goodField Open Dist && inB k 1 (Open.length : Int)))) = true → (!(!(goodField Open Dist && inB k 1 (Open.length : Int)))) = true) ∧ ((!(!(goodField Open Dist && inB k 1 (Open.length : Int)))) = true → PC Try.prog 78 [.int .i64 price, .int .i64 0, .int .i64 999] (.one (.d (.bool (inB price 0 999))))) ∧ ((!(!(goodField Open Dist && inB k 1 (Open.length : Int)))) = true → (!(!(goodField Open Dist && inB k 1 (Open.length : Int)))) = true) ∧ (true = true) ∧ (((!(goodField Open Dist && inB k 1 (Open.length : Int))) = true → true = true)) ∧ (((!(goodField Open Dist && inB k 1 (Open.length : Int))) = false → (!(!(goodField Open Dist && inB k 1 (Open.length : Int)))) = true)) ∧ (((cond (!(goodField Open Dist && inB k 1 (Open.length : Int))) true (!(inB price 0 999))) = true → (((0 : Int) = (pbL Open Dist k price)) ∧ (false = ((goodField Open Dist && inB k 1 (Open.length : Int)) && inB price 0 999)))) ∧ ((cond (!(goodField Open Dist && inB k 1 (Open.length : Int))) true (!(inB price 0 999))) = false → (PC Try.prog 104 [.agg [.sl (.ints Open), .sl (.rows Dist)], .int .i64 k, .int .i64 price] (.one (.d (.int .i64 (prcd (valsL Open Dist Open.length) k price))))) ∧ (((prcd (valsL Open Dist Open.length) k price) = (pbL Open Dist k price)) ∧ (true = ((goodField Open Dist && inB k 1 (Open.length : Int)) && inB price 0 999)))))
theorem s_PriceBound_vc (Open : List Int) (Dist : List (List Int)) (k : Int) (price : Int)  (w_Open : (Open.length : Int) ≤ 9223372036854775807) (w_Dist : (Dist.length : Int) ≤ 9223372036854775807) (v_Dist : ∀ x9 ∈ Dist, (x9.length : Int) ≤ 9223372036854775807) : s_PriceBound_P Open Dist k price := by
  unfold s_PriceBound_P
  refine ⟨s_l4K_pc Open Dist k, id, fun _ => s_l1In_pc price 0 999, id, rfl, fun _ => rfl, ?_, ?_, ?_⟩
  · intro h; rw [h]; rfl
  · intro b1
    refine ⟨?_, ?_⟩
    · have hq : ((goodField Open Dist && inB k 1 (Open.length : Int)) && inB price 0 999) = false := by
        revert b1; cases (goodField Open Dist && inB k 1 (Open.length : Int)) <;> cases inB price 0 999 <;> simp
      unfold pbL; rw [hq]; rfl
    · have hq : ((goodField Open Dist && inB k 1 (Open.length : Int)) && inB price 0 999) = false := by
        revert b1; cases (goodField Open Dist && inB k 1 (Open.length : Int)) <;> cases inB price 0 999 <;> simp
      exact hq.symm
  · intro b2
    refine ⟨?_, ?_, ?_⟩
    · refine s_l4Bound_pc Open Dist k price ?_ ?_ ?_
      · have hq : ((goodField Open Dist && inB k 1 (Open.length : Int)) && inB price 0 999) = true := by
          revert b2; cases (goodField Open Dist && inB k 1 (Open.length : Int)) <;> cases inB price 0 999 <;> simp
        obtain ⟨q1, q2⟩ := (Bool.and_eq_true _ _ ▸ hq : _ ∧ _)
        obtain ⟨hg, hk⟩ := (Bool.and_eq_true _ _ ▸ q1 : _ ∧ _)
        have hk2 := inB_le hk
        have hp2 := inB_le q2
        obtain ⟨g1, g2, g3⟩ := gf_open hg
        exact hg
      · have hq : ((goodField Open Dist && inB k 1 (Open.length : Int)) && inB price 0 999) = true := by
          revert b2; cases (goodField Open Dist && inB k 1 (Open.length : Int)) <;> cases inB price 0 999 <;> simp
        obtain ⟨q1, q2⟩ := (Bool.and_eq_true _ _ ▸ hq : _ ∧ _)
        obtain ⟨hg, hk⟩ := (Bool.and_eq_true _ _ ▸ q1 : _ ∧ _)
        have hk2 := inB_le hk
        have hp2 := inB_le q2
        obtain ⟨g1, g2, g3⟩ := gf_open hg
        exact hk2
      · have hq : ((goodField Open Dist && inB k 1 (Open.length : Int)) && inB price 0 999) = true := by
          revert b2; cases (goodField Open Dist && inB k 1 (Open.length : Int)) <;> cases inB price 0 999 <;> simp
        obtain ⟨q1, q2⟩ := (Bool.and_eq_true _ _ ▸ hq : _ ∧ _)
        obtain ⟨hg, hk⟩ := (Bool.and_eq_true _ _ ▸ q1 : _ ∧ _)
        have hk2 := inB_le hk
        have hp2 := inB_le q2
        obtain ⟨g1, g2, g3⟩ := gf_open hg
        exact hp2
    · have hq : ((goodField Open Dist && inB k 1 (Open.length : Int)) && inB price 0 999) = true := by
        revert b2; cases (goodField Open Dist && inB k 1 (Open.length : Int)) <;> cases inB price 0 999 <;> simp
      obtain ⟨q1, q2⟩ := (Bool.and_eq_true _ _ ▸ hq : _ ∧ _)
      obtain ⟨hg, hk⟩ := (Bool.and_eq_true _ _ ▸ q1 : _ ∧ _)
      have hk2 := inB_le hk
      have hp2 := inB_le q2
      obtain ⟨g1, g2, g3⟩ := gf_open hg
      unfold pbL; rw [if_pos hq]
    · have hq : ((goodField Open Dist && inB k 1 (Open.length : Int)) && inB price 0 999) = true := by
        revert b2; cases (goodField Open Dist && inB k 1 (Open.length : Int)) <;> cases inB price 0 999 <;> simp
      obtain ⟨q1, q2⟩ := (Bool.and_eq_true _ _ ▸ hq : _ ∧ _)
      obtain ⟨hg, hk⟩ := (Bool.and_eq_true _ _ ▸ q1 : _ ∧ _)
      have hk2 := inB_le hk
      have hp2 := inB_le q2
      obtain ⟨g1, g2, g3⟩ := gf_open hg
      exact hq.symm
theorem s_PriceBound_pc (Open : List Int) (Dist : List (List Int)) (k : Int) (price : Int)  : PC Try.prog 46 [.agg [.sl (.ints Open), .sl (.rows Dist)], .int .i64 k, .int .i64 price] (.tup [.d (.int .i64 (pbL Open Dist k price)), .d (.bool ((goodField Open Dist && inB k 1 (Open.length : Int)) && inB price 0 999))]) :=
  pc_wf @Try.call46 fun hw => pc_by (by kernel_rfl) Try.func46 @Try.call46 (by kernel_rfl) s_PriceBound_C (s_PriceBound_A Open Dist k price) (by kernel_rfl) (s_PriceBound_vc Open Dist k price hw.1.1 hw.1.2.1.1 hw.1.2.1.2) (by kernel_rfl)
def s_PriceBound_orc : List D → Orc := orcN [none, none, none] fun ds => match ds with
  | [.agg [.sl (.ints Open), .sl (.rows Dist)], .int .i64 k, .int .i64 price] => some (.tup [.d (.int .i64 (pbL Open Dist k price)), .d (.bool ((goodField Open Dist && inB k 1 (Open.length : Int)) && inB price 0 999))])
  | _ => none
def i_PriceBound_C (f : FuncId) (ds : List D) : Orc := bif Nat.beq f 95 then i_isMedianCase_orc ds else bif Nat.beq f 82 then i_between_orc ds else bif Nat.beq f 106 then i_Field_values_orc ds else bif Nat.beq f 105 then i_priceBound_orc ds else .no
def i_PriceBound_A (Open : List Int) (Dist : List (List Int)) (k : Int) (price : Int) : Ann := .none
def i_PriceBound_P (Open : List Int) (Dist : List (List Int)) (k : Int) (price : Int) : Prop :=
  (PC Try.prog 95 [.agg [.sl (.ints Open), .sl (.rows Dist)], .int .i64 k] (.one (.d (.bool (goodField Open Dist && inB k 1 (Open.length : Int)))))) ∧ ((!(!(goodField Open Dist && inB k 1 (Open.length : Int)))) = true → (!(!(goodField Open Dist && inB k 1 (Open.length : Int)))) = true) ∧ ((!(!(goodField Open Dist && inB k 1 (Open.length : Int)))) = true → PC Try.prog 82 [.int .i64 price, .int .i64 0, .int .i64 999] (.one (.d (.bool (inB price 0 999))))) ∧ ((!(!(goodField Open Dist && inB k 1 (Open.length : Int)))) = true → (!(!(goodField Open Dist && inB k 1 (Open.length : Int)))) = true) ∧ (true = true) ∧ (((!(goodField Open Dist && inB k 1 (Open.length : Int))) = true → true = true)) ∧ (((!(goodField Open Dist && inB k 1 (Open.length : Int))) = false → (!(!(goodField Open Dist && inB k 1 (Open.length : Int)))) = true)) ∧ (((cond (!(goodField Open Dist && inB k 1 (Open.length : Int))) true (!(inB price 0 999))) = true → (((0 : Int) = (pbL Open Dist k price)) ∧ (false = ((goodField Open Dist && inB k 1 (Open.length : Int)) && inB price 0 999)))) ∧ ((cond (!(goodField Open Dist && inB k 1 (Open.length : Int))) true (!(inB price 0 999))) = false → (PC Try.prog 106 [.agg [.sl (.ints Open), .sl (.rows Dist)]] (.one (.own 3 (.ints (valsL Open Dist Open.length))))) ∧ ((valsL Open Dist Open.length).length = (valsL Open Dist Open.length).length) ∧ (PC Try.prog 105 [.sl (.ints (valsL Open Dist Open.length)), .int .i64 k, .int .i64 price] (.one (.d (.int .i64 (prcd (valsL Open Dist Open.length) k price))))) ∧ (((prcd (valsL Open Dist Open.length) k price) = (pbL Open Dist k price)) ∧ (true = ((goodField Open Dist && inB k 1 (Open.length : Int)) && inB price 0 999)))))
theorem i_PriceBound_vc (Open : List Int) (Dist : List (List Int)) (k : Int) (price : Int)  (w_Open : (Open.length : Int) ≤ 9223372036854775807) (w_Dist : (Dist.length : Int) ≤ 9223372036854775807) (v_Dist : ∀ x9 ∈ Dist, (x9.length : Int) ≤ 9223372036854775807) : i_PriceBound_P Open Dist k price := by
  unfold i_PriceBound_P
  refine ⟨i_isMedianCase_pc Open Dist k, id, fun _ => i_between_pc price 0 999, id, rfl, fun _ => rfl, ?_, ?_, ?_⟩
  · intro h; rw [h]; rfl
  · intro b1
    refine ⟨?_, ?_⟩
    · have hq : ((goodField Open Dist && inB k 1 (Open.length : Int)) && inB price 0 999) = false := by
        revert b1; cases (goodField Open Dist && inB k 1 (Open.length : Int)) <;> cases inB price 0 999 <;> simp
      unfold pbL; rw [hq]; rfl
    · have hq : ((goodField Open Dist && inB k 1 (Open.length : Int)) && inB price 0 999) = false := by
        revert b1; cases (goodField Open Dist && inB k 1 (Open.length : Int)) <;> cases inB price 0 999 <;> simp
      exact hq.symm
  · intro b2
    refine ⟨?_, rfl, ?_, ?_, ?_⟩
    · refine i_Field_values_pc Open Dist ?_
      · have hq : ((goodField Open Dist && inB k 1 (Open.length : Int)) && inB price 0 999) = true := by
          revert b2; cases (goodField Open Dist && inB k 1 (Open.length : Int)) <;> cases inB price 0 999 <;> simp
        obtain ⟨q1, q2⟩ := (Bool.and_eq_true _ _ ▸ hq : _ ∧ _)
        obtain ⟨hg, hk⟩ := (Bool.and_eq_true _ _ ▸ q1 : _ ∧ _)
        have hk2 := inB_le hk
        have hp2 := inB_le q2
        obtain ⟨g1, g2, g3⟩ := gf_open hg
        exact hg
    · refine i_priceBound_pc (valsL Open Dist Open.length) k price ?_ ?_ ?_ ?_
      · have hq : ((goodField Open Dist && inB k 1 (Open.length : Int)) && inB price 0 999) = true := by
          revert b2; cases (goodField Open Dist && inB k 1 (Open.length : Int)) <;> cases inB price 0 999 <;> simp
        obtain ⟨q1, q2⟩ := (Bool.and_eq_true _ _ ▸ hq : _ ∧ _)
        obtain ⟨hg, hk⟩ := (Bool.and_eq_true _ _ ▸ q1 : _ ∧ _)
        have hk2 := inB_le hk
        have hp2 := inB_le q2
        obtain ⟨g1, g2, g3⟩ := gf_open hg
        exact valsL_in hg
      · have hq : ((goodField Open Dist && inB k 1 (Open.length : Int)) && inB price 0 999) = true := by
          revert b2; cases (goodField Open Dist && inB k 1 (Open.length : Int)) <;> cases inB price 0 999 <;> simp
        obtain ⟨q1, q2⟩ := (Bool.and_eq_true _ _ ▸ hq : _ ∧ _)
        obtain ⟨hg, hk⟩ := (Bool.and_eq_true _ _ ▸ q1 : _ ∧ _)
        have hk2 := inB_le hk
        have hp2 := inB_le q2
        obtain ⟨g1, g2, g3⟩ := gf_open hg
        rw [valsL_len]; omega
      · have hq : ((goodField Open Dist && inB k 1 (Open.length : Int)) && inB price 0 999) = true := by
          revert b2; cases (goodField Open Dist && inB k 1 (Open.length : Int)) <;> cases inB price 0 999 <;> simp
        obtain ⟨q1, q2⟩ := (Bool.and_eq_true _ _ ▸ hq : _ ∧ _)
        obtain ⟨hg, hk⟩ := (Bool.and_eq_true _ _ ▸ q1 : _ ∧ _)
        have hk2 := inB_le hk
        have hp2 := inB_le q2
        obtain ⟨g1, g2, g3⟩ := gf_open hg
        omega
      · have hq : ((goodField Open Dist && inB k 1 (Open.length : Int)) && inB price 0 999) = true := by
          revert b2; cases (goodField Open Dist && inB k 1 (Open.length : Int)) <;> cases inB price 0 999 <;> simp
        obtain ⟨q1, q2⟩ := (Bool.and_eq_true _ _ ▸ hq : _ ∧ _)
        obtain ⟨hg, hk⟩ := (Bool.and_eq_true _ _ ▸ q1 : _ ∧ _)
        have hk2 := inB_le hk
        have hp2 := inB_le q2
        obtain ⟨g1, g2, g3⟩ := gf_open hg
        exact hp2
    · have hq : ((goodField Open Dist && inB k 1 (Open.length : Int)) && inB price 0 999) = true := by
        revert b2; cases (goodField Open Dist && inB k 1 (Open.length : Int)) <;> cases inB price 0 999 <;> simp
      obtain ⟨q1, q2⟩ := (Bool.and_eq_true _ _ ▸ hq : _ ∧ _)
      obtain ⟨hg, hk⟩ := (Bool.and_eq_true _ _ ▸ q1 : _ ∧ _)
      have hk2 := inB_le hk
      have hp2 := inB_le q2
      obtain ⟨g1, g2, g3⟩ := gf_open hg
      unfold pbL; rw [if_pos hq]
    · have hq : ((goodField Open Dist && inB k 1 (Open.length : Int)) && inB price 0 999) = true := by
        revert b2; cases (goodField Open Dist && inB k 1 (Open.length : Int)) <;> cases inB price 0 999 <;> simp
      obtain ⟨q1, q2⟩ := (Bool.and_eq_true _ _ ▸ hq : _ ∧ _)
      obtain ⟨hg, hk⟩ := (Bool.and_eq_true _ _ ▸ q1 : _ ∧ _)
      have hk2 := inB_le hk
      have hp2 := inB_le q2
      obtain ⟨g1, g2, g3⟩ := gf_open hg
      exact hq.symm
theorem i_PriceBound_pc (Open : List Int) (Dist : List (List Int)) (k : Int) (price : Int)  : PC Try.prog 47 [.agg [.sl (.ints Open), .sl (.rows Dist)], .int .i64 k, .int .i64 price] (.tup [.d (.int .i64 (pbL Open Dist k price)), .d (.bool ((goodField Open Dist && inB k 1 (Open.length : Int)) && inB price 0 999))]) :=
  pc_wf @Try.call47 fun hw => pc_by (by kernel_rfl) Try.func47 @Try.call47 (by kernel_rfl) i_PriceBound_C (i_PriceBound_A Open Dist k price) (by kernel_rfl) (i_PriceBound_vc Open Dist k price hw.1.1 hw.1.2.1.1 hw.1.2.1.2) (by kernel_rfl)
def i_PriceBound_orc : List D → Orc := orcN [none, none, none] fun ds => match ds with
  | [.agg [.sl (.ints Open), .sl (.rows Dist)], .int .i64 k, .int .i64 price] => some (.tup [.d (.int .i64 (pbL Open Dist k price)), .d (.bool ((goodField Open Dist && inB k 1 (Open.length : Int)) && inB price 0 999))])
  | _ => none
def l_FnExactPriceBound_C (f : FuncId) (ds : List D) : Orc := bif Nat.beq f 27 then l_szField_orc ds else bif Nat.beq f 29 then l_toField_orc ds else bif Nat.beq f 46 then s_PriceBound_orc ds else bif Nat.beq f 47 then i_PriceBound_orc ds else bif Nat.beq f 32 then l_eqField_orc ds else .no
def l_FnExactPriceBound_A (Open : List Int) (Dist : List (List Int)) (k : Int) (price : Int) : Ann := .two (.none) (.two (.none) (.two (.none) (.two (.none) (.two (.reg [(1, .g)]) (.two (.reg [(1, .g)]) (.two (.none) (.two (.none) (.two (.two (.reg [(2, .g)]) (.none)) (.none)))))))))
def l_FnExactPriceBound_P (Open : List Int) (Dist : List (List Int)) (k : Int) (price : Int) : Prop :=
  (PC Try.prog 27 [.agg [.sl (.ints Open), .sl (.rows Dist)], .int .i64 1048576] (.one (.d (.int .i64 (szField Open Dist 1048576))))) ∧ (((decide ((szField Open Dist 1048576) < 0)) = true → ((true = true))) ∧ ((decide ((szField Open Dist 1048576) < 0)) = false → (PC Try.prog 29 [.agg [.sl (.ints Open), .sl (.rows Dist)]] (.one (.d (.agg [.sl (.ints Open), .sl (.rows Dist)])))) ∧ (PC Try.prog 46 [.agg [.sl (.ints Open), .sl (.rows Dist)], .int .i64 k, .int .i64 price] (.tup [.d (.int .i64 (pbL Open Dist k price)), .d (.bool ((goodField Open Dist && inB k 1 (Open.length : Int)) && inB price 0 999))])) ∧ (PC Try.prog 29 [.agg [.sl (.ints Open), .sl (.rows Dist)]] (.one (.d (.agg [.sl (.ints Open), .sl (.rows Dist)])))) ∧ (PC Try.prog 47 [.agg [.sl (.ints Open), .sl (.rows Dist)], .int .i64 k, .int .i64 price] (.tup [.d (.int .i64 (pbL Open Dist k price)), .d (.bool ((goodField Open Dist && inB k 1 (Open.length : Int)) && inB price 0 999))])) ∧ ((!((pbL Open Dist k price) != (pbL Open Dist k price))) = true → (!((pbL Open Dist k price) != (pbL Open Dist k price))) = true) ∧ ((!((pbL Open Dist k price) != (pbL Open Dist k price))) = true → (!((pbL Open Dist k price) != (pbL Open Dist k price))) = true) ∧ (true = true) ∧ ((((pbL Open Dist k price) != (pbL Open Dist k price)) = true → true = true)) ∧ ((((pbL Open Dist k price) != (pbL Open Dist k price)) = false → (!((pbL Open Dist k price) != (pbL Open Dist k price))) = true)) ∧ (((cond ((pbL Open Dist k price) != (pbL Open Dist k price)) true (((goodField Open Dist && inB k 1 (Open.length : Int)) && inB price 0 999) != ((goodField Open Dist && inB k 1 (Open.length : Int)) && inB price 0 999))) = true → ((false = true))) ∧ ((cond ((pbL Open Dist k price) != (pbL Open Dist k price)) true (((goodField Open Dist && inB k 1 (Open.length : Int)) && inB price 0 999) != ((goodField Open Dist && inB k 1 (Open.length : Int)) && inB price 0 999))) = false → (true = true) ∧ (PC Try.prog 29 [.agg [.sl (.ints Open), .sl (.rows Dist)]] (.one (.d (.agg [.sl (.ints Open), .sl (.rows Dist)])))) ∧ (PC Try.prog 32 [.agg [.sl (.ints Open), .sl (.rows Dist)], .agg [.sl (.ints Open), .sl (.rows Dist)]] (.one (.d (.bool ((Open == Open) && (Dist == Dist)))))) ∧ (((!((Open == Open) && (Dist == Dist))) = true → ((false = true))) ∧ ((!((Open == Open) && (Dist == Dist))) = false → ((true = true))))))))
theorem l_FnExactPriceBound_vc (Open : List Int) (Dist : List (List Int)) (k : Int) (price : Int)  (w_Open : (Open.length : Int) ≤ 9223372036854775807) (w_Dist : (Dist.length : Int) ≤ 9223372036854775807) (v_Dist : ∀ x9 ∈ Dist, (x9.length : Int) ≤ 9223372036854775807) : l_FnExactPriceBound_P Open Dist k price := by
  unfold l_FnExactPriceBound_P
  refine ⟨?_, ?_, ?_⟩
  · refine l_szField_pc Open Dist 1048576 ?_
    · first | omega | rfl | (intro hg; simp only [nrmT] at hg; omega) | (intro g1 g2; simp [g1, g2]; done) | (intro g1; simp at g1 ⊢; simp [g1]; done) | (simp only [nrmT] at *; omega) | (simp at * <;> omega) | (simp_all <;> omega) | (simp_all; done)
  · intro b1
    try simp only [nrmT] at b1
    exact rfl
  · intro b2
    try simp only [nrmT] at b2
    refine ⟨?_, s_PriceBound_pc Open Dist k price, ?_, i_PriceBound_pc Open Dist k price, id, id, rfl, fun _ => rfl, ?_, ?_, ?_⟩
    · refine l_toField_pc Open Dist ?_ ?_ ?_
      · have := szField_bound b2; omega
      · have := szField_bound b2; omega
      · have h := (szField_bound b2).2.2
        intro xs hx
        have h := h xs hx
        omega
    · refine l_toField_pc Open Dist ?_ ?_ ?_
      · have := szField_bound b2; omega
      · have := szField_bound b2; omega
      · have h := (szField_bound b2).2.2
        intro xs hx
        have h := h xs hx
        omega
    · intro h; rw [h]; rfl
    · intro b3
      first | (exfalso; simp only [marks_len] at b3; omega) | (simp at b3; done) | (exfalso; simp only [marks_len] at b3; simp at b3; done) | omega | rfl | (intro hg; simp only [nrmT] at hg; omega) | (intro g1 g2; simp [g1, g2]; done) | (intro g1; simp at g1 ⊢; simp [g1]; done) | (simp only [nrmT] at *; omega) | (simp at * <;> omega) | (simp_all <;> omega) | (simp_all; done)
    · intro b4
      refine ⟨rfl, ?_, l_eqField_pc Open Dist Open Dist, ?_, ?_⟩
      · refine l_toField_pc Open Dist ?_ ?_ ?_
        · have := szField_bound b2; omega
        · have := szField_bound b2; omega
        · have h := (szField_bound b2).2.2
          intro xs hx
          have h := h xs hx
          omega
      · intro b5
        try simp only [Bool.not_eq_true', Bool.not_eq_false', Bool.not_not] at b5
        first | (exfalso; simp only [marks_len] at b5; omega) | (simp at b5; done) | (exfalso; simp only [marks_len] at b5; simp at b5; done) | omega | rfl | (intro hg; simp only [nrmT] at hg; omega) | (intro g1 g2; simp [g1, g2]; done) | (intro g1; simp at g1 ⊢; simp [g1]; done) | (simp only [nrmT] at *; omega) | (simp at * <;> omega) | (simp_all <;> omega) | (simp_all; done)
      · intro b6
        try simp only [Bool.not_eq_true', Bool.not_eq_false', Bool.not_not] at b6
        exact rfl
theorem l_FnExactPriceBound_pc (Open : List Int) (Dist : List (List Int)) (k : Int) (price : Int)  : PC Try.prog 9 [.agg [.sl (.ints Open), .sl (.rows Dist)], .int .i64 k, .int .i64 price] (.one (.d (.bool true))) :=
  pc_wf @Try.call9 fun hw => pc_by (by kernel_rfl) Try.func9 @Try.call9 (by kernel_rfl) l_FnExactPriceBound_C (l_FnExactPriceBound_A Open Dist k price) (by kernel_rfl) (l_FnExactPriceBound_vc Open Dist k price hw.1.1 hw.1.2.1.1 hw.1.2.1.2) (by kernel_rfl)
end Go.Proofs.Ytmmoejdglnnmcaa
