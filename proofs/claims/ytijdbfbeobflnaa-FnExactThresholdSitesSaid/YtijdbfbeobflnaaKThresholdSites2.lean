/- Contracts of the functions that the law reaches. -/
import Derived.Test.YtijdbfbeobflnaaKThresholdSites1
import Derived.KernelRfl
set_option linter.unusedVariables false
set_option linter.unusedSimpArgs false
namespace Go.Proofs.Ytijdbfbeobflnaa
open Go

theorem s_l5Nearest_vc (Open : List Int) (Dist : List (List Int)) (clients : List Int) (hf : goodField Open Dist = true) (hc : ∀ c ∈ clients, 0 ≤ c ∧ c < (Dist.length : Int)) (hl : clients.length ≤ 7) (w_Open : (Open.length : Int) ≤ 9223372036854775807) (w_Dist : (Dist.length : Int) ≤ 9223372036854775807) (v_Dist : ∀ x9 ∈ Dist, (x9.length : Int) ≤ 9223372036854775807) (w_clients : (clients.length : Int) ≤ 9223372036854775807) : s_l5Nearest_P Open Dist clients := by
  unfold s_l5Nearest_P
  obtain ⟨g1, g2, g3⟩ := gf_open hf
  have p7 := pow8 (n := Open.length) (by omega)
  have pp := Nat.two_pow_pos Open.length
  have e0 := one_shl Open.length
  refine ⟨rfl, ?_, ?_, ?_, ?_, ?_, ?_, ?_⟩
  · first | omega | rfl | (intro hg; simp only [nrmT] at hg; omega) | (intro g1 g2; simp [g1, g2]; done) | (intro g1; simp at g1 ⊢; simp [g1]; done) | (simp only [nrmT] at *; omega) | (simp at * <;> omega) | (simp_all <;> omega) | (simp_all; done)
  · first | omega | rfl | (intro hg; simp only [nrmT] at hg; omega) | (intro g1 g2; simp [g1, g2]; done) | (intro g1; simp at g1 ⊢; simp [g1]; done) | (simp only [nrmT] at *; omega) | (simp at * <;> omega) | (simp_all <;> omega) | (simp_all; done)
  · rw [e0]
    generalize 2 ^ Open.length = M at *
    omega
  · rw [e0]
    generalize 2 ^ Open.length = M at *
    omega
  · refine s_l2Bits_pc (Open.length : Int) (((1 : Int) * 2 ^ ((Open.length : Int).toNat)) - 1) ?_ ?_
    · first | omega | rfl | (intro hg; simp only [nrmT] at hg; omega) | (intro g1 g2; simp [g1, g2]; done) | (intro g1; simp at g1 ⊢; simp [g1]; done) | (simp only [nrmT] at *; omega) | (simp at * <;> omega) | (simp_all <;> omega) | (simp_all; done)
    · rw [e0]
      generalize 2 ^ Open.length = M at *
      omega
  · refine ⟨([]), 0, ?_⟩
    refine ⟨?_, rfl, ?_, rfl, rfl, rfl, rfl⟩
    · refine ⟨?_, ?_, ?_⟩
      · first | omega | rfl | (intro hg; simp only [nrmT] at hg; omega) | (intro g1 g2; simp [g1, g2]; done) | (intro g1; simp at g1 ⊢; simp [g1]; done) | (simp only [nrmT] at *; omega) | (simp at * <;> omega) | (simp_all <;> omega) | (simp_all; done)
      · first | omega | rfl | (intro hg; simp only [nrmT] at hg; omega) | (intro g1 g2; simp [g1, g2]; done) | (intro g1; simp at g1 ⊢; simp [g1]; done) | (simp only [nrmT] at *; omega) | (simp at * <;> omega) | (simp_all <;> omega) | (simp_all; done)
      · first | omega | rfl | (intro hg; simp only [nrmT] at hg; omega) | (intro g1 g2; simp [g1, g2]; done) | (intro g1; simp at g1 ⊢; simp [g1]; done) | (simp only [nrmT] at *; omega) | (simp at * <;> omega) | (simp_all <;> omega) | (simp_all; done)
    · first | omega | rfl | (intro hg; simp only [nrmT] at hg; omega) | (intro g1 g2; simp [g1, g2]; done) | (intro g1; simp at g1 ⊢; simp [g1]; done) | (simp only [nrmT] at *; omega) | (simp at * <;> omega) | (simp_all <;> omega) | (simp_all; done)
  · intro out i hJ
    obtain ⟨h1, h2, h3⟩ := hJ
    refine ⟨?_, ?_⟩
    · intro b1
      try simp only [nrmT] at b1
      refine ⟨rfl, ?_, ?_, ?_, ?_, ?_, ?_, ?_⟩
      · first | omega | rfl | (intro hg; simp only [nrmT] at hg; omega) | (intro g1 g2; simp [g1, g2]; done) | (intro g1; simp at g1 ⊢; simp [g1]; done) | (simp only [nrmT] at *; omega) | (simp at * <;> omega) | (simp_all <;> omega) | (simp_all; done)
      · first | omega | rfl | (intro hg; simp only [nrmT] at hg; omega) | (intro g1 g2; simp [g1, g2]; done) | (intro g1; simp at g1 ⊢; simp [g1]; done) | (simp only [nrmT] at *; omega) | (simp at * <;> omega) | (simp_all <;> omega) | (simp_all; done)
      · first | omega | rfl | (intro hg; simp only [nrmT] at hg; omega) | (intro g1 g2; simp [g1, g2]; done) | (intro g1; simp at g1 ⊢; simp [g1]; done) | (simp only [nrmT] at *; omega) | (simp at * <;> omega) | (simp_all <;> omega) | (simp_all; done)
      · refine s_l2Site_pc Open Dist (clients.getD i.toNat 0) (members (fun k => (((1 : Int) * 2 ^ ((Open.length : Int).toNat)) - 1).toNat.testBit k) (Open.length : Int).toNat) ?_ ?_
        · rw [all_eq, hf, all_rising, allN_len, decide_eq_true (by omega)]; rfl
        · have hcc := hc _ (getD_mem (d := 0) (show i.toNat < clients.length by omega))
          have ai := argM_in hf hcc
          have ix := arg_idx (row := Dist.getD (clients.getD i.toNat 0).toNat []) (by omega)
          exact hcc
      · refine s_l1Put_pc out (siteTo (Dist.getD (clients.getD i.toNat 0).toNat []) (members (fun k => (((1 : Int) * 2 ^ ((Open.length : Int).toNat)) - 1).toNat.testBit k) (Open.length : Int).toNat) (members (fun k => (((1 : Int) * 2 ^ ((Open.length : Int).toNat)) - 1).toNat.testBit k) (Open.length : Int).toNat).length) ?_
        · rw [h3]; have := sitL_len (Dist := Dist) (clients := clients) i.toNat; omega
      · first | omega | rfl | (intro hg; simp only [nrmT] at hg; omega) | (intro g1 g2; simp [g1, g2]; done) | (intro g1; simp at g1 ⊢; simp [g1]; done) | (simp only [nrmT] at *; omega) | (simp at * <;> omega) | (simp_all <;> omega) | (simp_all; done)
      · refine ⟨(putL out (siteTo (Dist.getD (clients.getD i.toNat 0).toNat []) (members (fun k => (((1 : Int) * 2 ^ ((Open.length : Int).toNat)) - 1).toNat.testBit k) (Open.length : Int).toNat) (members (fun k => (((1 : Int) * 2 ^ ((Open.length : Int).toNat)) - 1).toNat.testBit k) (Open.length : Int).toNat).length)), (i + 1), ?_⟩
        refine ⟨?_, ?_, rfl, rfl, rfl, rfl, rfl, rfl⟩
        · refine ⟨?_, ?_, ?_⟩
          · first | omega | rfl | (intro hg; simp only [nrmT] at hg; omega) | (intro g1 g2; simp [g1, g2]; done) | (intro g1; simp at g1 ⊢; simp [g1]; done) | (simp only [nrmT] at *; omega) | (simp at * <;> omega) | (simp_all <;> omega) | (simp_all; done)
          · first | omega | rfl | (intro hg; simp only [nrmT] at hg; omega) | (intro g1 g2; simp [g1, g2]; done) | (intro g1; simp at g1 ⊢; simp [g1]; done) | (simp only [nrmT] at *; omega) | (simp at * <;> omega) | (simp_all <;> omega) | (simp_all; done)
          · have hcc := hc _ (getD_mem (d := 0) (show i.toNat < clients.length by omega))
            have ai := argM_in hf hcc
            have ix := arg_idx (row := Dist.getD (clients.getD i.toNat 0).toNat []) (by omega)
            have e : sitL Dist clients (i.toNat + 1) = putL (sitL Dist clients i.toNat) (argM (Dist.getD (clients.getD i.toNat 0).toNat [])) := rfl
            rw [all_eq, allN_len, site_arg (by omega), show (i + 1).toNat = i.toNat + 1 by omega, e, h3]
            unfold argM
            rw [ai.2.2]
        · first | (show _ < _; omega) | (simp only [s_l5Nearest_mJ0]; omega) | (simp only [s_l5Nearest_mJ0] at *; simp at *; omega)
    · intro b2
      try simp only [nrmT] at b2
      refine ⟨?_, ?_⟩
      · intro b3
        try simp only [nrmT] at b3
        refine ⟨rfl, ?_⟩
        · rw [h3, show i.toNat = clients.length by omega] at b3
          unfold sitesOf
          rw [if_pos ((sitL_zero (Dist := Dist)).1 (by omega))]
      · intro b4
        try simp only [nrmT] at b4
        have e : out = sitL Dist clients clients.length := by rw [h3, show i.toNat = clients.length by omega]
        rw [e] at b4 ⊢
        unfold sitesOf
        rw [if_neg (fun h => b4 (by rw [sitL_zero.2 h]; rfl))]
theorem s_l5Nearest_pc (Open : List Int) (Dist : List (List Int)) (clients : List Int) (hf : goodField Open Dist = true) (hc : ∀ c ∈ clients, 0 ≤ c ∧ c < (Dist.length : Int)) (hl : clients.length ≤ 7) : PC Try.prog 144 [.agg [.sl (.ints Open), .sl (.rows Dist)], .sl (.ints clients)] (.one (.d (.sl (.ints (sitesOf Dist clients))))) :=
  pc_wf @Try.call144 fun hw => pc_by (by kernel_rfl) Try.func144 @Try.call144 (by kernel_rfl) s_l5Nearest_C (s_l5Nearest_A Open Dist clients) (by kernel_rfl) (s_l5Nearest_vc Open Dist clients hf hc hl hw.1.1 hw.1.2.1.1 hw.1.2.1.2 hw.2.1) (by kernel_rfl)
def s_l5Nearest_orc : List D → Orc := orcN [none, some .ints] fun ds => match ds with
  | [.agg [.sl (.ints Open), .sl (.rows Dist)], .sl (.ints clients)] => some (.one (.d (.sl (.ints (sitesOf Dist clients)))))
  | _ => none
abbrev i_Field_sitesOf_JJ0 (Open : List Int) (Dist : List (List Int)) (clients : List Int) (out : Int) (i : Int) : Prop := (0 ≤ i) ∧ (i ≤ (clients.length : Int)) ∧ (out = ((sitB Dist clients i.toNat : Nat) : Int))
abbrev i_Field_sitesOf_mJ0 (Open : List Int) (Dist : List (List Int)) (clients : List Int) (out : Int) (i : Int) : Nat := (clients.length - i).toNat
def i_Field_sitesOf_C (f : FuncId) (ds : List D) : Orc := bif Nat.beq f 191 then slices_Min_int_int__orc ds else bif Nat.beq f 116 then slices_Index_int_int__orc ds else bif Nat.beq f 151 then i_bag_list_orc ds else .no
def i_Field_sitesOf_A (Open : List Int) (Dist : List (List Int)) (clients : List Int) : Ann := .two (.none) (.two (.none) (.two (.two (.none) (.loop (cut2 (fun (out : Int) (i : Int) => i_Field_sitesOf_JJ0 Open Dist clients out i) (fun (out : Int) (i : Int) => [(2, .ptr 2 0), (5, .d true (.int .u64 out)), (8, .d false (.sl (.ints clients))), (9, .d true (.int .i64 (clients.length : Int))), (10, .d true (.int .i64 i))]) (fun (out : Int) (i : Int) => [(2, .box 44 [.d false (.sl (.ints Open)), .d false (.sl (.rows Dist))])])) (fun g => i_Field_sitesOf_mJ0 Open Dist clients g.1 g.2) (fun _ => .none))) (.none)))
def i_Field_sitesOf_P (Open : List Int) (Dist : List (List Int)) (clients : List Int) : Prop :=
  ((∃ out' : Int, ∃ i' : Int, (i_Field_sitesOf_JJ0 Open Dist clients out' i') ∧ ((0 : Int) = out') ∧ (clients = clients) ∧ ((clients.length : Int) = (clients.length : Int)) ∧ ((0 : Int) = i') ∧ (Open = Open) ∧ (Dist = Dist)) ∧ (∀ out : Int, ∀ i : Int, (i_Field_sitesOf_JJ0 Open Dist clients out i) → (((decide (i < (clients.length : Int))) = true → ((0 : Int) ≤ i) ∧ ((i : Int) < clients.length) ∧ (i.toNat < clients.length) ∧ (true = true) ∧ ((0 : Int) ≤ (clients.getD i.toNat 0)) ∧ (((clients.getD i.toNat 0) : Int) < Dist.length) ∧ ((clients.getD i.toNat 0).toNat < Dist.length) ∧ ((0 : Int) ≤ (clients.getD i.toNat 0)) ∧ (((clients.getD i.toNat 0) : Int) < Dist.length) ∧ ((clients.getD i.toNat 0).toNat < Dist.length) ∧ (PC Try.prog 191 [.sl (.ints (Dist.getD ((clients.getD i.toNat 0).toNat) []))] (.one (.d (.int .i64 (minL (Dist.getD ((clients.getD i.toNat 0).toNat) [])))))) ∧ (PC Try.prog 116 [.sl (.ints (Dist.getD ((clients.getD i.toNat 0).toNat) [])), .int .i64 (minL (Dist.getD ((clients.getD i.toNat 0).toNat) []))] (.one (.d (.int .i64 (idxI (fun y => (minL (Dist.getD ((clients.getD i.toNat 0).toNat) [])) == y) (Dist.getD ((clients.getD i.toNat 0).toNat) [])))))) ∧ ((0 : Int) ≤ 1) ∧ ((0 : Int) ≤ (idxI (fun y => (minL (Dist.getD ((clients.getD i.toNat 0).toNat) [])) == y) (Dist.getD ((clients.getD i.toNat 0).toNat) []))) ∧ ((0 : Int) ≤ ((1 : Int) * 2 ^ ((idxI (fun y => (minL (Dist.getD ((clients.getD i.toNat 0).toNat) [])) == y) (Dist.getD ((clients.getD i.toNat 0).toNat) [])).toNat)) ∧ (((1 : Int) * 2 ^ ((idxI (fun y => (minL (Dist.getD ((clients.getD i.toNat 0).toNat) [])) == y) (Dist.getD ((clients.getD i.toNat 0).toNat) [])).toNat)) : Int) ≤ 18446744073709551615) ∧ ((0 : Int) ≤ out ∧ (out : Int) ≤ 18446744073709551615) ∧ ((0 : Int) ≤ ((1 : Int) * 2 ^ ((idxI (fun y => (minL (Dist.getD ((clients.getD i.toNat 0).toNat) [])) == y) (Dist.getD ((clients.getD i.toNat 0).toNat) [])).toNat)) ∧ (((1 : Int) * 2 ^ ((idxI (fun y => (minL (Dist.getD ((clients.getD i.toNat 0).toNat) [])) == y) (Dist.getD ((clients.getD i.toNat 0).toNat) [])).toNat)) : Int) ≤ 18446744073709551615) ∧ (-9223372036854775808 ≤ (i + 1) ∧ (i + 1) ≤ 9223372036854775807) ∧ (∃ out' : Int, ∃ i' : Int, (i_Field_sitesOf_JJ0 Open Dist clients out' i') ∧ (i_Field_sitesOf_mJ0 Open Dist clients out' i' < i_Field_sitesOf_mJ0 Open Dist clients out i) ∧ (((out.toNat ||| ((1 : Int) * 2 ^ ((idxI (fun y => (minL (Dist.getD ((clients.getD i.toNat 0).toNat) [])) == y) (Dist.getD ((clients.getD i.toNat 0).toNat) [])).toNat)).toNat : Nat) : Int) = out') ∧ (clients = clients) ∧ ((clients.length : Int) = (clients.length : Int)) ∧ ((i + 1) = i') ∧ (Open = Open) ∧ (Dist = Dist))) ∧ ((decide (i < (clients.length : Int))) = false → (((out == 0) = true → (PC Try.prog 151 [.int .u64 1] (.one (.own 3 (.ints (members (fun k => (1 : Int).toNat.testBit k) 62))))) ∧ (((members (fun k => (1 : Int).toNat.testBit k) 62).length = (members (fun k => (1 : Int).toNat.testBit k) 62).length) ∧ ((members (fun k => (1 : Int).toNat.testBit k) 62 : List Int) = sitesOf Dist clients))) ∧ ((out == 0) = false → (PC Try.prog 151 [.int .u64 out] (.one (.own 3 (.ints (members (fun k => out.toNat.testBit k) 62))))) ∧ (((members (fun k => out.toNat.testBit k) 62).length = (members (fun k => out.toNat.testBit k) 62).length) ∧ ((members (fun k => out.toNat.testBit k) 62 : List Int) = sitesOf Dist clients))))))))
theorem i_Field_sitesOf_vc (Open : List Int) (Dist : List (List Int)) (clients : List Int) (hf : goodField Open Dist = true) (hc : ∀ c ∈ clients, 0 ≤ c ∧ c < (Dist.length : Int)) (hl : clients.length ≤ 7) (w_Open : (Open.length : Int) ≤ 9223372036854775807) (w_Dist : (Dist.length : Int) ≤ 9223372036854775807) (v_Dist : ∀ x9 ∈ Dist, (x9.length : Int) ≤ 9223372036854775807) (w_clients : (clients.length : Int) ≤ 9223372036854775807) : i_Field_sitesOf_P Open Dist clients := by
  unfold i_Field_sitesOf_P
  obtain ⟨g1, g2, g3⟩ := gf_open hf
  have p7 := pow8 (n := Open.length) (by omega)
  have pp := Nat.two_pow_pos Open.length
  have e0 := one_shl Open.length
  refine ⟨?_, ?_⟩
  · refine ⟨0, 0, ?_⟩
    refine ⟨?_, rfl, rfl, rfl, rfl, rfl, rfl⟩
    · refine ⟨?_, ?_, ?_⟩
      · first | omega | rfl | (intro hg; simp only [nrmT] at hg; omega) | (intro g1 g2; simp [g1, g2]; done) | (intro g1; simp at g1 ⊢; simp [g1]; done) | (simp only [nrmT] at *; omega) | (simp at * <;> omega) | (simp_all <;> omega) | (simp_all; done)
      · first | omega | rfl | (intro hg; simp only [nrmT] at hg; omega) | (intro g1 g2; simp [g1, g2]; done) | (intro g1; simp at g1 ⊢; simp [g1]; done) | (simp only [nrmT] at *; omega) | (simp at * <;> omega) | (simp_all <;> omega) | (simp_all; done)
      · first | omega | rfl | (intro hg; simp only [nrmT] at hg; omega) | (intro g1 g2; simp [g1, g2]; done) | (intro g1; simp at g1 ⊢; simp [g1]; done) | (simp only [nrmT] at *; omega) | (simp at * <;> omega) | (simp_all <;> omega) | (simp_all; done)
  · intro out i hJ
    obtain ⟨h1, h2, h3⟩ := hJ
    refine ⟨?_, ?_⟩
    · intro b1
      try simp only [nrmT] at b1
      refine ⟨?_, ?_, ?_, rfl, ?_, ?_, ?_, ?_, ?_, ?_, ?_, slices_Index_int_int__pc (Dist.getD ((clients.getD i.toNat 0).toNat) []) (minL (Dist.getD ((clients.getD i.toNat 0).toNat) [])), ?_, ?_, ?_, ?_, ?_, ?_, ?_⟩
      · first | omega | rfl | (intro hg; simp only [nrmT] at hg; omega) | (intro g1 g2; simp [g1, g2]; done) | (intro g1; simp at g1 ⊢; simp [g1]; done) | (simp only [nrmT] at *; omega) | (simp at * <;> omega) | (simp_all <;> omega) | (simp_all; done)
      · first | omega | rfl | (intro hg; simp only [nrmT] at hg; omega) | (intro g1 g2; simp [g1, g2]; done) | (intro g1; simp at g1 ⊢; simp [g1]; done) | (simp only [nrmT] at *; omega) | (simp at * <;> omega) | (simp_all <;> omega) | (simp_all; done)
      · first | omega | rfl | (intro hg; simp only [nrmT] at hg; omega) | (intro g1 g2; simp [g1, g2]; done) | (intro g1; simp at g1 ⊢; simp [g1]; done) | (simp only [nrmT] at *; omega) | (simp at * <;> omega) | (simp_all <;> omega) | (simp_all; done)
      · have hcc := hc _ (getD_mem (d := 0) (show i.toNat < clients.length by omega))
        have ai := argM_in hf hcc
        have ix := arg_idx (row := Dist.getD (clients.getD i.toNat 0).toNat []) (by omega)
        omega
      · have hcc := hc _ (getD_mem (d := 0) (show i.toNat < clients.length by omega))
        have ai := argM_in hf hcc
        have ix := arg_idx (row := Dist.getD (clients.getD i.toNat 0).toNat []) (by omega)
        omega
      · have hcc := hc _ (getD_mem (d := 0) (show i.toNat < clients.length by omega))
        have ai := argM_in hf hcc
        have ix := arg_idx (row := Dist.getD (clients.getD i.toNat 0).toNat []) (by omega)
        omega
      · have hcc := hc _ (getD_mem (d := 0) (show i.toNat < clients.length by omega))
        have ai := argM_in hf hcc
        have ix := arg_idx (row := Dist.getD (clients.getD i.toNat 0).toNat []) (by omega)
        omega
      · have hcc := hc _ (getD_mem (d := 0) (show i.toNat < clients.length by omega))
        have ai := argM_in hf hcc
        have ix := arg_idx (row := Dist.getD (clients.getD i.toNat 0).toNat []) (by omega)
        omega
      · have hcc := hc _ (getD_mem (d := 0) (show i.toNat < clients.length by omega))
        have ai := argM_in hf hcc
        have ix := arg_idx (row := Dist.getD (clients.getD i.toNat 0).toNat []) (by omega)
        omega
      · refine slices_Min_int_int__pc (Dist.getD ((clients.getD i.toNat 0).toNat) []) ?_
        · have hcc := hc _ (getD_mem (d := 0) (show i.toNat < clients.length by omega))
          have ai := argM_in hf hcc
          have ix := arg_idx (row := Dist.getD (clients.getD i.toNat 0).toNat []) (by omega)
          omega
      · first | omega | rfl | (intro hg; simp only [nrmT] at hg; omega) | (intro g1 g2; simp [g1, g2]; done) | (intro g1; simp at g1 ⊢; simp [g1]; done) | (simp only [nrmT] at *; omega) | (simp at * <;> omega) | (simp_all <;> omega) | (simp_all; done)
      · have hcc := hc _ (getD_mem (d := 0) (show i.toNat < clients.length by omega))
        have ai := argM_in hf hcc
        have ix := arg_idx (row := Dist.getD (clients.getD i.toNat 0).toNat []) (by omega)
        rw [ix]; omega
      · have hcc := hc _ (getD_mem (d := 0) (show i.toNat < clients.length by omega))
        have ai := argM_in hf hcc
        have ix := arg_idx (row := Dist.getD (clients.getD i.toNat 0).toNat []) (by omega)
        rw [ix]
        have h7 := pow_le (x := argM (Dist.getD (clients.getD i.toNat 0).toNat [])) (m := 8) (by omega)
        have he : (2 : Nat) ^ 8 = 256 := by decide
        omega
      · have := sitB_lt hf hc i.toNat (by omega)
        omega
      · have hcc := hc _ (getD_mem (d := 0) (show i.toNat < clients.length by omega))
        have ai := argM_in hf hcc
        have ix := arg_idx (row := Dist.getD (clients.getD i.toNat 0).toNat []) (by omega)
        rw [ix]
        have h7 := pow_le (x := argM (Dist.getD (clients.getD i.toNat 0).toNat [])) (m := 8) (by omega)
        have he : (2 : Nat) ^ 8 = 256 := by decide
        omega
      · first | omega | rfl | (intro hg; simp only [nrmT] at hg; omega) | (intro g1 g2; simp [g1, g2]; done) | (intro g1; simp at g1 ⊢; simp [g1]; done) | (simp only [nrmT] at *; omega) | (simp at * <;> omega) | (simp_all <;> omega) | (simp_all; done)
      · refine ⟨((out.toNat ||| ((1 : Int) * 2 ^ ((idxI (fun y => (minL (Dist.getD ((clients.getD i.toNat 0).toNat) [])) == y) (Dist.getD ((clients.getD i.toNat 0).toNat) [])).toNat)).toNat : Nat) : Int), (i + 1), ?_⟩
        refine ⟨?_, ?_, rfl, rfl, rfl, rfl, rfl, rfl⟩
        · refine ⟨?_, ?_, ?_⟩
          · first | omega | rfl | (intro hg; simp only [nrmT] at hg; omega) | (intro g1 g2; simp [g1, g2]; done) | (intro g1; simp at g1 ⊢; simp [g1]; done) | (simp only [nrmT] at *; omega) | (simp at * <;> omega) | (simp_all <;> omega) | (simp_all; done)
          · first | omega | rfl | (intro hg; simp only [nrmT] at hg; omega) | (intro g1 g2; simp [g1, g2]; done) | (intro g1; simp at g1 ⊢; simp [g1]; done) | (simp only [nrmT] at *; omega) | (simp at * <;> omega) | (simp_all <;> omega) | (simp_all; done)
          · have hcc := hc _ (getD_mem (d := 0) (show i.toNat < clients.length by omega))
            have ai := argM_in hf hcc
            have ix := arg_idx (row := Dist.getD (clients.getD i.toNat 0).toNat []) (by omega)
            rw [ix, one_pow, show (i + 1).toNat = i.toNat + 1 by omega, h3, Int.toNat_natCast]; rfl
        · first | (show _ < _; omega) | (simp only [i_Field_sitesOf_mJ0]; omega) | (simp only [i_Field_sitesOf_mJ0] at *; simp at *; omega)
    · intro b2
      try simp only [nrmT] at b2
      refine ⟨?_, ?_⟩
      · intro b3
        try simp only [nrmT] at b3
        refine ⟨?_, rfl, ?_⟩
        · refine i_bag_list_pc 1 ?_
          · first | omega | rfl | (intro hg; simp only [nrmT] at hg; omega) | (intro g1 g2; simp [g1, g2]; done) | (intro g1; simp at g1 ⊢; simp [g1]; done) | (simp only [nrmT] at *; omega) | (simp at * <;> omega) | (simp_all <;> omega) | (simp_all; done)
        · have e : sitB Dist clients clients.length = 0 := by rw [show i.toNat = clients.length by omega] at h3; omega
          unfold sitesOf; rw [if_pos (sitB_zero.1 e)]; rfl
      · intro b4
        try simp only [nrmT] at b4
        refine ⟨?_, rfl, ?_⟩
        · refine i_bag_list_pc out ?_
          · have := sitB_lt hf hc i.toNat (by omega)
            omega
        · have e : out.toNat = sitB Dist clients clients.length := by rw [h3, show i.toNat = clients.length by omega, Int.toNat_natCast]
          rw [e, sit_same hf hc]
          unfold sitesOf
          rw [if_neg (fun h => b4 (by have := (sitB_zero (Dist := Dist)).2 h; omega))]
theorem i_Field_sitesOf_pc (Open : List Int) (Dist : List (List Int)) (clients : List Int) (hf : goodField Open Dist = true) (hc : ∀ c ∈ clients, 0 ≤ c ∧ c < (Dist.length : Int)) (hl : clients.length ≤ 7) : PC Try.prog 146 [.agg [.sl (.ints Open), .sl (.rows Dist)], .sl (.ints clients)] (.one (.own 3 (.ints (sitesOf Dist clients)))) :=
  pc_wf @Try.call146 fun hw => pc_by (by kernel_rfl) Try.func146 @Try.call146 (by kernel_rfl) i_Field_sitesOf_C (i_Field_sitesOf_A Open Dist clients) (by kernel_rfl) (i_Field_sitesOf_vc Open Dist clients hf hc hl hw.1.1 hw.1.2.1.1 hw.1.2.1.2 hw.2.1) (by kernel_rfl)
def i_Field_sitesOf_orc : List D → Orc := orcN [none, some .ints] fun ds => match ds with
  | [.agg [.sl (.ints Open), .sl (.rows Dist)], .sl (.ints clients)] => some (.one (.own 3 (.ints (sitesOf Dist clients))))
  | _ => none
def nearAll (Dist : List (List Int)) (r : Int) : Bool := Dist.all (fun row => decide (minL row ≤ r))
def tsL (Open : List Int) (Dist : List (List Int)) (r : Int) : List Int := if (goodField Open Dist && decide (0 ≤ r) && nearAll Dist r) = true then sitesOf Dist (thrTo Open.length Dist r Dist.length) else []
theorem tsL_len {Open : List Int} {Dist : List (List Int)} {r : Int} : (tsL Open Dist r).length ≤ 8 := by
  unfold tsL
  split
  · rename_i h
    rw [Bool.and_eq_true, Bool.and_eq_true] at h
    obtain ⟨g1, g2, g3⟩ := gf_open h.1.1
    have h1 := sitesOf_len (Dist := Dist) (clients := thrTo Open.length Dist r Dist.length)
    have h2 := (thrTo_facts Open.length Dist r Dist.length).2.1
    omega
  · simp
def i_Field_areReached_1_C (f : FuncId) (ds : List D) : Orc := bif Nat.beq f 191 then slices_Min_int_int__orc ds else .no
def i_Field_areReached_1_A (list : List Int) (r : Int) : Ann := .none
def i_Field_areReached_1_P (list : List Int) (r : Int) : Prop :=
  (true = true) ∧ (PC Try.prog 191 [.sl (.ints list)] (.one (.d (.int .i64 (minL list))))) ∧ (((decide ((minL list) > r)) = (!(decide (minL list ≤ r)))))
theorem i_Field_areReached_1_vc (list : List Int) (r : Int) (hp : 0 < list.length) (w_list : (list.length : Int) ≤ 9223372036854775807) : i_Field_areReached_1_P list r := by
  unfold i_Field_areReached_1_P
  refine ⟨rfl, ?_, ?_⟩
  · refine slices_Min_int_int__pc list ?_
    · exact hp
  · by_cases h : minL list ≤ r
    · rw [decide_eq_true h, decide_eq_false (by omega)]; rfl
    · rw [decide_eq_false h, decide_eq_true (by omega)]; rfl
theorem i_Field_areReached_1_pc (list : List Int) (r : Int) (hp : 0 < list.length) : PC Try.prog 190 [.sl (.ints list), .bx [.int .i64 r] 0] (.one (.d (.bool (!(decide (minL list ≤ r)))))) :=
  pc_wf @Try.call190 fun hw => pc_by (by kernel_rfl) Try.func190 @Try.call190 (by kernel_rfl) i_Field_areReached_1_C (i_Field_areReached_1_A list r) (by kernel_rfl) (i_Field_areReached_1_vc list r hp hw.1) (by kernel_rfl)
def i_Field_areReached_1_orc : List D → Orc := orcN [some .ints, none] fun ds => match ds with
  | [.sl (.ints list), .bx [.int .i64 r] 0] => some (.one (.d (.bool (!(decide (minL list ≤ r))))))
  | _ => none
abbrev slices_IndexFunc_int_int_iAR_JJ0 (xs : List (List Int)) (r : Int) (i : Int) : Prop := (0 ≤ i) ∧ (i ≤ (xs.length : Int)) ∧ (∀ k, k < i.toNat → (fun row => !(decide (minL row ≤ r))) (xs.getD k []) = false)
abbrev slices_IndexFunc_int_int_iAR_mJ0 (xs : List (List Int)) (r : Int) (i : Int) : Nat := (xs.length - i).toNat
def slices_IndexFunc_int_int_iAR_C (f : FuncId) (ds : List D) : Orc := bif Nat.beq f 190 then i_Field_areReached_1_orc ds else .no
def slices_IndexFunc_int_int_iAR_A (xs : List (List Int)) (r : Int) : Ann := .two (.none) (.two (.two (.none) (.loop (cut1 (fun (i : Int) => slices_IndexFunc_int_int_iAR_JJ0 xs r i) (fun (i : Int) => [(0, .d false (.sl (.rows xs))), (1, .d false (.fn 190 [.bx [.int .i64 r] 0])), (7, .d true (.int .i64 (xs.length : Int))), (8, .d true (.int .i64 i))]) (fun (i : Int) => [])) (fun g => slices_IndexFunc_int_int_iAR_mJ0 xs r g) (fun _ => .none))) (.none))
def slices_IndexFunc_int_int_iAR_P (xs : List (List Int)) (r : Int) : Prop :=
  ((∃ i' : Int, (slices_IndexFunc_int_int_iAR_JJ0 xs r i') ∧ (xs = xs) ∧ ((.fn 190 [.bx [.int .i64 r] 0] : D) = (.fn 190 [.bx [.int .i64 r] 0] : D)) ∧ ((xs.length : Int) = (xs.length : Int)) ∧ ((0 : Int) = i')) ∧ (∀ i : Int, (slices_IndexFunc_int_int_iAR_JJ0 xs r i) → (((decide (i < (xs.length : Int))) = true → ((0 : Int) ≤ i) ∧ ((i : Int) < xs.length) ∧ (i.toNat < xs.length) ∧ (PC Try.prog 190 [.sl (.ints (xs.getD i.toNat [])), .bx [.int .i64 r] 0] (.one (.d (.bool (!(decide (minL (xs.getD i.toNat []) ≤ r))))))) ∧ (((!(decide (minL (xs.getD i.toNat []) ≤ r))) = true → ((i = (idxI (fun row => !(decide (minL row ≤ r))) xs)))) ∧ ((!(decide (minL (xs.getD i.toNat []) ≤ r))) = false → (-9223372036854775808 ≤ (i + 1) ∧ (i + 1) ≤ 9223372036854775807) ∧ (∃ i' : Int, (slices_IndexFunc_int_int_iAR_JJ0 xs r i') ∧ (slices_IndexFunc_int_int_iAR_mJ0 xs r i' < slices_IndexFunc_int_int_iAR_mJ0 xs r i) ∧ (xs = xs) ∧ ((.fn 190 [.bx [.int .i64 r] 0] : D) = (.fn 190 [.bx [.int .i64 r] 0] : D)) ∧ ((xs.length : Int) = (xs.length : Int)) ∧ ((i + 1) = i'))))) ∧ ((decide (i < (xs.length : Int))) = false → ((((-1) : Int) = (idxI (fun row => !(decide (minL row ≤ r))) xs)))))))
theorem slices_IndexFunc_int_int_iAR_vc (xs : List (List Int)) (r : Int) (hx : ∀ l ∈ xs, 0 < l.length) (w_xs : (xs.length : Int) ≤ 9223372036854775807) (v_xs : ∀ x9 ∈ xs, (x9.length : Int) ≤ 9223372036854775807) : slices_IndexFunc_int_int_iAR_P xs r := by
  unfold slices_IndexFunc_int_int_iAR_P
  refine ⟨?_, ?_⟩
  · refine ⟨0, ?_⟩
    refine ⟨?_, rfl, rfl, rfl, rfl⟩
    · refine ⟨?_, ?_, ?_⟩
      · first | omega | rfl | (intro hg; simp only [nrmT] at hg; omega) | (intro g1 g2; simp [g1, g2]; done) | (intro g1; simp at g1 ⊢; simp [g1]; done) | (simp only [nrmT] at *; omega) | (simp at * <;> omega) | (simp_all <;> omega) | (simp_all; done)
      · first | omega | rfl | (intro hg; simp only [nrmT] at hg; omega) | (intro g1 g2; simp [g1, g2]; done) | (intro g1; simp at g1 ⊢; simp [g1]; done) | (simp only [nrmT] at *; omega) | (simp at * <;> omega) | (simp_all <;> omega) | (simp_all; done)
      · first | omega | rfl | (intro hg; simp only [nrmT] at hg; omega) | (intro g1 g2; simp [g1, g2]; done) | (intro g1; simp at g1 ⊢; simp [g1]; done) | (simp only [nrmT] at *; omega) | (simp at * <;> omega) | (simp_all <;> omega) | (simp_all; done)
  · intro i hJ
    obtain ⟨h1, h2, h3⟩ := hJ
    refine ⟨?_, ?_⟩
    · intro b1
      try simp only [nrmT] at b1
      refine ⟨?_, ?_, ?_, ?_, ?_, ?_⟩
      · first | omega | rfl | (intro hg; simp only [nrmT] at hg; omega) | (intro g1 g2; simp [g1, g2]; done) | (intro g1; simp at g1 ⊢; simp [g1]; done) | (simp only [nrmT] at *; omega) | (simp at * <;> omega) | (simp_all <;> omega) | (simp_all; done)
      · first | omega | rfl | (intro hg; simp only [nrmT] at hg; omega) | (intro g1 g2; simp [g1, g2]; done) | (intro g1; simp at g1 ⊢; simp [g1]; done) | (simp only [nrmT] at *; omega) | (simp at * <;> omega) | (simp_all <;> omega) | (simp_all; done)
      · first | omega | rfl | (intro hg; simp only [nrmT] at hg; omega) | (intro g1 g2; simp [g1, g2]; done) | (intro g1; simp at g1 ⊢; simp [g1]; done) | (simp only [nrmT] at *; omega) | (simp at * <;> omega) | (simp_all <;> omega) | (simp_all; done)
      · refine i_Field_areReached_1_pc (xs.getD i.toNat []) r ?_
        · exact hx _ (getD_memI h1 b1)
      · intro b2
        try simp only [nrmT] at b2
        exact idx_found (p := fun row => !(decide (minL row ≤ r))) h1 b1 h3 (by simpa using b2)
      · intro b3
        try simp only [nrmT] at b3
        refine ⟨?_, ?_⟩
        · first | omega | rfl | (intro hg; simp only [nrmT] at hg; omega) | (intro g1 g2; simp [g1, g2]; done) | (intro g1; simp at g1 ⊢; simp [g1]; done) | (simp only [nrmT] at *; omega) | (simp at * <;> omega) | (simp_all <;> omega) | (simp_all; done)
        · refine ⟨(i + 1), ?_⟩
          refine ⟨?_, ?_, rfl, rfl, rfl, rfl⟩
          · refine ⟨?_, ?_, ?_⟩
            · first | omega | rfl | (intro hg; simp only [nrmT] at hg; omega) | (intro g1 g2; simp [g1, g2]; done) | (intro g1; simp at g1 ⊢; simp [g1]; done) | (simp only [nrmT] at *; omega) | (simp at * <;> omega) | (simp_all <;> omega) | (simp_all; done)
            · first | omega | rfl | (intro hg; simp only [nrmT] at hg; omega) | (intro g1 g2; simp [g1, g2]; done) | (intro g1; simp at g1 ⊢; simp [g1]; done) | (simp only [nrmT] at *; omega) | (simp at * <;> omega) | (simp_all <;> omega) | (simp_all; done)
            · exact idx_step (p := fun row => !(decide (minL row ≤ r))) h1 h3 (by simpa using b3)
          · first | (show _ < _; omega) | (simp only [slices_IndexFunc_int_int_iAR_mJ0]; omega) | (simp only [slices_IndexFunc_int_int_iAR_mJ0] at *; simp at *; omega)
    · intro b4
      try simp only [nrmT] at b4
      exact (idx_none (by omega) h3).symm
theorem slices_IndexFunc_int_int_iAR_pc (xs : List (List Int)) (r : Int) (hx : ∀ l ∈ xs, 0 < l.length) : PC Try.prog 204 [.sl (.rows xs), .fn 190 [.bx [.int .i64 r] 0]] (.one (.d (.int .i64 (idxI (fun row => !(decide (minL row ≤ r))) xs)))) :=
  pc_wf @Try.call204 fun hw => pc_by (by kernel_rfl) Try.func204 @Try.call204 (by kernel_rfl) slices_IndexFunc_int_int_iAR_C (slices_IndexFunc_int_int_iAR_A xs r) (by kernel_rfl) (slices_IndexFunc_int_int_iAR_vc xs r hx hw.1.1 hw.1.2) (by kernel_rfl)
def slices_IndexFunc_int_int_iAR_orc : List D → Orc := orcN [some .rows, none] fun ds => match ds with
  | [.sl (.rows xs), .fn f0 [.bx [.int .i64 r] 0]] => bif Nat.beq f0 190 then some (.one (.d (.int .i64 (idxI (fun row => !(decide (minL row ≤ r))) xs)))) else none
  | _ => none
def slices_ContainsFunc_int_int_iAR_C (f : FuncId) (ds : List D) : Orc := bif Nat.beq f 204 then slices_IndexFunc_int_int_iAR_orc ds else .no
def slices_ContainsFunc_int_int_iAR_A (xs : List (List Int)) (r : Int) : Ann := .none
def slices_ContainsFunc_int_int_iAR_P (xs : List (List Int)) (r : Int) : Prop :=
  (PC Try.prog 204 [.sl (.rows xs), .fn 190 [.bx [.int .i64 r] 0]] (.one (.d (.int .i64 (idxI (fun row => !(decide (minL row ≤ r))) xs))))) ∧ (((decide ((idxI (fun row => !(decide (minL row ≤ r))) xs) ≥ 0)) = (xs.any (fun row => !(decide (minL row ≤ r))))))
theorem slices_ContainsFunc_int_int_iAR_vc (xs : List (List Int)) (r : Int) (hx : ∀ l ∈ xs, 0 < l.length) (w_xs : (xs.length : Int) ≤ 9223372036854775807) (v_xs : ∀ x9 ∈ xs, (x9.length : Int) ≤ 9223372036854775807) : slices_ContainsFunc_int_int_iAR_P xs r := by
  unfold slices_ContainsFunc_int_int_iAR_P
  refine ⟨?_, ?_⟩
  · refine slices_IndexFunc_int_int_iAR_pc xs r ?_
    · exact hx
  · exact idx_any _ _
theorem slices_ContainsFunc_int_int_iAR_pc (xs : List (List Int)) (r : Int) (hx : ∀ l ∈ xs, 0 < l.length) : PC Try.prog 170 [.sl (.rows xs), .fn 190 [.bx [.int .i64 r] 0]] (.one (.d (.bool (xs.any (fun row => !(decide (minL row ≤ r))))))) :=
  pc_wf @Try.call170 fun hw => pc_by (by kernel_rfl) Try.func170 @Try.call170 (by kernel_rfl) slices_ContainsFunc_int_int_iAR_C (slices_ContainsFunc_int_int_iAR_A xs r) (by kernel_rfl) (slices_ContainsFunc_int_int_iAR_vc xs r hx hw.1.1 hw.1.2) (by kernel_rfl)
def slices_ContainsFunc_int_int_iAR_orc : List D → Orc := orcN [some .rows, none] fun ds => match ds with
  | [.sl (.rows xs), .fn f0 [.bx [.int .i64 r] 0]] => bif Nat.beq f0 190 then some (.one (.d (.bool (xs.any (fun row => !(decide (minL row ≤ r))))))) else none
  | _ => none
def i_Field_areReached_C (f : FuncId) (ds : List D) : Orc := bif Nat.beq f 170 then slices_ContainsFunc_int_int_iAR_orc ds else .no
def i_Field_areReached_A (Open : List Int) (Dist : List (List Int)) (r : Int) : Ann := .none
def i_Field_areReached_P (Open : List Int) (Dist : List (List Int)) (r : Int) : Prop :=
  (PC Try.prog 170 [.sl (.rows Dist), .fn 190 [.bx [.int .i64 r] 0]] (.one (.d (.bool (Dist.any (fun row => !(decide (minL row ≤ r)))))))) ∧ (((!(Dist.any (fun row => !(decide (minL row ≤ r))))) = (nearAll Dist r)))
theorem i_Field_areReached_vc (Open : List Int) (Dist : List (List Int)) (r : Int) (hf : goodField Open Dist = true) (w_Open : (Open.length : Int) ≤ 9223372036854775807) (w_Dist : (Dist.length : Int) ≤ 9223372036854775807) (v_Dist : ∀ x9 ∈ Dist, (x9.length : Int) ≤ 9223372036854775807) : i_Field_areReached_P Open Dist r := by
  unfold i_Field_areReached_P
  refine ⟨?_, ?_⟩
  · refine slices_ContainsFunc_int_int_iAR_pc Dist r ?_
    · intro l hl
      obtain ⟨k, hk, rfl⟩ := List.mem_iff_getElem.1 hl
      have h1 := (gf_row hf hk).1
      rw [getD_get hk] at h1
      have := gf_open hf
      omega
  · exact any_not _ _
theorem i_Field_areReached_pc (Open : List Int) (Dist : List (List Int)) (r : Int) (hf : goodField Open Dist = true) : PC Try.prog 145 [.agg [.sl (.ints Open), .sl (.rows Dist)], .int .i64 r] (.one (.d (.bool (nearAll Dist r)))) :=
  pc_wf @Try.call145 fun hw => pc_by (by kernel_rfl) Try.func145 @Try.call145 (by kernel_rfl) i_Field_areReached_C (i_Field_areReached_A Open Dist r) (by kernel_rfl) (i_Field_areReached_vc Open Dist r hf hw.1.1 hw.1.2.1.1 hw.1.2.1.2) (by kernel_rfl)
def i_Field_areReached_orc : List D → Orc := orcN [none, none] fun ds => match ds with
  | [.agg [.sl (.ints Open), .sl (.rows Dist)], .int .i64 r] => some (.one (.d (.bool (nearAll Dist r))))
  | _ => none
abbrev s_l5Near_JJ0 (Open : List Int) (Dist : List (List Int)) (r : Int) (j : Int) : Prop := (0 ≤ j) ∧ (j ≤ (Dist.length : Int)) ∧ (allTo (fun k => decide (minL (Dist.getD k []) ≤ r)) j.toNat = true)
abbrev s_l5Near_mJ0 (Open : List Int) (Dist : List (List Int)) (r : Int) (j : Int) : Nat := (Dist.length - j).toNat
abbrev s_l5Near_JJ1 (Open : List Int) (Dist : List (List Int)) (r : Int) (j : Int) (near : Bool) (a : Int) : Prop := (0 ≤ a) ∧ (a ≤ (Open.length : Int)) ∧ (near = !(allTo (fun c => !(decide ((Dist.getD j.toNat []).getD c 0 ≤ r))) a.toNat))
abbrev s_l5Near_mJ1 (Open : List Int) (Dist : List (List Int)) (r : Int) (j : Int) (near : Bool) (a : Int) : Nat := (Open.length - a).toNat
def s_l5Near_C (f : FuncId) (ds : List D) : Orc := .no
def s_l5Near_A (Open : List Int) (Dist : List (List Int)) (r : Int) : Ann := .two (.none) (.two (.two (.none) (.loop (cut1 (fun (j : Int) => s_l5Near_JJ0 Open Dist r j) (fun (j : Int) => [(1, .d false (.int .i64 r)), (2, .ptr 2 0), (5, .d true (.int .i64 j))]) (fun (j : Int) => [(2, .box 44 [.d false (.sl (.ints Open)), .d false (.sl (.rows Dist))])])) (fun g => s_l5Near_mJ0 Open Dist r g) (fun g => (fun (j : Int) => .two (.none) (.two (.two (.none) (.two (.two (.none) (.loop (cut2 (fun (near : Bool) (a : Int) => s_l5Near_JJ1 Open Dist r j near a) (fun (near : Bool) (a : Int) => [(1, .d false (.int .i64 r)), (2, .ptr 2 0), (5, .d true (.int .i64 j)), (6, .d true (.bool near)), (7, .d true (.int .i64 a))]) (fun (near : Bool) (a : Int) => [(2, .box 44 [.d false (.sl (.ints Open)), .d false (.sl (.rows Dist))])])) (fun g => s_l5Near_mJ1 Open Dist r j g.1 g.2) (fun _ => .none))) (.none))) (.none))) g))) (.none))
def s_l5Near_P (Open : List Int) (Dist : List (List Int)) (r : Int) : Prop :=
  ((∃ j' : Int, (s_l5Near_JJ0 Open Dist r j') ∧ (r = r) ∧ ((0 : Int) = j') ∧ (Open = Open) ∧ (Dist = Dist)) ∧ (∀ j : Int, (s_l5Near_JJ0 Open Dist r j) → (((decide (j < (Dist.length : Int))) = true → ((∃ near' : Bool, ∃ a' : Int, (s_l5Near_JJ1 Open Dist r j near' a') ∧ (r = r) ∧ (j = j) ∧ (false = near') ∧ ((0 : Int) = a') ∧ (Open = Open) ∧ (Dist = Dist)) ∧ (∀ near : Bool, ∀ a : Int, (s_l5Near_JJ1 Open Dist r j near a) → (((decide (a < (Open.length : Int))) = true → ((!near) = true → (!near) = true) ∧ ((!near) = true → (!near) = true) ∧ ((!near) = true → (!near) = true) ∧ (((!near) = true → (0 : Int) ≤ j)) ∧ (((!near) = true → (j : Int) < Dist.length)) ∧ ((!near) = true → (!near) = true) ∧ (((!near) = true → j.toNat < Dist.length)) ∧ ((!near) = true → (!near) = true) ∧ ((!near) = true → (!near) = true) ∧ (((!near) = true → (0 : Int) ≤ a)) ∧ (((!near) = true → (a : Int) < (Dist.getD j.toNat []).length)) ∧ ((!near) = true → (!near) = true) ∧ (((!near) = true → a.toNat < (Dist.getD j.toNat []).length)) ∧ ((!near) = true → (!near) = true) ∧ ((!near) = true → (!near) = true) ∧ (true = true) ∧ ((near = true → true = true)) ∧ ((near = false → (!near) = true)) ∧ (-9223372036854775808 ≤ (a + 1) ∧ (a + 1) ≤ 9223372036854775807) ∧ (∃ near' : Bool, ∃ a' : Int, (s_l5Near_JJ1 Open Dist r j near' a') ∧ (s_l5Near_mJ1 Open Dist r j near' a' < s_l5Near_mJ1 Open Dist r j near a) ∧ (r = r) ∧ (j = j) ∧ ((cond near true (decide (((Dist.getD j.toNat []).getD a.toNat 0) ≤ r))) = near') ∧ ((a + 1) = a') ∧ (Open = Open) ∧ (Dist = Dist))) ∧ ((decide (a < (Open.length : Int))) = false → (((!near) = true → ((false = (nearAll Dist r)))) ∧ ((!near) = false → (-9223372036854775808 ≤ (j + 1) ∧ (j + 1) ≤ 9223372036854775807) ∧ (∃ j' : Int, (s_l5Near_JJ0 Open Dist r j') ∧ (s_l5Near_mJ0 Open Dist r j' < s_l5Near_mJ0 Open Dist r j) ∧ (r = r) ∧ ((j + 1) = j') ∧ (Open = Open) ∧ (Dist = Dist))))))))) ∧ ((decide (j < (Dist.length : Int))) = false → ((true = (nearAll Dist r)))))))
theorem s_l5Near_vc (Open : List Int) (Dist : List (List Int)) (r : Int) (hf : goodField Open Dist = true) (w_Open : (Open.length : Int) ≤ 9223372036854775807) (w_Dist : (Dist.length : Int) ≤ 9223372036854775807) (v_Dist : ∀ x9 ∈ Dist, (x9.length : Int) ≤ 9223372036854775807) : s_l5Near_P Open Dist r := by
  unfold s_l5Near_P
  obtain ⟨g1, g2, g3⟩ := gf_open hf
  refine ⟨?_, ?_⟩
  · refine ⟨0, ?_⟩
    refine ⟨?_, rfl, rfl, rfl, rfl⟩
    · refine ⟨?_, ?_, ?_⟩
      · first | omega | rfl | (intro hg; simp only [nrmT] at hg; omega) | (intro g1 g2; simp [g1, g2]; done) | (intro g1; simp at g1 ⊢; simp [g1]; done) | (simp only [nrmT] at *; omega) | (simp at * <;> omega) | (simp_all <;> omega) | (simp_all; done)
      · first | omega | rfl | (intro hg; simp only [nrmT] at hg; omega) | (intro g1 g2; simp [g1, g2]; done) | (intro g1; simp at g1 ⊢; simp [g1]; done) | (simp only [nrmT] at *; omega) | (simp at * <;> omega) | (simp_all <;> omega) | (simp_all; done)
      · first | omega | rfl | (intro hg; simp only [nrmT] at hg; omega) | (intro g1 g2; simp [g1, g2]; done) | (intro g1; simp at g1 ⊢; simp [g1]; done) | (simp only [nrmT] at *; omega) | (simp at * <;> omega) | (simp_all <;> omega) | (simp_all; done)
  · intro j hJ
    obtain ⟨h1, h2, h3⟩ := hJ
    refine ⟨?_, ?_⟩
    · intro b1
      try simp only [nrmT] at b1
      refine ⟨?_, ?_⟩
      · refine ⟨false, 0, ?_⟩
        refine ⟨?_, rfl, rfl, rfl, rfl, rfl, rfl⟩
        · refine ⟨?_, ?_, ?_⟩
          · first | omega | rfl | (intro hg; simp only [nrmT] at hg; omega) | (intro g1 g2; simp [g1, g2]; done) | (intro g1; simp at g1 ⊢; simp [g1]; done) | (simp only [nrmT] at *; omega) | (simp at * <;> omega) | (simp_all <;> omega) | (simp_all; done)
          · first | omega | rfl | (intro hg; simp only [nrmT] at hg; omega) | (intro g1 g2; simp [g1, g2]; done) | (intro g1; simp at g1 ⊢; simp [g1]; done) | (simp only [nrmT] at *; omega) | (simp at * <;> omega) | (simp_all <;> omega) | (simp_all; done)
          · rfl
      · intro near a hJ
        obtain ⟨h4, h5, h6⟩ := hJ
        refine ⟨?_, ?_⟩
        · intro b2
          try simp only [nrmT] at b2
          refine ⟨id, id, id, ?_, ?_, id, ?_, id, id, ?_, ?_, id, ?_, id, id, rfl, fun _ => rfl, ?_, ?_, ?_⟩
          · obtain ⟨rl, _⟩ := gf_row (i := j.toNat) hf (by omega)
            intro _; omega
          · obtain ⟨rl, _⟩ := gf_row (i := j.toNat) hf (by omega)
            intro _; omega
          · obtain ⟨rl, _⟩ := gf_row (i := j.toNat) hf (by omega)
            intro _; omega
          · obtain ⟨rl, _⟩ := gf_row (i := j.toNat) hf (by omega)
            intro _; omega
          · obtain ⟨rl, _⟩ := gf_row (i := j.toNat) hf (by omega)
            intro _; omega
          · obtain ⟨rl, _⟩ := gf_row (i := j.toNat) hf (by omega)
            intro _; omega
          · intro h; rw [h]; rfl
          · first | omega | rfl | (intro hg; simp only [nrmT] at hg; omega) | (intro g1 g2; simp [g1, g2]; done) | (intro g1; simp at g1 ⊢; simp [g1]; done) | (simp only [nrmT] at *; omega) | (simp at * <;> omega) | (simp_all <;> omega) | (simp_all; done)
          · refine ⟨(cond near true (decide (((Dist.getD j.toNat []).getD a.toNat 0) ≤ r))), (a + 1), ?_⟩
            refine ⟨?_, ?_, rfl, rfl, rfl, rfl, rfl, rfl⟩
            · refine ⟨?_, ?_, ?_⟩
              · first | omega | rfl | (intro hg; simp only [nrmT] at hg; omega) | (intro g1 g2; simp [g1, g2]; done) | (intro g1; simp at g1 ⊢; simp [g1]; done) | (simp only [nrmT] at *; omega) | (simp at * <;> omega) | (simp_all <;> omega) | (simp_all; done)
              · first | omega | rfl | (intro hg; simp only [nrmT] at hg; omega) | (intro g1 g2; simp [g1, g2]; done) | (intro g1; simp at g1 ⊢; simp [g1]; done) | (simp only [nrmT] at *; omega) | (simp at * <;> omega) | (simp_all <;> omega) | (simp_all; done)
              · rw [h6, allTo_succ h4]
                cases allTo (fun c => !(decide ((Dist.getD j.toNat []).getD c 0 ≤ r))) a.toNat <;> cases decide ((Dist.getD j.toNat []).getD a.toNat 0 ≤ r) <;> rfl
            · first | (show _ < _; omega) | (simp only [s_l5Near_mJ1]; omega) | (simp only [s_l5Near_mJ1] at *; simp at *; omega)
        · intro b3
          try simp only [nrmT] at b3
          refine ⟨?_, ?_⟩
          · intro b4
            try simp only [nrmT] at b4
            obtain ⟨rl, _⟩ := gf_row (i := j.toNat) hf (by omega)
            have hn := near_iff (row := Dist.getD j.toNat []) (r := r) (by omega)
            rw [rl] at hn
            rw [show a.toNat = Open.length by omega, hn] at h6
            unfold nearAll
            rw [all_no (p := fun row => decide (minL row ≤ r)) (d := []) h1 (by omega) (by rw [← h6]; exact b4)]
          · intro b5
            try simp only [nrmT] at b5
            refine ⟨?_, ?_⟩
            · first | omega | rfl | (intro hg; simp only [nrmT] at hg; omega) | (intro g1 g2; simp [g1, g2]; done) | (intro g1; simp at g1 ⊢; simp [g1]; done) | (simp only [nrmT] at *; omega) | (simp at * <;> omega) | (simp_all <;> omega) | (simp_all; done)
            · refine ⟨(j + 1), ?_⟩
              refine ⟨?_, ?_, rfl, rfl, rfl, rfl⟩
              · refine ⟨?_, ?_, ?_⟩
                · first | omega | rfl | (intro hg; simp only [nrmT] at hg; omega) | (intro g1 g2; simp [g1, g2]; done) | (intro g1; simp at g1 ⊢; simp [g1]; done) | (simp only [nrmT] at *; omega) | (simp at * <;> omega) | (simp_all <;> omega) | (simp_all; done)
                · first | omega | rfl | (intro hg; simp only [nrmT] at hg; omega) | (intro g1 g2; simp [g1, g2]; done) | (intro g1; simp at g1 ⊢; simp [g1]; done) | (simp only [nrmT] at *; omega) | (simp at * <;> omega) | (simp_all <;> omega) | (simp_all; done)
                · obtain ⟨rl, _⟩ := gf_row (i := j.toNat) hf (by omega)
                  have hn := near_iff (row := Dist.getD j.toNat []) (r := r) (by omega)
                  rw [rl] at hn
                  rw [show a.toNat = Open.length by omega, hn] at h6
                  exact allTo_step h1 h3 (by rw [← h6]; exact b5)
              · first | (show _ < _; omega) | (simp only [s_l5Near_mJ0]; omega) | (simp only [s_l5Near_mJ0] at *; simp at *; omega)
    · intro b6
      try simp only [nrmT] at b6
      unfold nearAll
      exact (all_end (p := fun row => decide (minL row ≤ r)) (d := []) (by omega) h2 h3).symm
theorem s_l5Near_pc (Open : List Int) (Dist : List (List Int)) (r : Int) (hf : goodField Open Dist = true) : PC Try.prog 143 [.agg [.sl (.ints Open), .sl (.rows Dist)], .int .i64 r] (.one (.d (.bool (nearAll Dist r)))) :=
  pc_wf @Try.call143 fun hw => pc_by (by kernel_rfl) Try.func143 @Try.call143 (by kernel_rfl) s_l5Near_C (s_l5Near_A Open Dist r) (by kernel_rfl) (s_l5Near_vc Open Dist r hf hw.1.1 hw.1.2.1.1 hw.1.2.1.2) (by kernel_rfl)
def s_l5Near_orc : List D → Orc := orcN [none, none] fun ds => match ds with
  | [.agg [.sl (.ints Open), .sl (.rows Dist)], .int .i64 r] => some (.one (.d (.bool (nearAll Dist r))))
  | _ => none
def s_ThresholdSites_C (f : FuncId) (ds : List D) : Orc := bif Nat.beq f 99 then s_l2Good_orc ds else bif Nat.beq f 143 then s_l5Near_orc ds else bif Nat.beq f 100 then s_l5Threshold_orc ds else bif Nat.beq f 144 then s_l5Nearest_orc ds else .no
def s_ThresholdSites_A (Open : List Int) (Dist : List (List Int)) (r : Int) : Ann := .none
def s_ThresholdSites_P (Open : List Int) (Dist : List (List Int)) (r : Int) : Prop :=
  (PC Try.prog 99 [.agg [.sl (.ints Open), .sl (.rows Dist)]] (.one (.d (.bool (goodField Open Dist))))) ∧ ((!(!(goodField Open Dist))) = true → (!(!(goodField Open Dist))) = true) ∧ (true = true) ∧ (((!(goodField Open Dist)) = true → true = true)) ∧ (((!(goodField Open Dist)) = false → (!(!(goodField Open Dist))) = true)) ∧ ((!(cond (!(goodField Open Dist)) true (decide (r < 0)))) = true → (!(cond (!(goodField Open Dist)) true (decide (r < 0)))) = true) ∧ ((!(cond (!(goodField Open Dist)) true (decide (r < 0)))) = true → (!(cond (!(goodField Open Dist)) true (decide (r < 0)))) = true) ∧ ((!(cond (!(goodField Open Dist)) true (decide (r < 0)))) = true → PC Try.prog 143 [.agg [.sl (.ints Open), .sl (.rows Dist)], .int .i64 r] (.one (.d (.bool (nearAll Dist r))))) ∧ ((!(cond (!(goodField Open Dist)) true (decide (r < 0)))) = true → (!(cond (!(goodField Open Dist)) true (decide (r < 0)))) = true) ∧ (true = true) ∧ (((cond (!(goodField Open Dist)) true (decide (r < 0))) = true → true = true)) ∧ (((cond (!(goodField Open Dist)) true (decide (r < 0))) = false → (!(cond (!(goodField Open Dist)) true (decide (r < 0)))) = true)) ∧ (((cond (cond (!(goodField Open Dist)) true (decide (r < 0))) true (!(nearAll Dist r))) = true → (((0 : Nat) = 0) ∧ (([] : List Int) = (tsL Open Dist r)) ∧ (false = (goodField Open Dist && decide (0 ≤ r) && nearAll Dist r)))) ∧ ((cond (cond (!(goodField Open Dist)) true (decide (r < 0))) true (!(nearAll Dist r))) = false → (true = true) ∧ (PC Try.prog 100 [.agg [.sl (.ints Open), .sl (.rows Dist)], .int .i64 r] (.one (.d (.sl (.ints (thrTo Open.length Dist r Dist.length)))))) ∧ (PC Try.prog 144 [.agg [.sl (.ints Open), .sl (.rows Dist)], .sl (.ints (thrTo Open.length Dist r Dist.length))] (.one (.d (.sl (.ints (sitesOf Dist (thrTo Open.length Dist r Dist.length))))))) ∧ ((((sitesOf Dist (thrTo Open.length Dist r Dist.length)) : List Int) = (tsL Open Dist r)) ∧ (true = (goodField Open Dist && decide (0 ≤ r) && nearAll Dist r)))))
theorem s_ThresholdSites_vc (Open : List Int) (Dist : List (List Int)) (r : Int)  (w_Open : (Open.length : Int) ≤ 9223372036854775807) (w_Dist : (Dist.length : Int) ≤ 9223372036854775807) (v_Dist : ∀ x9 ∈ Dist, (x9.length : Int) ≤ 9223372036854775807) : s_ThresholdSites_P Open Dist r := by
  unfold s_ThresholdSites_P
  refine ⟨s_l2Good_pc Open Dist, id, rfl, fun _ => rfl, ?_, id, id, ?_, id, rfl, fun _ => rfl, ?_, ?_, ?_⟩
  · intro h; rw [h]; rfl
  · intro hg
    refine s_l5Near_pc Open Dist r ?_
    · have hq : goodField Open Dist = true := by
        revert hg; cases goodField Open Dist <;> simp
      exact hq
  · intro h; rw [h]; rfl
  · intro b1
    refine ⟨rfl, ?_, ?_⟩
    · have hq : (goodField Open Dist && decide (0 ≤ r) && nearAll Dist r) = false := by
        revert b1; cases goodField Open Dist <;> cases nearAll Dist r <;> by_cases h : r < 0 <;> simp [h] <;> omega
      unfold tsL; rw [hq]; rfl
    · have hq : (goodField Open Dist && decide (0 ≤ r) && nearAll Dist r) = false := by
        revert b1; cases goodField Open Dist <;> cases nearAll Dist r <;> by_cases h : r < 0 <;> simp [h] <;> omega
      exact hq.symm
  · intro b2
    refine ⟨rfl, ?_, ?_, ?_, ?_⟩
    · refine s_l5Threshold_pc Open Dist r ?_
      · have hq : goodField Open Dist = true ∧ decide (0 ≤ r) = true ∧ nearAll Dist r = true := by
          revert b2; cases goodField Open Dist <;> cases nearAll Dist r <;> by_cases h : r < 0 <;> simp [h] <;> omega
        exact hq.1
    · refine s_l5Nearest_pc Open Dist (thrTo Open.length Dist r Dist.length) ?_ ?_ ?_
      · have hq : goodField Open Dist = true ∧ decide (0 ≤ r) = true ∧ nearAll Dist r = true := by
          revert b2; cases goodField Open Dist <;> cases nearAll Dist r <;> by_cases h : r < 0 <;> simp [h] <;> omega
        exact hq.1
      · intro c hc2
        exact (thrTo_facts Open.length Dist r Dist.length).2.2 c hc2
      · have hq : goodField Open Dist = true ∧ decide (0 ≤ r) = true ∧ nearAll Dist r = true := by
          revert b2; cases goodField Open Dist <;> cases nearAll Dist r <;> by_cases h : r < 0 <;> simp [h] <;> omega
        have := gf_open hq.1
        have := (thrTo_facts Open.length Dist r Dist.length).2.1
        omega
    · have hq : goodField Open Dist = true ∧ decide (0 ≤ r) = true ∧ nearAll Dist r = true := by
        revert b2; cases goodField Open Dist <;> cases nearAll Dist r <;> by_cases h : r < 0 <;> simp [h] <;> omega
      unfold tsL; rw [if_pos (by rw [hq.1, hq.2.1, hq.2.2]; rfl)]
    · have hq : goodField Open Dist = true ∧ decide (0 ≤ r) = true ∧ nearAll Dist r = true := by
        revert b2; cases goodField Open Dist <;> cases nearAll Dist r <;> by_cases h : r < 0 <;> simp [h] <;> omega
      rw [hq.1, hq.2.1, hq.2.2]; rfl
theorem s_ThresholdSites_pc (Open : List Int) (Dist : List (List Int)) (r : Int)  : PC Try.prog 74 [.agg [.sl (.ints Open), .sl (.rows Dist)], .int .i64 r] (.tup [.d (.sl (.ints (tsL Open Dist r))), .d (.bool (goodField Open Dist && decide (0 ≤ r) && nearAll Dist r))]) :=
  pc_wf @Try.call74 fun hw => pc_by (by kernel_rfl) Try.func74 @Try.call74 (by kernel_rfl) s_ThresholdSites_C (s_ThresholdSites_A Open Dist r) (by kernel_rfl) (s_ThresholdSites_vc Open Dist r hw.1.1 hw.1.2.1.1 hw.1.2.1.2) (by kernel_rfl)
def s_ThresholdSites_orc : List D → Orc := orcN [none, none] fun ds => match ds with
  | [.agg [.sl (.ints Open), .sl (.rows Dist)], .int .i64 r] => some (.tup [.d (.sl (.ints (tsL Open Dist r))), .d (.bool (goodField Open Dist && decide (0 ≤ r) && nearAll Dist r))])
  | _ => none
def i_ThresholdSites_C (f : FuncId) (ds : List D) : Orc := bif Nat.beq f 101 then i_isRadius_orc ds else bif Nat.beq f 145 then i_Field_areReached_orc ds else bif Nat.beq f 102 then i_Field_threshold_orc ds else bif Nat.beq f 146 then i_Field_sitesOf_orc ds else .no
def i_ThresholdSites_A (Open : List Int) (Dist : List (List Int)) (r : Int) : Ann := .none
def i_ThresholdSites_P (Open : List Int) (Dist : List (List Int)) (r : Int) : Prop :=
  (PC Try.prog 101 [.agg [.sl (.ints Open), .sl (.rows Dist)], .int .i64 r] (.one (.d (.bool (goodField Open Dist && decide (0 ≤ r)))))) ∧ ((!(!(goodField Open Dist && decide (0 ≤ r)))) = true → (!(!(goodField Open Dist && decide (0 ≤ r)))) = true) ∧ ((!(!(goodField Open Dist && decide (0 ≤ r)))) = true → (!(!(goodField Open Dist && decide (0 ≤ r)))) = true) ∧ ((!(!(goodField Open Dist && decide (0 ≤ r)))) = true → PC Try.prog 145 [.agg [.sl (.ints Open), .sl (.rows Dist)], .int .i64 r] (.one (.d (.bool (nearAll Dist r))))) ∧ ((!(!(goodField Open Dist && decide (0 ≤ r)))) = true → (!(!(goodField Open Dist && decide (0 ≤ r)))) = true) ∧ (true = true) ∧ (((!(goodField Open Dist && decide (0 ≤ r))) = true → true = true)) ∧ (((!(goodField Open Dist && decide (0 ≤ r))) = false → (!(!(goodField Open Dist && decide (0 ≤ r)))) = true)) ∧ (((cond (!(goodField Open Dist && decide (0 ≤ r))) true (!(nearAll Dist r))) = true → (((tsL Open Dist r).length = 0) ∧ (false = (goodField Open Dist && decide (0 ≤ r) && nearAll Dist r)))) ∧ ((cond (!(goodField Open Dist && decide (0 ≤ r))) true (!(nearAll Dist r))) = false → (true = true) ∧ (PC Try.prog 102 [.agg [.sl (.ints Open), .sl (.rows Dist)], .int .i64 r] (.one (.own 3 (.ints (thrTo Open.length Dist r Dist.length))))) ∧ ((thrTo Open.length Dist r Dist.length).length = (thrTo Open.length Dist r Dist.length).length) ∧ (PC Try.prog 146 [.agg [.sl (.ints Open), .sl (.rows Dist)], .sl (.ints (thrTo Open.length Dist r Dist.length))] (.one (.own 3 (.ints (sitesOf Dist (thrTo Open.length Dist r Dist.length)))))) ∧ (((sitesOf Dist (thrTo Open.length Dist r Dist.length)).length = (sitesOf Dist (thrTo Open.length Dist r Dist.length)).length) ∧ ((sitesOf Dist (thrTo Open.length Dist r Dist.length) : List Int) = tsL Open Dist r) ∧ (true = (goodField Open Dist && decide (0 ≤ r) && nearAll Dist r)))))
theorem i_ThresholdSites_vc (Open : List Int) (Dist : List (List Int)) (r : Int)  (w_Open : (Open.length : Int) ≤ 9223372036854775807) (w_Dist : (Dist.length : Int) ≤ 9223372036854775807) (v_Dist : ∀ x9 ∈ Dist, (x9.length : Int) ≤ 9223372036854775807) : i_ThresholdSites_P Open Dist r := by
  unfold i_ThresholdSites_P
  refine ⟨i_isRadius_pc Open Dist r, id, id, ?_, id, rfl, fun _ => rfl, ?_, ?_, ?_⟩
  · intro hg
    refine i_Field_areReached_pc Open Dist r ?_
    · have hq : goodField Open Dist = true := by
        revert hg; cases goodField Open Dist <;> simp
      exact hq
  · intro h; rw [h]; rfl
  · intro b1
    refine ⟨?_, ?_⟩
    · have hq : (goodField Open Dist && decide (0 ≤ r) && nearAll Dist r) = false := by
        revert b1; cases goodField Open Dist <;> cases nearAll Dist r <;> by_cases h : r < 0 <;> simp [h] <;> omega
      unfold tsL; rw [hq]; rfl
    · have hq : (goodField Open Dist && decide (0 ≤ r) && nearAll Dist r) = false := by
        revert b1; cases goodField Open Dist <;> cases nearAll Dist r <;> by_cases h : r < 0 <;> simp [h] <;> omega
      exact hq.symm
  · intro b2
    refine ⟨rfl, ?_, rfl, ?_, rfl, ?_, ?_⟩
    · refine i_Field_threshold_pc Open Dist r ?_
      · have hq : goodField Open Dist = true ∧ decide (0 ≤ r) = true ∧ nearAll Dist r = true := by
          revert b2; cases goodField Open Dist <;> cases nearAll Dist r <;> by_cases h : r < 0 <;> simp [h] <;> omega
        exact hq.1
    · refine i_Field_sitesOf_pc Open Dist (thrTo Open.length Dist r Dist.length) ?_ ?_ ?_
      · have hq : goodField Open Dist = true ∧ decide (0 ≤ r) = true ∧ nearAll Dist r = true := by
          revert b2; cases goodField Open Dist <;> cases nearAll Dist r <;> by_cases h : r < 0 <;> simp [h] <;> omega
        exact hq.1
      · intro c hc2
        exact (thrTo_facts Open.length Dist r Dist.length).2.2 c hc2
      · have hq : goodField Open Dist = true ∧ decide (0 ≤ r) = true ∧ nearAll Dist r = true := by
          revert b2; cases goodField Open Dist <;> cases nearAll Dist r <;> by_cases h : r < 0 <;> simp [h] <;> omega
        have := gf_open hq.1
        have := (thrTo_facts Open.length Dist r Dist.length).2.1
        omega
    · have hq : goodField Open Dist = true ∧ decide (0 ≤ r) = true ∧ nearAll Dist r = true := by
        revert b2; cases goodField Open Dist <;> cases nearAll Dist r <;> by_cases h : r < 0 <;> simp [h] <;> omega
      unfold tsL; rw [if_pos (by rw [hq.1, hq.2.1, hq.2.2]; rfl)]
    · have hq : goodField Open Dist = true ∧ decide (0 ≤ r) = true ∧ nearAll Dist r = true := by
        revert b2; cases goodField Open Dist <;> cases nearAll Dist r <;> by_cases h : r < 0 <;> simp [h] <;> omega
      rw [hq.1, hq.2.1, hq.2.2]; rfl
theorem i_ThresholdSites_pc (Open : List Int) (Dist : List (List Int)) (r : Int)  : PC Try.prog 75 [.agg [.sl (.ints Open), .sl (.rows Dist)], .int .i64 r] (.tup [.own 3 (.ints (tsL Open Dist r)), .d (.bool (goodField Open Dist && decide (0 ≤ r) && nearAll Dist r))]) :=
  pc_wf @Try.call75 fun hw => pc_by (by kernel_rfl) Try.func75 @Try.call75 (by kernel_rfl) i_ThresholdSites_C (i_ThresholdSites_A Open Dist r) (by kernel_rfl) (i_ThresholdSites_vc Open Dist r hw.1.1 hw.1.2.1.1 hw.1.2.1.2) (by kernel_rfl)
def i_ThresholdSites_orc : List D → Orc := orcN [none, none] fun ds => match ds with
  | [.agg [.sl (.ints Open), .sl (.rows Dist)], .int .i64 r] => some (.tup [.own 3 (.ints (tsL Open Dist r)), .d (.bool (goodField Open Dist && decide (0 ≤ r) && nearAll Dist r))])
  | _ => none
def l_FnExactThresholdSites_C (f : FuncId) (ds : List D) : Orc := bif Nat.beq f 40 then l_szField_orc ds else bif Nat.beq f 42 then l_toField_orc ds else bif Nat.beq f 74 then s_ThresholdSites_orc ds else bif Nat.beq f 75 then i_ThresholdSites_orc ds else bif Nat.beq f 32 then l_eqIntS_orc ds else bif Nat.beq f 44 then l_eqField_orc ds else bif Nat.beq f 36 then l_heldIntS_orc ds else .no
def l_FnExactThresholdSites_A (Open : List Int) (Dist : List (List Int)) (r : Int) : Ann := .two (.none) (.two (.none) (.two (.none) (.two (.none) (.two (.reg [(1, .g)]) (.two (.reg [(1, .g)]) (.two (.none) (.two (.none) (.two (.two (.reg [(2, .g)]) (.none)) (.two (.none) (.two (.mark [] 2 (.kill (1 + (Open.length : Int) + ((Dist.map List.length).sum : Int)))) (.two (.none) (.two (.none) (.two (.mark [] 2 (.wr (marks 1 (tsL Open Dist r).length) (1 + ((tsL Open Dist r).length : Int)))) (.two (.none) (.two (.none) (.two (.none) (.two (.none) (.two (.reg [(1, .g)]) (.none)))))))))))))))))))
def l_FnExactThresholdSites_P (Open : List Int) (Dist : List (List Int)) (r : Int) : Prop :=
  (PC Try.prog 40 [.agg [.sl (.ints Open), .sl (.rows Dist)], .int .i64 1048576] (.one (.d (.int .i64 (szField Open Dist 1048576))))) ∧ (((decide ((szField Open Dist 1048576) < 0)) = true → ((true = true))) ∧ ((decide ((szField Open Dist 1048576) < 0)) = false → (PC Try.prog 42 [.agg [.sl (.ints Open), .sl (.rows Dist)]] (.one (.d (.agg [.sl (.ints Open), .sl (.rows Dist)])))) ∧ (PC Try.prog 74 [.agg [.sl (.ints Open), .sl (.rows Dist)], .int .i64 r] (.tup [.d (.sl (.ints (tsL Open Dist r))), .d (.bool (goodField Open Dist && decide (0 ≤ r) && nearAll Dist r))])) ∧ (PC Try.prog 42 [.agg [.sl (.ints Open), .sl (.rows Dist)]] (.one (.d (.agg [.sl (.ints Open), .sl (.rows Dist)])))) ∧ (PC Try.prog 75 [.agg [.sl (.ints Open), .sl (.rows Dist)], .int .i64 r] (.tup [.own 3 (.ints (tsL Open Dist r)), .d (.bool (goodField Open Dist && decide (0 ≤ r) && nearAll Dist r))])) ∧ ((tsL Open Dist r).length = (tsL Open Dist r).length) ∧ (PC Try.prog 32 [.sl (.ints (tsL Open Dist r)), .sl (.ints (tsL Open Dist r))] (.one (.d (.bool ((tsL Open Dist r) == (tsL Open Dist r)))))) ∧ ((!(!((tsL Open Dist r) == (tsL Open Dist r)))) = true → (!(!((tsL Open Dist r) == (tsL Open Dist r)))) = true) ∧ ((!(!((tsL Open Dist r) == (tsL Open Dist r)))) = true → (!(!((tsL Open Dist r) == (tsL Open Dist r)))) = true) ∧ (true = true) ∧ (((!((tsL Open Dist r) == (tsL Open Dist r))) = true → true = true)) ∧ (((!((tsL Open Dist r) == (tsL Open Dist r))) = false → (!(!((tsL Open Dist r) == (tsL Open Dist r)))) = true)) ∧ (((cond (!((tsL Open Dist r) == (tsL Open Dist r))) true ((goodField Open Dist && decide (0 ≤ r) && nearAll Dist r) != (goodField Open Dist && decide (0 ≤ r) && nearAll Dist r))) = true → ((false = true))) ∧ ((cond (!((tsL Open Dist r) == (tsL Open Dist r))) true ((goodField Open Dist && decide (0 ≤ r) && nearAll Dist r) != (goodField Open Dist && decide (0 ≤ r) && nearAll Dist r))) = false → (true = true) ∧ (PC Try.prog 42 [.agg [.sl (.ints Open), .sl (.rows Dist)]] (.one (.d (.agg [.sl (.ints Open), .sl (.rows Dist)])))) ∧ (PC Try.prog 44 [.agg [.sl (.ints Open), .sl (.rows Dist)], .agg [.sl (.ints Open), .sl (.rows Dist)]] (.one (.d (.bool ((Open == Open) && (Dist == Dist)))))) ∧ (((!((Open == Open) && (Dist == Dist))) = true → ((false = true))) ∧ ((!((Open == Open) && (Dist == Dist))) = false → (PG Try.prog 45 [.agg [.ints Open.length, .rows (Dist.map List.length)], .int 1] (1 + (Open.length : Int) + ((Dist.map List.length).sum : Int))) ∧ ((!(decide ((1 + (Open.length : Int) + ((Dist.map List.length).sum : Int)) < 0))) = true → (!(decide ((1 + (Open.length : Int) + ((Dist.map List.length).sum : Int)) < 0))) = true) ∧ ((!(decide ((1 + (Open.length : Int) + ((Dist.map List.length).sum : Int)) < 0))) = true → (!(decide ((1 + (Open.length : Int) + ((Dist.map List.length).sum : Int)) < 0))) = true) ∧ (((!(decide ((1 + (Open.length : Int) + ((Dist.map List.length).sum : Int)) < 0))) = true → (tsL Open Dist r).length = (tsL Open Dist r).length)) ∧ ((!(decide ((1 + (Open.length : Int) + ((Dist.map List.length).sum : Int)) < 0))) = true → PC Try.prog 32 [.sl (.ints (tsL Open Dist r)), .sl (.ints (tsL Open Dist r))] (.one (.d (.bool ((tsL Open Dist r) == (tsL Open Dist r)))))) ∧ ((!(decide ((1 + (Open.length : Int) + ((Dist.map List.length).sum : Int)) < 0))) = true → (!(decide ((1 + (Open.length : Int) + ((Dist.map List.length).sum : Int)) < 0))) = true) ∧ (true = true) ∧ (((decide ((1 + (Open.length : Int) + ((Dist.map List.length).sum : Int)) < 0)) = true → true = true)) ∧ (((decide ((1 + (Open.length : Int) + ((Dist.map List.length).sum : Int)) < 0)) = false → (!(decide ((1 + (Open.length : Int) + ((Dist.map List.length).sum : Int)) < 0))) = true)) ∧ ((!(cond (decide ((1 + (Open.length : Int) + ((Dist.map List.length).sum : Int)) < 0)) true (!((tsL Open Dist r) == (tsL Open Dist r))))) = true → (!(cond (decide ((1 + (Open.length : Int) + ((Dist.map List.length).sum : Int)) < 0)) true (!((tsL Open Dist r) == (tsL Open Dist r))))) = true) ∧ ((!(cond (decide ((1 + (Open.length : Int) + ((Dist.map List.length).sum : Int)) < 0)) true (!((tsL Open Dist r) == (tsL Open Dist r))))) = true → (!(cond (decide ((1 + (Open.length : Int) + ((Dist.map List.length).sum : Int)) < 0)) true (!((tsL Open Dist r) == (tsL Open Dist r))))) = true) ∧ (true = true) ∧ (((cond (decide ((1 + (Open.length : Int) + ((Dist.map List.length).sum : Int)) < 0)) true (!((tsL Open Dist r) == (tsL Open Dist r)))) = true → true = true)) ∧ (((cond (decide ((1 + (Open.length : Int) + ((Dist.map List.length).sum : Int)) < 0)) true (!((tsL Open Dist r) == (tsL Open Dist r)))) = false → (!(cond (decide ((1 + (Open.length : Int) + ((Dist.map List.length).sum : Int)) < 0)) true (!((tsL Open Dist r) == (tsL Open Dist r))))) = true)) ∧ (((cond (cond (decide ((1 + (Open.length : Int) + ((Dist.map List.length).sum : Int)) < 0)) true (!((tsL Open Dist r) == (tsL Open Dist r)))) true ((goodField Open Dist && decide (0 ≤ r) && nearAll Dist r) != (goodField Open Dist && decide (0 ≤ r) && nearAll Dist r))) = true → ((false = true))) ∧ ((cond (cond (decide ((1 + (Open.length : Int) + ((Dist.map List.length).sum : Int)) < 0)) true (!((tsL Open Dist r) == (tsL Open Dist r)))) true ((goodField Open Dist && decide (0 ≤ r) && nearAll Dist r) != (goodField Open Dist && decide (0 ≤ r) && nearAll Dist r))) = false → ((tsL Open Dist r).length = (tsL Open Dist r).length) ∧ ((marks 1 (tsL Open Dist r).length).length = (tsL Open Dist r).length) ∧ (PW Try.prog 35 3 (tsL Open Dist r) (marks 1 (tsL Open Dist r).length) 1 (1 + ((tsL Open Dist r).length : Int))) ∧ ((tsL Open Dist r).length = (marks 1 (tsL Open Dist r).length).length) ∧ (PC Try.prog 36 [.sl (.ints (marks 1 (tsL Open Dist r).length)), .int .i64 1] (.one (.d (.int .i64 (1 + ((marks 1 (tsL Open Dist r).length).length : Int)))))) ∧ (((decide ((1 + ((marks 1 (tsL Open Dist r).length).length : Int)) < 0)) = true → ((false = true))) ∧ ((decide ((1 + ((marks 1 (tsL Open Dist r).length).length : Int)) < 0)) = false → ((((1 + ((marks 1 (tsL Open Dist r).length).length : Int)) != (1 + ((tsL Open Dist r).length : Int))) = true → ((false = true))) ∧ (((1 + ((marks 1 (tsL Open Dist r).length).length : Int)) != (1 + ((tsL Open Dist r).length : Int))) = false → (PC Try.prog 42 [.agg [.sl (.ints Open), .sl (.rows Dist)]] (.one (.d (.agg [.sl (.ints Open), .sl (.rows Dist)])))) ∧ (PC Try.prog 75 [.agg [.sl (.ints Open), .sl (.rows Dist)], .int .i64 r] (.tup [.own 3 (.ints (tsL Open Dist r)), .d (.bool (goodField Open Dist && decide (0 ≤ r) && nearAll Dist r))])) ∧ ((tsL Open Dist r).length = (tsL Open Dist r).length) ∧ (PC Try.prog 32 [.sl (.ints (tsL Open Dist r)), .sl (.ints (tsL Open Dist r))] (.one (.d (.bool ((tsL Open Dist r) == (tsL Open Dist r)))))) ∧ ((!(!((tsL Open Dist r) == (tsL Open Dist r)))) = true → (!(!((tsL Open Dist r) == (tsL Open Dist r)))) = true) ∧ ((!(!((tsL Open Dist r) == (tsL Open Dist r)))) = true → (!(!((tsL Open Dist r) == (tsL Open Dist r)))) = true) ∧ (true = true) ∧ (((!((tsL Open Dist r) == (tsL Open Dist r))) = true → true = true)) ∧ (((!((tsL Open Dist r) == (tsL Open Dist r))) = false → (!(!((tsL Open Dist r) == (tsL Open Dist r)))) = true)) ∧ (((cond (!((tsL Open Dist r) == (tsL Open Dist r))) true ((goodField Open Dist && decide (0 ≤ r) && nearAll Dist r) != (goodField Open Dist && decide (0 ≤ r) && nearAll Dist r))) = true → ((false = true))) ∧ ((cond (!((tsL Open Dist r) == (tsL Open Dist r))) true ((goodField Open Dist && decide (0 ≤ r) && nearAll Dist r) != (goodField Open Dist && decide (0 ≤ r) && nearAll Dist r))) = false → ((tsL Open Dist r).length = (marks 1 (tsL Open Dist r).length).length) ∧ (PC Try.prog 36 [.sl (.ints (marks 1 (tsL Open Dist r).length)), .int .i64 1] (.one (.d (.int .i64 (1 + ((marks 1 (tsL Open Dist r).length).length : Int)))))) ∧ (((decide ((1 + ((marks 1 (tsL Open Dist r).length).length : Int)) < 0)) = true → ((false = true))) ∧ ((decide ((1 + ((marks 1 (tsL Open Dist r).length).length : Int)) < 0)) = false → ((((1 + ((marks 1 (tsL Open Dist r).length).length : Int)) != (1 + ((tsL Open Dist r).length : Int))) = true → ((false = true))) ∧ (((1 + ((marks 1 (tsL Open Dist r).length).length : Int)) != (1 + ((tsL Open Dist r).length : Int))) = false → ((true = true))))))))))))))))))))
theorem l_FnExactThresholdSites_vc (Open : List Int) (Dist : List (List Int)) (r : Int)  (w_Open : (Open.length : Int) ≤ 9223372036854775807) (w_Dist : (Dist.length : Int) ≤ 9223372036854775807) (v_Dist : ∀ x9 ∈ Dist, (x9.length : Int) ≤ 9223372036854775807) : l_FnExactThresholdSites_P Open Dist r := by
  unfold l_FnExactThresholdSites_P
  refine ⟨?_, ?_, ?_⟩
  · refine l_szField_pc Open Dist 1048576 ?_
    · first | omega | rfl | (intro hg; simp only [nrmT] at hg; omega) | (intro g1 g2; simp [g1, g2]; done) | (intro g1; simp at g1 ⊢; simp [g1]; done) | (simp only [nrmT] at *; omega) | (simp at * <;> omega) | (simp_all <;> omega) | (simp_all; done)
  · intro b1
    try simp only [nrmT] at b1
    exact rfl
  · intro b2
    try simp only [nrmT] at b2
    refine ⟨?_, s_ThresholdSites_pc Open Dist r, ?_, i_ThresholdSites_pc Open Dist r, rfl, l_eqIntS_pc (tsL Open Dist r) (tsL Open Dist r), id, id, rfl, fun _ => rfl, ?_, ?_, ?_⟩
    · refine l_toField_pc Open Dist ?_ ?_ ?_
      · have := szField_bound b2; omega
      · have := szField_bound b2; omega
      · have h := (szField_bound b2).2.2
        intro xs hx
        have h := h xs hx
        omega
    · refine l_toField_pc Open Dist ?_ ?_ ?_
      · have := szField_bound b2; omega
      · have := szField_bound b2; omega
      · have h := (szField_bound b2).2.2
        intro xs hx
        have h := h xs hx
        omega
    · intro h; rw [h]; rfl
    · intro b3
      first | (exfalso; simp only [marks_len] at b3; omega) | (simp at b3; done) | (exfalso; simp only [marks_len] at b3; simp at b3; done) | omega | rfl | (intro hg; simp only [nrmT] at hg; omega) | (intro g1 g2; simp [g1, g2]; done) | (intro g1; simp at g1 ⊢; simp [g1]; done) | (simp only [nrmT] at *; omega) | (simp at * <;> omega) | (simp_all <;> omega) | (simp_all; done)
    · intro b4
      refine ⟨rfl, ?_, l_eqField_pc Open Dist Open Dist, ?_, ?_⟩
      · refine l_toField_pc Open Dist ?_ ?_ ?_
        · have := szField_bound b2; omega
        · have := szField_bound b2; omega
        · have h := (szField_bound b2).2.2
          intro xs hx
          have h := h xs hx
          omega
      · intro b5
        try simp only [Bool.not_eq_true', Bool.not_eq_false', Bool.not_not] at b5
        first | (exfalso; simp only [marks_len] at b5; omega) | (simp at b5; done) | (exfalso; simp only [marks_len] at b5; simp at b5; done) | omega | rfl | (intro hg; simp only [nrmT] at hg; omega) | (intro g1 g2; simp [g1, g2]; done) | (intro g1; simp at g1 ⊢; simp [g1]; done) | (simp only [nrmT] at *; omega) | (simp at * <;> omega) | (simp_all <;> omega) | (simp_all; done)
      · intro b6
        try simp only [Bool.not_eq_true', Bool.not_eq_false', Bool.not_not] at b6
        refine ⟨?_, id, id, fun _ => rfl, fun _ => l_eqIntS_pc (tsL Open Dist r) (tsL Open Dist r), id, rfl, fun _ => rfl, ?_, id, id, rfl, fun _ => rfl, ?_, ?_, ?_⟩
        · refine laws_markField_g_pg Open.length (Dist.map List.length) 1 ?_ ?_ ?_
          · first | omega | rfl | (intro hg; simp only [nrmT] at hg; omega) | (intro g1 g2; simp [g1, g2]; done) | (intro g1; simp at g1 ⊢; simp [g1]; done) | (simp only [nrmT] at *; omega) | (simp at * <;> omega) | (simp_all <;> omega) | (simp_all; done)
          · rw [List.length_map]; have hz := szField_bound b2; omega
          · have hz := szField_bound b2
            have hs := sum_lens20 (xss := Dist) (by omega) (fun xs hx => by have := hz.2.2 xs hx; omega)
            omega
        · first | omega | rfl | (intro hg; simp only [nrmT] at hg; omega) | (intro g1 g2; simp [g1, g2]; done) | (intro g1; simp at g1 ⊢; simp [g1]; done) | (simp only [nrmT] at *; omega) | (simp at * <;> omega) | (simp_all <;> omega) | (simp_all; done)
        · intro h; rw [h]; rfl
        · intro b7
          first | (exfalso; simp only [marks_len] at b7; omega) | (simp at b7; done) | (exfalso; simp only [marks_len] at b7; simp at b7; done) | omega | rfl | (intro hg; simp only [nrmT] at hg; omega) | (intro g1 g2; simp [g1, g2]; done) | (intro g1; simp at g1 ⊢; simp [g1]; done) | (simp only [nrmT] at *; omega) | (simp at * <;> omega) | (simp_all <;> omega) | (simp_all; done)
        · intro b8
          refine ⟨rfl, marks_len _ _, ?_, ?_, ?_, ?_, ?_⟩
          · refine laws_markIntS_w_pw (tsL Open Dist r) 1 ?_ ?_
            · first | omega | rfl | (intro hg; simp only [nrmT] at hg; omega) | (intro g1 g2; simp [g1, g2]; done) | (intro g1; simp at g1 ⊢; simp [g1]; done) | (simp only [nrmT] at *; omega) | (simp at * <;> omega) | (simp_all <;> omega) | (simp_all; done)
            · have := @tsL_len Open Dist r
              omega
          · simp only [marks_len]
          · refine l_heldIntS_pc (marks 1 (tsL Open Dist r).length) 1 ?_ ?_ ?_
            · first | omega | rfl | (intro hg; simp only [nrmT] at hg; omega) | (intro g1 g2; simp [g1, g2]; done) | (intro g1; simp at g1 ⊢; simp [g1]; done) | (simp only [nrmT] at *; omega) | (simp at * <;> omega) | (simp_all <;> omega) | (simp_all; done)
            · simp only [marks_len]
            · simp only [marks_len]
              have := @tsL_len Open Dist r
              omega
          · intro b9
            try simp only [nrmT] at b9
            first | (exfalso; simp only [marks_len] at b9; omega) | (simp at b9; done) | (exfalso; simp only [marks_len] at b9; simp at b9; done) | omega | rfl | (intro hg; simp only [nrmT] at hg; omega) | (intro g1 g2; simp [g1, g2]; done) | (intro g1; simp at g1 ⊢; simp [g1]; done) | (simp only [nrmT] at *; omega) | (simp at * <;> omega) | (simp_all <;> omega) | (simp_all; done)
          · intro b10
            try simp only [nrmT] at b10
            refine ⟨?_, ?_⟩
            · intro b11
              try simp only [nrmT] at b11
              first | (exfalso; simp only [marks_len] at b11; omega) | (simp at b11; done) | (exfalso; simp only [marks_len] at b11; simp at b11; done) | omega | rfl | (intro hg; simp only [nrmT] at hg; omega) | (intro g1 g2; simp [g1, g2]; done) | (intro g1; simp at g1 ⊢; simp [g1]; done) | (simp only [nrmT] at *; omega) | (simp at * <;> omega) | (simp_all <;> omega) | (simp_all; done)
            · intro b12
              try simp only [nrmT] at b12
              refine ⟨?_, i_ThresholdSites_pc Open Dist r, rfl, l_eqIntS_pc (tsL Open Dist r) (tsL Open Dist r), id, id, rfl, fun _ => rfl, ?_, ?_, ?_⟩
              · refine l_toField_pc Open Dist ?_ ?_ ?_
                · have := szField_bound b2; omega
                · have := szField_bound b2; omega
                · have h := (szField_bound b2).2.2
                  intro xs hx
                  have h := h xs hx
                  omega
              · intro h; rw [h]; rfl
              · intro b13
                first | (exfalso; simp only [marks_len] at b13; omega) | (simp at b13; done) | (exfalso; simp only [marks_len] at b13; simp at b13; done) | omega | rfl | (intro hg; simp only [nrmT] at hg; omega) | (intro g1 g2; simp [g1, g2]; done) | (intro g1; simp at g1 ⊢; simp [g1]; done) | (simp only [nrmT] at *; omega) | (simp at * <;> omega) | (simp_all <;> omega) | (simp_all; done)
              · intro b14
                refine ⟨?_, ?_, ?_, ?_⟩
                · simp only [marks_len]
                · refine l_heldIntS_pc (marks 1 (tsL Open Dist r).length) 1 ?_ ?_ ?_
                  · first | omega | rfl | (intro hg; simp only [nrmT] at hg; omega) | (intro g1 g2; simp [g1, g2]; done) | (intro g1; simp at g1 ⊢; simp [g1]; done) | (simp only [nrmT] at *; omega) | (simp at * <;> omega) | (simp_all <;> omega) | (simp_all; done)
                  · simp only [marks_len]
                  · simp only [marks_len]
                    have := @tsL_len Open Dist r
                    omega
                · intro b15
                  try simp only [nrmT] at b15
                  first | (exfalso; simp only [marks_len] at b15; omega) | (simp at b15; done) | (exfalso; simp only [marks_len] at b15; simp at b15; done) | omega | rfl | (intro hg; simp only [nrmT] at hg; omega) | (intro g1 g2; simp [g1, g2]; done) | (intro g1; simp at g1 ⊢; simp [g1]; done) | (simp only [nrmT] at *; omega) | (simp at * <;> omega) | (simp_all <;> omega) | (simp_all; done)
                · intro b16
                  try simp only [nrmT] at b16
                  refine ⟨?_, ?_⟩
                  · intro b17
                    try simp only [nrmT] at b17
                    first | (exfalso; simp only [marks_len] at b17; omega) | (simp at b17; done) | (exfalso; simp only [marks_len] at b17; simp at b17; done) | omega | rfl | (intro hg; simp only [nrmT] at hg; omega) | (intro g1 g2; simp [g1, g2]; done) | (intro g1; simp at g1 ⊢; simp [g1]; done) | (simp only [nrmT] at *; omega) | (simp at * <;> omega) | (simp_all <;> omega) | (simp_all; done)
                  · intro b18
                    try simp only [nrmT] at b18
                    exact rfl
theorem l_FnExactThresholdSites_pc (Open : List Int) (Dist : List (List Int)) (r : Int)  : PC Try.prog 18 [.agg [.sl (.ints Open), .sl (.rows Dist)], .int .i64 r] (.one (.d (.bool true))) :=
  pc_wf @Try.call18 fun hw => pc_by (by kernel_rfl) Try.func18 @Try.call18 (by kernel_rfl) l_FnExactThresholdSites_C (l_FnExactThresholdSites_A Open Dist r) (by kernel_rfl) (l_FnExactThresholdSites_vc Open Dist r hw.1.1 hw.1.2.1.1 hw.1.2.1.2) (by kernel_rfl)
end Go.Proofs.Ytijdbfbeobflnaa
