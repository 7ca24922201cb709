/- Contracts. -/
import Derived.Test.YtmcbcomcejgbcaaPw
import Derived.Test.YtmcbcomcejgbcaaProg
import Derived.Test.YtmcbcomcejgbcaaT7
import Derived.Test.YtmcbcomcejgbcaaTm
import Derived.KernelRfl
set_option linter.unusedVariables false
set_option linter.unusedSimpArgs false
namespace Go.Proofs.Ytmcbcomcejgbcaa
open Go

theorem marks_getD (k : Int) (n i : Nat) (h : i < n) : (marks k n).getD i 0 = k + (i : Int) := by
  simp [marks, h]
theorem lt62 {b x : Int} (hb : 0 ≤ b ∧ b ≤ 4611686018427387903) (h2 : x ≤ 62) (h : 0 < b / 2 ^ x.toNat) : x < 62 := by
  by_cases e : x = 62
  · subst e
    have e2 : (2 : Int) ^ (62 : Int).toNat = 4611686018427387904 := by decide
    rw [e2] at h
    omega
  · omega
theorem bit_out {b : Int} {m : Nat} (hb : 0 ≤ b) (h : ¬ 0 < b / 2 ^ m) (k : Nat) (hk : m ≤ k) : b.toNat.testBit k = false := by
  have h1 : b.toNat / 2 ^ m = 0 := by
    have h2 : ((b.toNat / 2 ^ m : Nat) : Int) = b / 2 ^ m := by
      rw [Int.natCast_ediv, Int.toNat_of_nonneg hb]; simp
    have h3 : (0 : Int) ≤ ((b.toNat / 2 ^ m : Nat) : Int) := Int.natCast_nonneg _
    omega
  have h4 : b.toNat < 2 ^ m := (Nat.div_eq_zero_iff_lt (Nat.two_pow_pos m)).1 h1
  exact Nat.testBit_lt_two_pow (Nat.lt_of_lt_of_le h4 (Nat.pow_le_pow_right (by omega) hk))

abbrev l_heldIntS_JJ0 (xs : List Int) (k : Int) (k2 : Int) (i : Int) : Prop := (0 ≤ i) ∧ (i ≤ (xs.length : Int)) ∧ (k2 = k + i)
abbrev l_heldIntS_mJ0 (xs : List Int) (k : Int) (k2 : Int) (i : Int) : Nat := (xs.length - i).toNat
def l_heldIntS_C (f : FuncId) (ds : List D) : Orc := .no
def l_heldIntS_A (xs : List Int) (k : Int) : Ann := .two (.none) (.two (.two (.none) (.loop (cut2 (fun (k2 : Int) (i : Int) => l_heldIntS_JJ0 xs k k2 i) (fun (k2 : Int) (i : Int) => [(0, .d false (.sl (.ints xs))), (1, .d true (.int .i64 k2)), (5, .d true (.int .i64 i))]) (fun (k2 : Int) (i : Int) => [])) (fun g => l_heldIntS_mJ0 xs k g.1 g.2) (fun _ => .none))) (.none))
def l_heldIntS_P (xs : List Int) (k : Int) : Prop :=
  ((∃ k2' : Int, ∃ i' : Int, (l_heldIntS_JJ0 xs k k2' i') ∧ (xs = xs) ∧ (k = k2') ∧ ((0 : Int) = i')) ∧ (∀ k2 : Int, ∀ i : Int, (l_heldIntS_JJ0 xs k k2 i) → (((decide (i < (xs.length : Int))) = true → ((0 : Int) ≤ i) ∧ ((i : Int) < xs.length) ∧ (i.toNat < xs.length) ∧ ((((xs.getD i.toNat 0) != k2) = true → ((((-1) : Int) = (k + (xs.length : Int))))) ∧ (((xs.getD i.toNat 0) != k2) = false → (-9223372036854775808 ≤ (k2 + 1) ∧ (k2 + 1) ≤ 9223372036854775807) ∧ (-9223372036854775808 ≤ (i + 1) ∧ (i + 1) ≤ 9223372036854775807) ∧ (∃ k2' : Int, ∃ i' : Int, (l_heldIntS_JJ0 xs k k2' i') ∧ (l_heldIntS_mJ0 xs k k2' i' < l_heldIntS_mJ0 xs k k2 i) ∧ (xs = xs) ∧ ((k2 + 1) = k2') ∧ ((i + 1) = i'))))) ∧ ((decide (i < (xs.length : Int))) = false → ((k2 = (k + (xs.length : Int))))))))
theorem l_heldIntS_vc (xs : List Int) (k : Int) (hk : 0 ≤ k) (hx : xs = marks k xs.length) (hn : k + (xs.length : Int) ≤ 9223372036854775807) (w_xs : (xs.length : Int) ≤ 9223372036854775807) : l_heldIntS_P xs k := by
  unfold l_heldIntS_P
  refine ⟨?_, ?_⟩
  · refine ⟨k, 0, ?_⟩
    refine ⟨?_, rfl, rfl, rfl⟩
    · refine ⟨?_, ?_, ?_⟩
      · first | omega | rfl | (intro hg; simp only [nrmT] at hg; omega) | (intro g1 g2; simp [g1, g2]; done) | (intro g1; simp at g1 ⊢; simp [g1]; done) | (simp only [nrmT] at *; omega) | (simp at * <;> omega) | (simp_all <;> omega) | (simp_all; done)
      · first | omega | rfl | (intro hg; simp only [nrmT] at hg; omega) | (intro g1 g2; simp [g1, g2]; done) | (intro g1; simp at g1 ⊢; simp [g1]; done) | (simp only [nrmT] at *; omega) | (simp at * <;> omega) | (simp_all <;> omega) | (simp_all; done)
      · first | omega | rfl | (intro hg; simp only [nrmT] at hg; omega) | (intro g1 g2; simp [g1, g2]; done) | (intro g1; simp at g1 ⊢; simp [g1]; done) | (simp only [nrmT] at *; omega) | (simp at * <;> omega) | (simp_all <;> omega) | (simp_all; done)
  · intro k2 i hJ
    obtain ⟨h1, h2, h3⟩ := hJ
    refine ⟨?_, ?_⟩
    · intro b1
      try simp only [nrmT] at b1
      refine ⟨?_, ?_, ?_, ?_, ?_⟩
      · first | omega | rfl | (intro hg; simp only [nrmT] at hg; omega) | (intro g1 g2; simp [g1, g2]; done) | (intro g1; simp at g1 ⊢; simp [g1]; done) | (simp only [nrmT] at *; omega) | (simp at * <;> omega) | (simp_all <;> omega) | (simp_all; done)
      · first | omega | rfl | (intro hg; simp only [nrmT] at hg; omega) | (intro g1 g2; simp [g1, g2]; done) | (intro g1; simp at g1 ⊢; simp [g1]; done) | (simp only [nrmT] at *; omega) | (simp at * <;> omega) | (simp_all <;> omega) | (simp_all; done)
      · first | omega | rfl | (intro hg; simp only [nrmT] at hg; omega) | (intro g1 g2; simp [g1, g2]; done) | (intro g1; simp at g1 ⊢; simp [g1]; done) | (simp only [nrmT] at *; omega) | (simp at * <;> omega) | (simp_all <;> omega) | (simp_all; done)
      · intro b2
        try simp only [nrmT] at b2
        exfalso
        have h9 : xs.getD i.toNat 0 = k + (i.toNat : Int) := by
          rw [hx]; exact marks_getD k _ _ (by omega)
        omega
      · intro b3
        try simp only [nrmT] at b3
        refine ⟨?_, ?_, ?_⟩
        · first | omega | rfl | (intro hg; simp only [nrmT] at hg; omega) | (intro g1 g2; simp [g1, g2]; done) | (intro g1; simp at g1 ⊢; simp [g1]; done) | (simp only [nrmT] at *; omega) | (simp at * <;> omega) | (simp_all <;> omega) | (simp_all; done)
        · first | omega | rfl | (intro hg; simp only [nrmT] at hg; omega) | (intro g1 g2; simp [g1, g2]; done) | (intro g1; simp at g1 ⊢; simp [g1]; done) | (simp only [nrmT] at *; omega) | (simp at * <;> omega) | (simp_all <;> omega) | (simp_all; done)
        · refine ⟨(k2 + 1), (i + 1), ?_⟩
          refine ⟨?_, ?_, rfl, rfl, rfl⟩
          · refine ⟨?_, ?_, ?_⟩
            · first | omega | rfl | (intro hg; simp only [nrmT] at hg; omega) | (intro g1 g2; simp [g1, g2]; done) | (intro g1; simp at g1 ⊢; simp [g1]; done) | (simp only [nrmT] at *; omega) | (simp at * <;> omega) | (simp_all <;> omega) | (simp_all; done)
            · first | omega | rfl | (intro hg; simp only [nrmT] at hg; omega) | (intro g1 g2; simp [g1, g2]; done) | (intro g1; simp at g1 ⊢; simp [g1]; done) | (simp only [nrmT] at *; omega) | (simp at * <;> omega) | (simp_all <;> omega) | (simp_all; done)
            · first | omega | rfl | (intro hg; simp only [nrmT] at hg; omega) | (intro g1 g2; simp [g1, g2]; done) | (intro g1; simp at g1 ⊢; simp [g1]; done) | (simp only [nrmT] at *; omega) | (simp at * <;> omega) | (simp_all <;> omega) | (simp_all; done)
          · first | (show _ < _; omega) | (simp only [l_heldIntS_mJ0]; omega) | (simp only [l_heldIntS_mJ0] at *; simp at *; omega)
    · intro b4
      try simp only [nrmT] at b4
      first | omega | rfl | (intro hg; simp only [nrmT] at hg; omega) | (intro g1 g2; simp [g1, g2]; done) | (intro g1; simp at g1 ⊢; simp [g1]; done) | (simp only [nrmT] at *; omega) | (simp at * <;> omega) | (simp_all <;> omega) | (simp_all; done)
theorem l_heldIntS_pc (xs : List Int) (k : Int) (hk : 0 ≤ k) (hx : xs = marks k xs.length) (hn : k + (xs.length : Int) ≤ 9223372036854775807) : PC Try.prog 49 [.sl (.ints xs), .int .i64 k] (.one (.d (.int .i64 (k + (xs.length : Int))))) :=
  pc_wf @Try.call49 fun hw => pc_by (by kernel_rfl) Try.func49 @Try.call49 (by kernel_rfl) l_heldIntS_C (l_heldIntS_A xs k) (by kernel_rfl) (l_heldIntS_vc xs k hk hx hn hw.1) (by kernel_rfl)
def l_heldIntS_orc : List D → Orc := orcN [some .ints, none] fun ds => match ds with
  | [.sl (.ints xs), .int .i64 k] => some (.one (.d (.int .i64 (k + (xs.length : Int)))))
  | _ => none

theorem members_stop {p : Nat → Bool} {m : Nat} (h : ∀ k, m ≤ k → p k = false) : ∀ n, m ≤ n → members p n = members p m
  | 0, hn => by have : m = 0 := by omega
                rw [this]
  | n + 1, hn => by
    by_cases e : m = n + 1
    · rw [e]
    · rw [members_succ, members_stop h n (by omega), h n (by omega)]; simp

abbrev i_bag_list_JJ0 (b : Int) (out : List Int) (x : Int) : Prop := (0 ≤ x) ∧ (x ≤ 62) ∧ (out = members (fun k => b.toNat.testBit k) x.toNat)
abbrev i_bag_list_mJ0 (b : Int) (out : List Int) (x : Int) : Nat := (62 - x).toNat
def i_bag_list_C (f : FuncId) (ds : List D) : Orc := bif Nat.beq f 172 then i_bag_has_orc ds else .no
def i_bag_list_A (b : Int) : Ann := .two (.none) (.two (.none) (.two (.two (.none) (.loop (cut2 (fun (out : List Int) (x : Int) => i_bag_list_JJ0 b out x) (fun (out : List Int) (x : Int) => [(0, .d false (.int .u64 b)), (3, .own 1000000 out.length), (4, .d true (.int .i64 x))]) (fun (out : List Int) (x : Int) => [(1000000, .arr true 3 (.ints out))])) (fun g => i_bag_list_mJ0 b g.1 g.2) (fun _ => .none))) (.none)))
def i_bag_list_P (b : Int) : Prop :=
  ((∃ out' : List Int, ∃ x' : Int, (i_bag_list_JJ0 b out' x') ∧ (b = b) ∧ ((0 : Nat) = out'.length) ∧ ((0 : Int) = x') ∧ ([] = out')) ∧ (∀ out : List Int, ∀ x : Int, (i_bag_list_JJ0 b out x) → ((0 : Int) ≤ b ∧ (b : Int) ≤ 18446744073709551615) ∧ ((0 : Int) ≤ x) ∧ (((decide ((b / 2 ^ x.toNat) > 0)) = true → (PC Try.prog 172 [.int .u64 b, .int .i64 x] (.one (.d (.bool (b.toNat.testBit x.toNat))))) ∧ (((b.toNat.testBit x.toNat) = true → (out.length = out.length) ∧ ((1 : Nat) = 1) ∧ ((out.length + 1) * 8 ≤ 140737488355328) ∧ (-9223372036854775808 ≤ (x + 1) ∧ (x + 1) ≤ 9223372036854775807) ∧ (∃ out' : List Int, ∃ x' : Int, (i_bag_list_JJ0 b out' x') ∧ (i_bag_list_mJ0 b out' x' < i_bag_list_mJ0 b out x) ∧ (b = b) ∧ ((out.length + 1) = out'.length) ∧ ((x + 1) = x') ∧ ((out ++ [x]) = out'))) ∧ ((b.toNat.testBit x.toNat) = false → (-9223372036854775808 ≤ (x + 1) ∧ (x + 1) ≤ 9223372036854775807) ∧ (∃ out' : List Int, ∃ x' : Int, (i_bag_list_JJ0 b out' x') ∧ (i_bag_list_mJ0 b out' x' < i_bag_list_mJ0 b out x) ∧ (b = b) ∧ (out.length = out'.length) ∧ ((x + 1) = x') ∧ (out = out'))))) ∧ ((decide ((b / 2 ^ x.toNat) > 0)) = false → ((out.length = out.length) ∧ ((out : List Int) = members (fun k => b.toNat.testBit k) 62))))))
theorem i_bag_list_vc (b : Int) (hb : 0 ≤ b ∧ b ≤ 4611686018427387903)  : i_bag_list_P b := by
  unfold i_bag_list_P
  refine ⟨?_, ?_⟩
  · refine ⟨([]), 0, ?_⟩
    refine ⟨?_, rfl, rfl, rfl, ?_⟩
    · refine ⟨?_, ?_, ?_⟩
      · first | omega | rfl | (intro hg; simp only [nrmT] at hg; omega) | (intro g1 g2; simp [g1, g2]; done) | (intro g1; simp at g1 ⊢; simp [g1]; done) | (simp only [nrmT] at *; omega) | (simp at * <;> omega) | (simp_all <;> omega) | (simp_all; done)
      · first | omega | rfl | (intro hg; simp only [nrmT] at hg; omega) | (intro g1 g2; simp [g1, g2]; done) | (intro g1; simp at g1 ⊢; simp [g1]; done) | (simp only [nrmT] at *; omega) | (simp at * <;> omega) | (simp_all <;> omega) | (simp_all; done)
      · first | omega | rfl | (intro hg; simp only [nrmT] at hg; omega) | (intro g1 g2; simp [g1, g2]; done) | (intro g1; simp at g1 ⊢; simp [g1]; done) | (simp only [nrmT] at *; omega) | (simp at * <;> omega) | (simp_all <;> omega) | (simp_all; done)
    · first | omega | rfl | (intro hg; simp only [nrmT] at hg; omega) | (intro g1 g2; simp [g1, g2]; done) | (intro g1; simp at g1 ⊢; simp [g1]; done) | (simp only [nrmT] at *; omega) | (simp at * <;> omega) | (simp_all <;> omega) | (simp_all; done)
  · intro out x hJ
    obtain ⟨h1, h2, h3⟩ := hJ
    refine ⟨?_, ?_, ?_, ?_⟩
    · first | omega | rfl | (intro hg; simp only [nrmT] at hg; omega) | (intro g1 g2; simp [g1, g2]; done) | (intro g1; simp at g1 ⊢; simp [g1]; done) | (simp only [nrmT] at *; omega) | (simp at * <;> omega) | (simp_all <;> omega) | (simp_all; done)
    · first | omega | rfl | (intro hg; simp only [nrmT] at hg; omega) | (intro g1 g2; simp [g1, g2]; done) | (intro g1; simp at g1 ⊢; simp [g1]; done) | (simp only [nrmT] at *; omega) | (simp at * <;> omega) | (simp_all <;> omega) | (simp_all; done)
    · intro b1
      try simp only [nrmT] at b1
      refine ⟨?_, ?_, ?_⟩
      · refine i_bag_has_pc b x ?_ ?_
        · first | omega | rfl | (intro hg; simp only [nrmT] at hg; omega) | (intro g1 g2; simp [g1, g2]; done) | (intro g1; simp at g1 ⊢; simp [g1]; done) | (simp only [nrmT] at *; omega) | (simp at * <;> omega) | (simp_all <;> omega) | (simp_all; done)
        · first | omega | rfl | (intro hg; simp only [nrmT] at hg; omega) | (intro g1 g2; simp [g1, g2]; done) | (intro g1; simp at g1 ⊢; simp [g1]; done) | (simp only [nrmT] at *; omega) | (simp at * <;> omega) | (simp_all <;> omega) | (simp_all; done)
      · intro b2
        try simp only [nrmT] at b2
        refine ⟨rfl, rfl, ?_, ?_, ?_⟩
        · rw [h3]; have := members_len_le (fun k => b.toNat.testBit k) x.toNat; omega
        · first | omega | rfl | (intro hg; simp only [nrmT] at hg; omega) | (intro g1 g2; simp [g1, g2]; done) | (intro g1; simp at g1 ⊢; simp [g1]; done) | (simp only [nrmT] at *; omega) | (simp at * <;> omega) | (simp_all <;> omega) | (simp_all; done)
        · refine ⟨(out ++ [x]), (x + 1), ?_⟩
          refine ⟨?_, ?_, rfl, ?_, rfl, rfl⟩
          · refine ⟨?_, ?_, ?_⟩
            · first | omega | rfl | (intro hg; simp only [nrmT] at hg; omega) | (intro g1 g2; simp [g1, g2]; done) | (intro g1; simp at g1 ⊢; simp [g1]; done) | (simp only [nrmT] at *; omega) | (simp at * <;> omega) | (simp_all <;> omega) | (simp_all; done)
            · have := lt62 hb h2 b1; omega
            · rw [h3, show (x + 1).toNat = x.toNat + 1 by omega, members_succ, b2]; simp; try omega
          · have := lt62 hb h2 b1
            first | (show _ < _; omega) | (simp only [i_bag_list_mJ0]; omega) | (simp only [i_bag_list_mJ0] at *; simp at *; omega)
          · first | omega | rfl | (intro hg; simp only [nrmT] at hg; omega) | (intro g1 g2; simp [g1, g2]; done) | (intro g1; simp at g1 ⊢; simp [g1]; done) | (simp only [nrmT] at *; omega) | (simp at * <;> omega) | (simp_all <;> omega) | (simp_all; done)
      · intro b3
        try simp only [nrmT] at b3
        refine ⟨?_, ?_⟩
        · first | omega | rfl | (intro hg; simp only [nrmT] at hg; omega) | (intro g1 g2; simp [g1, g2]; done) | (intro g1; simp at g1 ⊢; simp [g1]; done) | (simp only [nrmT] at *; omega) | (simp at * <;> omega) | (simp_all <;> omega) | (simp_all; done)
        · refine ⟨out, (x + 1), ?_⟩
          refine ⟨?_, ?_, rfl, rfl, rfl, rfl⟩
          · refine ⟨?_, ?_, ?_⟩
            · first | omega | rfl | (intro hg; simp only [nrmT] at hg; omega) | (intro g1 g2; simp [g1, g2]; done) | (intro g1; simp at g1 ⊢; simp [g1]; done) | (simp only [nrmT] at *; omega) | (simp at * <;> omega) | (simp_all <;> omega) | (simp_all; done)
            · have := lt62 hb h2 b1; omega
            · rw [h3, show (x + 1).toNat = x.toNat + 1 by omega, members_succ, b3]; simp; try omega
          · have := lt62 hb h2 b1
            first | (show _ < _; omega) | (simp only [i_bag_list_mJ0]; omega) | (simp only [i_bag_list_mJ0] at *; simp at *; omega)
    · intro b4
      try simp only [nrmT] at b4
      refine ⟨rfl, ?_⟩
      · rw [h3]; refine (members_stop (fun k hk => bit_out hb.1 (m := x.toNat) (by omega) k hk) 62 (by omega)).symm
theorem i_bag_list_pc (b : Int) (hb : 0 ≤ b ∧ b ≤ 4611686018427387903) : PC Try.prog 138 [.int .u64 b] (.one (.own 3 (.ints (members (fun k => b.toNat.testBit k) 62)))) :=
  pc_wf @Try.call138 fun _ => pc_by (by kernel_rfl) Try.func138 @Try.call138 (by kernel_rfl) i_bag_list_C (i_bag_list_A b) (by kernel_rfl) (i_bag_list_vc b hb) (by kernel_rfl)
def i_bag_list_orc : List D → Orc := orcN [none] fun ds => match ds with
  | [.int .u64 b] => some (.one (.own 3 (.ints (members (fun k => b.toNat.testBit k) 62))))
  | _ => none

def covBy (Size : Int) (Sets : List (List Int)) (Costs choice : List Int) : List Int := if (goodSys Size Sets Costs && rising choice 0 ((Sets.length : Int) - 1)) = true then members (covB Sets choice) Size.toNat else []
theorem covBy_bits {Size : Int} {Sets : List (List Int)} {Costs choice : List Int} (h : goodSys Size Sets Costs = true) (hc : rising choice 0 ((Sets.length : Int) - 1) = true) (b : Int) (hb : b = ((covTo Sets choice choice.length : Nat) : Int)) :
    members (fun k => b.toNat.testBit k) 62 = covBy Size Sets Costs choice := by
  have gf := gs_facts h
  have h1 := covTo_lt h hc choice.length (Nat.le_refl _)
  rw [covBy, if_pos (by rw [h, hc]; rfl), hb, Int.toNat_natCast]
  rw [members_stop (m := Size.toNat) (fun k hk => Nat.testBit_lt_two_pow (Nat.lt_of_lt_of_le h1 (Nat.pow_le_pow_right (by omega) hk))) 62 (by omega)]
  exact members_congr fun k _ => covN_bit h hc k
theorem covBy_len {Size : Int} {Sets : List (List Int)} {Costs choice : List Int} : (covBy Size Sets Costs choice).length ≤ 8 := by
  unfold covBy
  split
  · rename_i h
    rw [Bool.and_eq_true] at h
    have gf := gs_facts h.1
    have := members_len_le (covB Sets choice) Size.toNat
    omega
  · simp

def i_CoveredBy_C (f : FuncId) (ds : List D) : Orc := bif Nat.beq f 109 then i_isChoice_orc ds else bif Nat.beq f 137 then i_System_covered_orc ds else bif Nat.beq f 138 then i_bag_list_orc ds else .no
def i_CoveredBy_A (Size : Int) (Sets : List (List Int)) (Costs : List Int) (choice : List Int) : Ann := .none
def i_CoveredBy_P (Size : Int) (Sets : List (List Int)) (Costs : List Int) (choice : List Int) : Prop :=
  (PC Try.prog 109 [.agg [.int .i64 Size, .sl (.rows Sets), .sl (.ints Costs)], .sl (.ints choice)] (.one (.d (.bool (goodSys Size Sets Costs && rising choice 0 ((Sets.length : Int) - 1)))))) ∧ (((!(goodSys Size Sets Costs && rising choice 0 ((Sets.length : Int) - 1))) = true → (((covBy Size Sets Costs choice).length = 0) ∧ (false = (goodSys Size Sets Costs && rising choice 0 ((Sets.length : Int) - 1))))) ∧ ((!(goodSys Size Sets Costs && rising choice 0 ((Sets.length : Int) - 1))) = false → (PC Try.prog 137 [.agg [.int .i64 Size, .sl (.rows Sets), .sl (.ints Costs)], .sl (.ints choice)] (.one (.d (.int .u64 ((covTo Sets choice choice.length : Nat) : Int))))) ∧ (PC Try.prog 138 [.int .u64 ((covTo Sets choice choice.length : Nat) : Int)] (.one (.own 3 (.ints (members (fun k => ((covTo Sets choice choice.length : Nat) : Int).toNat.testBit k) 62))))) ∧ (((members (fun k => ((covTo Sets choice choice.length : Nat) : Int).toNat.testBit k) 62).length = (members (fun k => ((covTo Sets choice choice.length : Nat) : Int).toNat.testBit k) 62).length) ∧ ((members (fun k => ((covTo Sets choice choice.length : Nat) : Int).toNat.testBit k) 62 : List Int) = covBy Size Sets Costs choice) ∧ (true = (goodSys Size Sets Costs && rising choice 0 ((Sets.length : Int) - 1))))))
theorem i_CoveredBy_vc (Size : Int) (Sets : List (List Int)) (Costs : List Int) (choice : List Int)  (w_Sets : (Sets.length : Int) ≤ 9223372036854775807) (v_Sets : ∀ x9 ∈ Sets, (x9.length : Int) ≤ 9223372036854775807) (w_Costs : (Costs.length : Int) ≤ 9223372036854775807) (w_choice : (choice.length : Int) ≤ 9223372036854775807) : i_CoveredBy_P Size Sets Costs choice := by
  unfold i_CoveredBy_P
  refine ⟨i_isChoice_pc Size Sets Costs choice, ?_, ?_⟩
  · intro b1
    try simp only [Bool.not_eq_true', Bool.not_eq_false', Bool.not_not] at b1
    refine ⟨?_, ?_⟩
    · have hq : (goodSys Size Sets Costs && rising choice 0 ((Sets.length : Int) - 1)) = false := by
        revert b1; cases goodSys Size Sets Costs <;> cases rising choice 0 ((Sets.length : Int) - 1) <;> simp
      unfold covBy; rw [hq]; rfl
    · have hq : (goodSys Size Sets Costs && rising choice 0 ((Sets.length : Int) - 1)) = false := by
        revert b1; cases goodSys Size Sets Costs <;> cases rising choice 0 ((Sets.length : Int) - 1) <;> simp
      exact hq.symm
  · intro b2
    try simp only [Bool.not_eq_true', Bool.not_eq_false', Bool.not_not] at b2
    refine ⟨?_, ?_, rfl, ?_, ?_⟩
    · refine i_System_covered_pc Size Sets Costs choice ?_ ?_
      · have hq : goodSys Size Sets Costs = true ∧ rising choice 0 ((Sets.length : Int) - 1) = true := by
          revert b2; cases goodSys Size Sets Costs <;> cases rising choice 0 ((Sets.length : Int) - 1) <;> simp
        exact hq.1
      · have hq : goodSys Size Sets Costs = true ∧ rising choice 0 ((Sets.length : Int) - 1) = true := by
          revert b2; cases goodSys Size Sets Costs <;> cases rising choice 0 ((Sets.length : Int) - 1) <;> simp
        exact hq.2
    · refine i_bag_list_pc ((covTo Sets choice choice.length : Nat) : Int) ?_
      · have hq : goodSys Size Sets Costs = true ∧ rising choice 0 ((Sets.length : Int) - 1) = true := by
          revert b2; cases goodSys Size Sets Costs <;> cases rising choice 0 ((Sets.length : Int) - 1) <;> simp
        have gf := gs_facts hq.1
        have h1 := covTo_lt hq.1 hq.2 choice.length (Nat.le_refl _)
        have p8 := pow8 (n := Size.toNat) (by omega)
        omega
    · have hq : goodSys Size Sets Costs = true ∧ rising choice 0 ((Sets.length : Int) - 1) = true := by
        revert b2; cases goodSys Size Sets Costs <;> cases rising choice 0 ((Sets.length : Int) - 1) <;> simp
      exact covBy_bits hq.1 hq.2 _ rfl
    · have hq : goodSys Size Sets Costs = true ∧ rising choice 0 ((Sets.length : Int) - 1) = true := by
        revert b2; cases goodSys Size Sets Costs <;> cases rising choice 0 ((Sets.length : Int) - 1) <;> simp
      rw [hq.1, hq.2]; rfl
theorem i_CoveredBy_pc (Size : Int) (Sets : List (List Int)) (Costs : List Int) (choice : List Int)  : PC Try.prog 74 [.agg [.int .i64 Size, .sl (.rows Sets), .sl (.ints Costs)], .sl (.ints choice)] (.tup [.own 3 (.ints (covBy Size Sets Costs choice)), .d (.bool (goodSys Size Sets Costs && rising choice 0 ((Sets.length : Int) - 1)))]) :=
  pc_wf @Try.call74 fun hw => pc_by (by kernel_rfl) Try.func74 @Try.call74 (by kernel_rfl) i_CoveredBy_C (i_CoveredBy_A Size Sets Costs choice) (by kernel_rfl) (i_CoveredBy_vc Size Sets Costs choice hw.1.2.1.1 hw.1.2.1.2 hw.1.2.2.1 hw.2.1) (by kernel_rfl)
def i_CoveredBy_orc : List D → Orc := orcN [none, some .ints] fun ds => match ds with
  | [.agg [.int .i64 Size, .sl (.rows Sets), .sl (.ints Costs)], .sl (.ints choice)] => some (.tup [.own 3 (.ints (covBy Size Sets Costs choice)), .d (.bool (goodSys Size Sets Costs && rising choice 0 ((Sets.length : Int) - 1)))])
  | _ => none

def s_CoveredBy_C (f : FuncId) (ds : List D) : Orc := bif Nat.beq f 107 then s_l6Two_orc ds else bif Nat.beq f 136 then s_l6Covered_orc ds else .no
def s_CoveredBy_A (Size : Int) (Sets : List (List Int)) (Costs : List Int) (choice : List Int) : Ann := .none
def s_CoveredBy_P (Size : Int) (Sets : List (List Int)) (Costs : List Int) (choice : List Int) : Prop :=
  (PC Try.prog 107 [.agg [.int .i64 Size, .sl (.rows Sets), .sl (.ints Costs)], .sl (.ints choice)] (.one (.d (.bool (goodSys Size Sets Costs && rising choice 0 ((Sets.length : Int) - 1)))))) ∧ (((!(goodSys Size Sets Costs && rising choice 0 ((Sets.length : Int) - 1))) = true → (((0 : Nat) = 0) ∧ (([] : List Int) = (covBy Size Sets Costs choice)) ∧ (false = (goodSys Size Sets Costs && rising choice 0 ((Sets.length : Int) - 1))))) ∧ ((!(goodSys Size Sets Costs && rising choice 0 ((Sets.length : Int) - 1))) = false → (PC Try.prog 136 [.agg [.int .i64 Size, .sl (.rows Sets), .sl (.ints Costs)], .sl (.ints choice)] (.one (.d (.sl (.ints (covL Sets choice choice.length)))))) ∧ ((((covL Sets choice choice.length) : List Int) = (covBy Size Sets Costs choice)) ∧ (true = (goodSys Size Sets Costs && rising choice 0 ((Sets.length : Int) - 1))))))
theorem s_CoveredBy_vc (Size : Int) (Sets : List (List Int)) (Costs : List Int) (choice : List Int)  (w_Sets : (Sets.length : Int) ≤ 9223372036854775807) (v_Sets : ∀ x9 ∈ Sets, (x9.length : Int) ≤ 9223372036854775807) (w_Costs : (Costs.length : Int) ≤ 9223372036854775807) (w_choice : (choice.length : Int) ≤ 9223372036854775807) : s_CoveredBy_P Size Sets Costs choice := by
  unfold s_CoveredBy_P
  refine ⟨s_l6Two_pc Size Sets Costs choice, ?_, ?_⟩
  · intro b1
    try simp only [Bool.not_eq_true', Bool.not_eq_false', Bool.not_not] at b1
    refine ⟨rfl, ?_, ?_⟩
    · have hq : (goodSys Size Sets Costs && rising choice 0 ((Sets.length : Int) - 1)) = false := by
        revert b1; cases goodSys Size Sets Costs <;> cases rising choice 0 ((Sets.length : Int) - 1) <;> simp
      unfold covBy; rw [hq]; rfl
    · have hq : (goodSys Size Sets Costs && rising choice 0 ((Sets.length : Int) - 1)) = false := by
        revert b1; cases goodSys Size Sets Costs <;> cases rising choice 0 ((Sets.length : Int) - 1) <;> simp
      exact hq.symm
  · intro b2
    try simp only [Bool.not_eq_true', Bool.not_eq_false', Bool.not_not] at b2
    refine ⟨?_, ?_, ?_⟩
    · refine s_l6Covered_pc Size Sets Costs choice ?_ ?_
      · have hq : goodSys Size Sets Costs = true ∧ rising choice 0 ((Sets.length : Int) - 1) = true := by
          revert b2; cases goodSys Size Sets Costs <;> cases rising choice 0 ((Sets.length : Int) - 1) <;> simp
        exact hq.1
      · have hq : goodSys Size Sets Costs = true ∧ rising choice 0 ((Sets.length : Int) - 1) = true := by
          revert b2; cases goodSys Size Sets Costs <;> cases rising choice 0 ((Sets.length : Int) - 1) <;> simp
        exact hq.2
    · have hq : goodSys Size Sets Costs = true ∧ rising choice 0 ((Sets.length : Int) - 1) = true := by
        revert b2; cases goodSys Size Sets Costs <;> cases rising choice 0 ((Sets.length : Int) - 1) <;> simp
      rw [covL_members hq.1 hq.2, covBy, if_pos (by rw [hq.1, hq.2]; rfl)]
    · have hq : goodSys Size Sets Costs = true ∧ rising choice 0 ((Sets.length : Int) - 1) = true := by
        revert b2; cases goodSys Size Sets Costs <;> cases rising choice 0 ((Sets.length : Int) - 1) <;> simp
      rw [hq.1, hq.2]; rfl
theorem s_CoveredBy_pc (Size : Int) (Sets : List (List Int)) (Costs : List Int) (choice : List Int)  : PC Try.prog 73 [.agg [.int .i64 Size, .sl (.rows Sets), .sl (.ints Costs)], .sl (.ints choice)] (.tup [.d (.sl (.ints (covBy Size Sets Costs choice))), .d (.bool (goodSys Size Sets Costs && rising choice 0 ((Sets.length : Int) - 1)))]) :=
  pc_wf @Try.call73 fun hw => pc_by (by kernel_rfl) Try.func73 @Try.call73 (by kernel_rfl) s_CoveredBy_C (s_CoveredBy_A Size Sets Costs choice) (by kernel_rfl) (s_CoveredBy_vc Size Sets Costs choice hw.1.2.1.1 hw.1.2.1.2 hw.1.2.2.1 hw.2.1) (by kernel_rfl)
def s_CoveredBy_orc : List D → Orc := orcN [none, some .ints] fun ds => match ds with
  | [.agg [.int .i64 Size, .sl (.rows Sets), .sl (.ints Costs)], .sl (.ints choice)] => some (.tup [.d (.sl (.ints (covBy Size Sets Costs choice))), .d (.bool (goodSys Size Sets Costs && rising choice 0 ((Sets.length : Int) - 1)))])
  | _ => none

theorem sum_lens : ∀ (xss : List (List Int)) (m : Nat), (∀ xs ∈ xss, xs.length ≤ m) → (xss.map List.length).sum ≤ xss.length * m
  | [], m, _ => by simp
  | xs :: r, m, h => by
    have h1 := sum_lens r m fun ys hy => h ys (by simp [hy])
    have h2 := h xs (by simp)
    simp only [List.map_cons, List.sum_cons, List.length_cons, Nat.add_mul]
    omega
theorem sum_lens20 {xss : List (List Int)} (h1 : xss.length ≤ 1048576) (h2 : ∀ xs ∈ xss, xs.length ≤ 1048576) : (xss.map List.length).sum ≤ 1099511627776 := by
  have h3 := sum_lens xss 1048576 h2
  have h4 := Nat.mul_le_mul_right 1048576 h1
  omega

def l_FnExactCoveredBy_C (f : FuncId) (ds : List D) : Orc := bif Nat.beq f 25 then l_szSystem_orc ds else bif Nat.beq f 27 then l_toSystem_orc ds else bif Nat.beq f 40 then l_toIntS_orc ds else bif Nat.beq f 73 then s_CoveredBy_orc ds else bif Nat.beq f 74 then i_CoveredBy_orc ds else bif Nat.beq f 43 then l_eqIntS_orc ds else bif Nat.beq f 29 then l_eqSystem_orc ds else bif Nat.beq f 49 then l_heldIntS_orc ds else .no
def l_FnExactCoveredBy_A (Size : Int) (Sets : List (List Int)) (Costs : List Int) (choice : List Int) : Ann := .two (.none) (.two (.none) (.two (.none) (.two (.none) (.two (.none) (.two (.reg [(1, .g), (3, .g)]) (.two (.reg [(1, .g)]) (.two (.reg [(1, .g)]) (.two (.none) (.two (.none) (.two (.two (.reg [(2, .g)]) (.none)) (.two (.two (.reg [(2, .g)]) (.none)) (.two (.none) (.two (.mark [] 2 (.kill (1 + ((Sets.map List.length).sum : Int) + (Costs.length : Int)))) (.two (.mark [] 2 (.kill ((1 + ((Sets.map List.length).sum : Int) + (Costs.length : Int)) + (choice.length : Int)))) (.two (.none) (.two (.none) (.two (.mark [] 2 (.wr (marks 1 (covBy Size Sets Costs choice).length) (1 + ((covBy Size Sets Costs choice).length : Int)))) (.two (.none) (.two (.none) (.two (.none) (.two (.none) (.two (.reg [(1, .g), (3, .g)]) (.none)))))))))))))))))))))))
def l_FnExactCoveredBy_P (Size : Int) (Sets : List (List Int)) (Costs : List Int) (choice : List Int) : Prop :=
  (((decide ((choice.length : Int) > 1048576)) = true → ((true = true))) ∧ ((decide ((choice.length : Int) > 1048576)) = false → (PC Try.prog 25 [.agg [.int .i64 Size, .sl (.rows Sets), .sl (.ints Costs)], .int .i64 1048576] (.one (.d (.int .i64 (szSys Sets Costs 1048576))))) ∧ (((decide ((szSys Sets Costs 1048576) < 0)) = true → ((true = true))) ∧ ((decide ((szSys Sets Costs 1048576) < 0)) = false → (PC Try.prog 27 [.agg [.int .i64 Size, .sl (.rows Sets), .sl (.ints Costs)]] (.one (.d (.agg [.int .i64 Size, .sl (.rows Sets), .sl (.ints Costs)])))) ∧ (PC Try.prog 40 [.sl (.ints choice)] (.one (.d (.sl (.ints choice))))) ∧ (PC Try.prog 73 [.agg [.int .i64 Size, .sl (.rows Sets), .sl (.ints Costs)], .sl (.ints choice)] (.tup [.d (.sl (.ints (covBy Size Sets Costs choice))), .d (.bool (goodSys Size Sets Costs && rising choice 0 ((Sets.length : Int) - 1)))])) ∧ (PC Try.prog 27 [.agg [.int .i64 Size, .sl (.rows Sets), .sl (.ints Costs)]] (.one (.d (.agg [.int .i64 Size, .sl (.rows Sets), .sl (.ints Costs)])))) ∧ (PC Try.prog 40 [.sl (.ints choice)] (.one (.d (.sl (.ints choice))))) ∧ (PC Try.prog 74 [.agg [.int .i64 Size, .sl (.rows Sets), .sl (.ints Costs)], .sl (.ints choice)] (.tup [.own 3 (.ints (covBy Size Sets Costs choice)), .d (.bool (goodSys Size Sets Costs && rising choice 0 ((Sets.length : Int) - 1)))])) ∧ ((covBy Size Sets Costs choice).length = (covBy Size Sets Costs choice).length) ∧ (PC Try.prog 43 [.sl (.ints (covBy Size Sets Costs choice)), .sl (.ints (covBy Size Sets Costs choice))] (.one (.d (.bool ((covBy Size Sets Costs choice) == (covBy Size Sets Costs choice)))))) ∧ ((!(!((covBy Size Sets Costs choice) == (covBy Size Sets Costs choice)))) = true → (!(!((covBy Size Sets Costs choice) == (covBy Size Sets Costs choice)))) = true) ∧ ((!(!((covBy Size Sets Costs choice) == (covBy Size Sets Costs choice)))) = true → (!(!((covBy Size Sets Costs choice) == (covBy Size Sets Costs choice)))) = true) ∧ (true = true) ∧ (((!((covBy Size Sets Costs choice) == (covBy Size Sets Costs choice))) = true → true = true)) ∧ (((!((covBy Size Sets Costs choice) == (covBy Size Sets Costs choice))) = false → (!(!((covBy Size Sets Costs choice) == (covBy Size Sets Costs choice)))) = true)) ∧ (((cond (!((covBy Size Sets Costs choice) == (covBy Size Sets Costs choice))) true ((goodSys Size Sets Costs && rising choice 0 ((Sets.length : Int) - 1)) != (goodSys Size Sets Costs && rising choice 0 ((Sets.length : Int) - 1)))) = true → ((false = true))) ∧ ((cond (!((covBy Size Sets Costs choice) == (covBy Size Sets Costs choice))) true ((goodSys Size Sets Costs && rising choice 0 ((Sets.length : Int) - 1)) != (goodSys Size Sets Costs && rising choice 0 ((Sets.length : Int) - 1)))) = false → (true = true) ∧ (PC Try.prog 27 [.agg [.int .i64 Size, .sl (.rows Sets), .sl (.ints Costs)]] (.one (.d (.agg [.int .i64 Size, .sl (.rows Sets), .sl (.ints Costs)])))) ∧ (PC Try.prog 29 [.agg [.int .i64 Size, .sl (.rows Sets), .sl (.ints Costs)], .agg [.int .i64 Size, .sl (.rows Sets), .sl (.ints Costs)]] (.one (.d (.bool ((Size == Size) && (Sets == Sets) && (Costs == Costs)))))) ∧ (((!((Size == Size) && (Sets == Sets) && (Costs == Costs))) = true → ((false = true))) ∧ ((!((Size == Size) && (Sets == Sets) && (Costs == Costs))) = false → (PC Try.prog 40 [.sl (.ints choice)] (.one (.d (.sl (.ints choice))))) ∧ (PC Try.prog 43 [.sl (.ints choice), .sl (.ints choice)] (.one (.d (.bool (choice == choice))))) ∧ (((!(choice == choice)) = true → ((false = true))) ∧ ((!(choice == choice)) = false → (PG Try.prog 69 [.agg [.any, .rows (Sets.map List.length), .ints Costs.length], .int 1] (1 + ((Sets.map List.length).sum : Int) + (Costs.length : Int))) ∧ (PG Try.prog 48 [.shp (.ints choice.length), .int (1 + ((Sets.map List.length).sum : Int) + (Costs.length : Int))] ((1 + ((Sets.map List.length).sum : Int) + (Costs.length : Int)) + (choice.length : Int))) ∧ ((!(decide (((1 + ((Sets.map List.length).sum : Int) + (Costs.length : Int)) + (choice.length : Int)) < 0))) = true → (!(decide (((1 + ((Sets.map List.length).sum : Int) + (Costs.length : Int)) + (choice.length : Int)) < 0))) = true) ∧ ((!(decide (((1 + ((Sets.map List.length).sum : Int) + (Costs.length : Int)) + (choice.length : Int)) < 0))) = true → (!(decide (((1 + ((Sets.map List.length).sum : Int) + (Costs.length : Int)) + (choice.length : Int)) < 0))) = true) ∧ (((!(decide (((1 + ((Sets.map List.length).sum : Int) + (Costs.length : Int)) + (choice.length : Int)) < 0))) = true → (covBy Size Sets Costs choice).length = (covBy Size Sets Costs choice).length)) ∧ ((!(decide (((1 + ((Sets.map List.length).sum : Int) + (Costs.length : Int)) + (choice.length : Int)) < 0))) = true → PC Try.prog 43 [.sl (.ints (covBy Size Sets Costs choice)), .sl (.ints (covBy Size Sets Costs choice))] (.one (.d (.bool ((covBy Size Sets Costs choice) == (covBy Size Sets Costs choice)))))) ∧ ((!(decide (((1 + ((Sets.map List.length).sum : Int) + (Costs.length : Int)) + (choice.length : Int)) < 0))) = true → (!(decide (((1 + ((Sets.map List.length).sum : Int) + (Costs.length : Int)) + (choice.length : Int)) < 0))) = true) ∧ (true = true) ∧ (((decide (((1 + ((Sets.map List.length).sum : Int) + (Costs.length : Int)) + (choice.length : Int)) < 0)) = true → true = true)) ∧ (((decide (((1 + ((Sets.map List.length).sum : Int) + (Costs.length : Int)) + (choice.length : Int)) < 0)) = false → (!(decide (((1 + ((Sets.map List.length).sum : Int) + (Costs.length : Int)) + (choice.length : Int)) < 0))) = true)) ∧ ((!(cond (decide (((1 + ((Sets.map List.length).sum : Int) + (Costs.length : Int)) + (choice.length : Int)) < 0)) true (!((covBy Size Sets Costs choice) == (covBy Size Sets Costs choice))))) = true → (!(cond (decide (((1 + ((Sets.map List.length).sum : Int) + (Costs.length : Int)) + (choice.length : Int)) < 0)) true (!((covBy Size Sets Costs choice) == (covBy Size Sets Costs choice))))) = true) ∧ ((!(cond (decide (((1 + ((Sets.map List.length).sum : Int) + (Costs.length : Int)) + (choice.length : Int)) < 0)) true (!((covBy Size Sets Costs choice) == (covBy Size Sets Costs choice))))) = true → (!(cond (decide (((1 + ((Sets.map List.length).sum : Int) + (Costs.length : Int)) + (choice.length : Int)) < 0)) true (!((covBy Size Sets Costs choice) == (covBy Size Sets Costs choice))))) = true) ∧ (true = true) ∧ (((cond (decide (((1 + ((Sets.map List.length).sum : Int) + (Costs.length : Int)) + (choice.length : Int)) < 0)) true (!((covBy Size Sets Costs choice) == (covBy Size Sets Costs choice)))) = true → true = true)) ∧ (((cond (decide (((1 + ((Sets.map List.length).sum : Int) + (Costs.length : Int)) + (choice.length : Int)) < 0)) true (!((covBy Size Sets Costs choice) == (covBy Size Sets Costs choice)))) = false → (!(cond (decide (((1 + ((Sets.map List.length).sum : Int) + (Costs.length : Int)) + (choice.length : Int)) < 0)) true (!((covBy Size Sets Costs choice) == (covBy Size Sets Costs choice))))) = true)) ∧ (((cond (cond (decide (((1 + ((Sets.map List.length).sum : Int) + (Costs.length : Int)) + (choice.length : Int)) < 0)) true (!((covBy Size Sets Costs choice) == (covBy Size Sets Costs choice)))) true ((goodSys Size Sets Costs && rising choice 0 ((Sets.length : Int) - 1)) != (goodSys Size Sets Costs && rising choice 0 ((Sets.length : Int) - 1)))) = true → ((false = true))) ∧ ((cond (cond (decide (((1 + ((Sets.map List.length).sum : Int) + (Costs.length : Int)) + (choice.length : Int)) < 0)) true (!((covBy Size Sets Costs choice) == (covBy Size Sets Costs choice)))) true ((goodSys Size Sets Costs && rising choice 0 ((Sets.length : Int) - 1)) != (goodSys Size Sets Costs && rising choice 0 ((Sets.length : Int) - 1)))) = false → ((covBy Size Sets Costs choice).length = (covBy Size Sets Costs choice).length) ∧ ((marks 1 (covBy Size Sets Costs choice).length).length = (covBy Size Sets Costs choice).length) ∧ (PW Try.prog 48 3 (covBy Size Sets Costs choice) (marks 1 (covBy Size Sets Costs choice).length) 1 (1 + ((covBy Size Sets Costs choice).length : Int))) ∧ ((covBy Size Sets Costs choice).length = (marks 1 (covBy Size Sets Costs choice).length).length) ∧ (PC Try.prog 49 [.sl (.ints (marks 1 (covBy Size Sets Costs choice).length)), .int .i64 1] (.one (.d (.int .i64 (1 + ((marks 1 (covBy Size Sets Costs choice).length).length : Int)))))) ∧ (((decide ((1 + ((marks 1 (covBy Size Sets Costs choice).length).length : Int)) < 0)) = true → ((false = true))) ∧ ((decide ((1 + ((marks 1 (covBy Size Sets Costs choice).length).length : Int)) < 0)) = false → ((((1 + ((marks 1 (covBy Size Sets Costs choice).length).length : Int)) != (1 + ((covBy Size Sets Costs choice).length : Int))) = true → ((false = true))) ∧ (((1 + ((marks 1 (covBy Size Sets Costs choice).length).length : Int)) != (1 + ((covBy Size Sets Costs choice).length : Int))) = false → (PC Try.prog 27 [.agg [.int .i64 Size, .sl (.rows Sets), .sl (.ints Costs)]] (.one (.d (.agg [.int .i64 Size, .sl (.rows Sets), .sl (.ints Costs)])))) ∧ (PC Try.prog 40 [.sl (.ints choice)] (.one (.d (.sl (.ints choice))))) ∧ (PC Try.prog 74 [.agg [.int .i64 Size, .sl (.rows Sets), .sl (.ints Costs)], .sl (.ints choice)] (.tup [.own 3 (.ints (covBy Size Sets Costs choice)), .d (.bool (goodSys Size Sets Costs && rising choice 0 ((Sets.length : Int) - 1)))])) ∧ ((covBy Size Sets Costs choice).length = (covBy Size Sets Costs choice).length) ∧ (PC Try.prog 43 [.sl (.ints (covBy Size Sets Costs choice)), .sl (.ints (covBy Size Sets Costs choice))] (.one (.d (.bool ((covBy Size Sets Costs choice) == (covBy Size Sets Costs choice)))))) ∧ ((!(!((covBy Size Sets Costs choice) == (covBy Size Sets Costs choice)))) = true → (!(!((covBy Size Sets Costs choice) == (covBy Size Sets Costs choice)))) = true) ∧ ((!(!((covBy Size Sets Costs choice) == (covBy Size Sets Costs choice)))) = true → (!(!((covBy Size Sets Costs choice) == (covBy Size Sets Costs choice)))) = true) ∧ (true = true) ∧ (((!((covBy Size Sets Costs choice) == (covBy Size Sets Costs choice))) = true → true = true)) ∧ (((!((covBy Size Sets Costs choice) == (covBy Size Sets Costs choice))) = false → (!(!((covBy Size Sets Costs choice) == (covBy Size Sets Costs choice)))) = true)) ∧ (((cond (!((covBy Size Sets Costs choice) == (covBy Size Sets Costs choice))) true ((goodSys Size Sets Costs && rising choice 0 ((Sets.length : Int) - 1)) != (goodSys Size Sets Costs && rising choice 0 ((Sets.length : Int) - 1)))) = true → ((false = true))) ∧ ((cond (!((covBy Size Sets Costs choice) == (covBy Size Sets Costs choice))) true ((goodSys Size Sets Costs && rising choice 0 ((Sets.length : Int) - 1)) != (goodSys Size Sets Costs && rising choice 0 ((Sets.length : Int) - 1)))) = false → ((covBy Size Sets Costs choice).length = (marks 1 (covBy Size Sets Costs choice).length).length) ∧ (PC Try.prog 49 [.sl (.ints (marks 1 (covBy Size Sets Costs choice).length)), .int .i64 1] (.one (.d (.int .i64 (1 + ((marks 1 (covBy Size Sets Costs choice).length).length : Int)))))) ∧ (((decide ((1 + ((marks 1 (covBy Size Sets Costs choice).length).length : Int)) < 0)) = true → ((false = true))) ∧ ((decide ((1 + ((marks 1 (covBy Size Sets Costs choice).length).length : Int)) < 0)) = false → ((((1 + ((marks 1 (covBy Size Sets Costs choice).length).length : Int)) != (1 + ((covBy Size Sets Costs choice).length : Int))) = true → ((false = true))) ∧ (((1 + ((marks 1 (covBy Size Sets Costs choice).length).length : Int)) != (1 + ((covBy Size Sets Costs choice).length : Int))) = false → ((true = true))))))))))))))))))))))))
theorem l_FnExactCoveredBy_vc (Size : Int) (Sets : List (List Int)) (Costs : List Int) (choice : List Int)  (w_Sets : (Sets.length : Int) ≤ 9223372036854775807) (v_Sets : ∀ x9 ∈ Sets, (x9.length : Int) ≤ 9223372036854775807) (w_Costs : (Costs.length : Int) ≤ 9223372036854775807) (w_choice : (choice.length : Int) ≤ 9223372036854775807) : l_FnExactCoveredBy_P Size Sets Costs choice := by
  unfold l_FnExactCoveredBy_P
  refine ⟨?_, ?_⟩
  · intro b1
    try simp only [nrmT] at b1
    exact rfl
  · intro b2
    try simp only [nrmT] at b2
    refine ⟨?_, ?_, ?_⟩
    · refine l_szSystem_pc Size Sets Costs 1048576 ?_
      · first | omega | rfl | (intro hg; simp only [nrmT] at hg; omega) | (intro g1 g2; simp [g1, g2]; done) | (intro g1; simp at g1 ⊢; simp [g1]; done) | (simp only [nrmT] at *; omega) | (simp at * <;> omega) | (simp_all <;> omega) | (simp_all; done)
    · intro b3
      try simp only [nrmT] at b3
      exact rfl
    · intro b4
      try simp only [nrmT] at b4
      refine ⟨?_, ?_, s_CoveredBy_pc Size Sets Costs choice, ?_, ?_, i_CoveredBy_pc Size Sets Costs choice, rfl, l_eqIntS_pc (covBy Size Sets Costs choice) (covBy Size Sets Costs choice), id, id, rfl, fun _ => rfl, ?_, ?_, ?_⟩
      · refine l_toSystem_pc Size Sets Costs ?_ ?_ ?_
        · have := szSys_bound b4; omega
        · have h := (szSys_bound b4).2.1
          intro xs hx
          have h := h xs hx
          omega
        · have := szSys_bound b4; omega
      · refine l_toIntS_pc choice ?_
        · first | omega | rfl | (intro hg; simp only [nrmT] at hg; omega) | (intro g1 g2; simp [g1, g2]; done) | (intro g1; simp at g1 ⊢; simp [g1]; done) | (simp only [nrmT] at *; omega) | (simp at * <;> omega) | (simp_all <;> omega) | (simp_all; done)
      · refine l_toSystem_pc Size Sets Costs ?_ ?_ ?_
        · have := szSys_bound b4; omega
        · have h := (szSys_bound b4).2.1
          intro xs hx
          have h := h xs hx
          omega
        · have := szSys_bound b4; omega
      · refine l_toIntS_pc choice ?_
        · first | omega | rfl | (intro hg; simp only [nrmT] at hg; omega) | (intro g1 g2; simp [g1, g2]; done) | (intro g1; simp at g1 ⊢; simp [g1]; done) | (simp only [nrmT] at *; omega) | (simp at * <;> omega) | (simp_all <;> omega) | (simp_all; done)
      · first | omega | rfl | (intro hg; simp only [nrmT] at hg; omega) | (intro g1 g2; simp [g1, g2]; done) | (intro g1; simp at g1 ⊢; simp [g1]; done) | (simp only [nrmT] at *; omega) | (simp at * <;> omega) | (simp_all <;> omega) | (simp_all; done)
      · intro b5
        first | (exfalso; rw [marks_len] at b5; omega) | omega | rfl | (intro hg; simp only [nrmT] at hg; omega) | (intro g1 g2; simp [g1, g2]; done) | (intro g1; simp at g1 ⊢; simp [g1]; done) | (simp only [nrmT] at *; omega) | (simp at * <;> omega) | (simp_all <;> omega) | (simp_all; done)
      · intro b6
        refine ⟨rfl, ?_, l_eqSystem_pc Size Sets Costs Size Sets Costs, ?_, ?_⟩
        · refine l_toSystem_pc Size Sets Costs ?_ ?_ ?_
          · have := szSys_bound b4; omega
          · have h := (szSys_bound b4).2.1
            intro xs hx
            have h := h xs hx
            omega
          · have := szSys_bound b4; omega
        · intro b7
          try simp only [Bool.not_eq_true', Bool.not_eq_false', Bool.not_not] at b7
          first | (exfalso; rw [marks_len] at b7; omega) | omega | rfl | (intro hg; simp only [nrmT] at hg; omega) | (intro g1 g2; simp [g1, g2]; done) | (intro g1; simp at g1 ⊢; simp [g1]; done) | (simp only [nrmT] at *; omega) | (simp at * <;> omega) | (simp_all <;> omega) | (simp_all; done)
        · intro b8
          try simp only [Bool.not_eq_true', Bool.not_eq_false', Bool.not_not] at b8
          refine ⟨?_, l_eqIntS_pc choice choice, ?_, ?_⟩
          · refine l_toIntS_pc choice ?_
            · first | omega | rfl | (intro hg; simp only [nrmT] at hg; omega) | (intro g1 g2; simp [g1, g2]; done) | (intro g1; simp at g1 ⊢; simp [g1]; done) | (simp only [nrmT] at *; omega) | (simp at * <;> omega) | (simp_all <;> omega) | (simp_all; done)
          · intro b9
            try simp only [nrmT] at b9
            first | (exfalso; rw [marks_len] at b9; omega) | omega | rfl | (intro hg; simp only [nrmT] at hg; omega) | (intro g1 g2; simp [g1, g2]; done) | (intro g1; simp at g1 ⊢; simp [g1]; done) | (simp only [nrmT] at *; omega) | (simp at * <;> omega) | (simp_all <;> omega) | (simp_all; done)
          · intro b10
            try simp only [nrmT] at b10
            refine ⟨?_, ?_, id, id, fun _ => rfl, fun _ => l_eqIntS_pc (covBy Size Sets Costs choice) (covBy Size Sets Costs choice), id, rfl, fun _ => rfl, ?_, id, id, rfl, fun _ => rfl, ?_, ?_, ?_⟩
            · refine laws_markSystem_g_pg (Sets.map List.length) Costs.length 1 ?_ ?_ ?_
              · first | omega | rfl | (intro hg; simp only [nrmT] at hg; omega) | (intro g1 g2; simp [g1, g2]; done) | (intro g1; simp at g1 ⊢; simp [g1]; done) | (simp only [nrmT] at *; omega) | (simp at * <;> omega) | (simp_all <;> omega) | (simp_all; done)
              · rw [List.length_map]; have hz := szSys_bound b4; omega
              · have hz := szSys_bound b4
                have hs := sum_lens20 (xss := Sets) (by omega) (fun xs hx => by have := hz.2.1 xs hx; omega)
                omega
            · refine laws_markIntS_g_pg choice.length (1 + ((Sets.map List.length).sum : Int) + (Costs.length : Int)) ?_ ?_
              · have hz := szSys_bound b4
                have hs := sum_lens20 (xss := Sets) (by omega) (fun xs hx => by have := hz.2.1 xs hx; omega)
                omega
              · have hz := szSys_bound b4
                have hs := sum_lens20 (xss := Sets) (by omega) (fun xs hx => by have := hz.2.1 xs hx; omega)
                omega
            · first | omega | rfl | (intro hg; simp only [nrmT] at hg; omega) | (intro g1 g2; simp [g1, g2]; done) | (intro g1; simp at g1 ⊢; simp [g1]; done) | (simp only [nrmT] at *; omega) | (simp at * <;> omega) | (simp_all <;> omega) | (simp_all; done)
            · first | omega | rfl | (intro hg; simp only [nrmT] at hg; omega) | (intro g1 g2; simp [g1, g2]; done) | (intro g1; simp at g1 ⊢; simp [g1]; done) | (simp only [nrmT] at *; omega) | (simp at * <;> omega) | (simp_all <;> omega) | (simp_all; done)
            · intro b11
              first | (exfalso; rw [marks_len] at b11; omega) | omega | rfl | (intro hg; simp only [nrmT] at hg; omega) | (intro g1 g2; simp [g1, g2]; done) | (intro g1; simp at g1 ⊢; simp [g1]; done) | (simp only [nrmT] at *; omega) | (simp at * <;> omega) | (simp_all <;> omega) | (simp_all; done)
            · intro b12
              refine ⟨rfl, marks_len _ _, ?_, ?_, ?_, ?_, ?_⟩
              · refine laws_markIntS_w_pw (covBy Size Sets Costs choice) 1 ?_ ?_
                · first | omega | rfl | (intro hg; simp only [nrmT] at hg; omega) | (intro g1 g2; simp [g1, g2]; done) | (intro g1; simp at g1 ⊢; simp [g1]; done) | (simp only [nrmT] at *; omega) | (simp at * <;> omega) | (simp_all <;> omega) | (simp_all; done)
                · have := @covBy_len Size Sets Costs choice; omega
              · exact (marks_len _ _).symm
              · refine l_heldIntS_pc (marks 1 (covBy Size Sets Costs choice).length) 1 ?_ ?_ ?_
                · first | omega | rfl | (intro hg; simp only [nrmT] at hg; omega) | (intro g1 g2; simp [g1, g2]; done) | (intro g1; simp at g1 ⊢; simp [g1]; done) | (simp only [nrmT] at *; omega) | (simp at * <;> omega) | (simp_all <;> omega) | (simp_all; done)
                · rw [marks_len]
                · rw [marks_len]; have := @covBy_len Size Sets Costs choice; omega
              · intro b13
                try simp only [nrmT] at b13
                first | (exfalso; rw [marks_len] at b13; omega) | omega | rfl | (intro hg; simp only [nrmT] at hg; omega) | (intro g1 g2; simp [g1, g2]; done) | (intro g1; simp at g1 ⊢; simp [g1]; done) | (simp only [nrmT] at *; omega) | (simp at * <;> omega) | (simp_all <;> omega) | (simp_all; done)
              · intro b14
                try simp only [nrmT] at b14
                refine ⟨?_, ?_⟩
                · intro b15
                  try simp only [nrmT] at b15
                  first | (exfalso; rw [marks_len] at b15; omega) | omega | rfl | (intro hg; simp only [nrmT] at hg; omega) | (intro g1 g2; simp [g1, g2]; done) | (intro g1; simp at g1 ⊢; simp [g1]; done) | (simp only [nrmT] at *; omega) | (simp at * <;> omega) | (simp_all <;> omega) | (simp_all; done)
                · intro b16
                  try simp only [nrmT] at b16
                  refine ⟨?_, ?_, i_CoveredBy_pc Size Sets Costs choice, rfl, l_eqIntS_pc (covBy Size Sets Costs choice) (covBy Size Sets Costs choice), id, id, rfl, fun _ => rfl, ?_, ?_, ?_⟩
                  · refine l_toSystem_pc Size Sets Costs ?_ ?_ ?_
                    · have := szSys_bound b4; omega
                    · have h := (szSys_bound b4).2.1
                      intro xs hx
                      have h := h xs hx
                      omega
                    · have := szSys_bound b4; omega
                  · refine l_toIntS_pc choice ?_
                    · first | omega | rfl | (intro hg; simp only [nrmT] at hg; omega) | (intro g1 g2; simp [g1, g2]; done) | (intro g1; simp at g1 ⊢; simp [g1]; done) | (simp only [nrmT] at *; omega) | (simp at * <;> omega) | (simp_all <;> omega) | (simp_all; done)
                  · first | omega | rfl | (intro hg; simp only [nrmT] at hg; omega) | (intro g1 g2; simp [g1, g2]; done) | (intro g1; simp at g1 ⊢; simp [g1]; done) | (simp only [nrmT] at *; omega) | (simp at * <;> omega) | (simp_all <;> omega) | (simp_all; done)
                  · intro b17
                    first | (exfalso; rw [marks_len] at b17; omega) | omega | rfl | (intro hg; simp only [nrmT] at hg; omega) | (intro g1 g2; simp [g1, g2]; done) | (intro g1; simp at g1 ⊢; simp [g1]; done) | (simp only [nrmT] at *; omega) | (simp at * <;> omega) | (simp_all <;> omega) | (simp_all; done)
                  · intro b18
                    refine ⟨?_, ?_, ?_, ?_⟩
                    · exact (marks_len _ _).symm
                    · refine l_heldIntS_pc (marks 1 (covBy Size Sets Costs choice).length) 1 ?_ ?_ ?_
                      · first | omega | rfl | (intro hg; simp only [nrmT] at hg; omega) | (intro g1 g2; simp [g1, g2]; done) | (intro g1; simp at g1 ⊢; simp [g1]; done) | (simp only [nrmT] at *; omega) | (simp at * <;> omega) | (simp_all <;> omega) | (simp_all; done)
                      · rw [marks_len]
                      · rw [marks_len]; have := @covBy_len Size Sets Costs choice; omega
                    · intro b19
                      try simp only [nrmT] at b19
                      first | (exfalso; rw [marks_len] at b19; omega) | omega | rfl | (intro hg; simp only [nrmT] at hg; omega) | (intro g1 g2; simp [g1, g2]; done) | (intro g1; simp at g1 ⊢; simp [g1]; done) | (simp only [nrmT] at *; omega) | (simp at * <;> omega) | (simp_all <;> omega) | (simp_all; done)
                    · intro b20
                      try simp only [nrmT] at b20
                      refine ⟨?_, ?_⟩
                      · intro b21
                        try simp only [nrmT] at b21
                        first | (exfalso; rw [marks_len] at b21; omega) | omega | rfl | (intro hg; simp only [nrmT] at hg; omega) | (intro g1 g2; simp [g1, g2]; done) | (intro g1; simp at g1 ⊢; simp [g1]; done) | (simp only [nrmT] at *; omega) | (simp at * <;> omega) | (simp_all <;> omega) | (simp_all; done)
                      · intro b22
                        try simp only [nrmT] at b22
                        exact rfl
theorem l_FnExactCoveredBy_pc (Size : Int) (Sets : List (List Int)) (Costs : List Int) (choice : List Int)  : PC Try.prog 19 [.agg [.int .i64 Size, .sl (.rows Sets), .sl (.ints Costs)], .sl (.ints choice)] (.one (.d (.bool true))) :=
  pc_wf @Try.call19 fun hw => pc_by (by kernel_rfl) Try.func19 @Try.call19 (by kernel_rfl) l_FnExactCoveredBy_C (l_FnExactCoveredBy_A Size Sets Costs choice) (by kernel_rfl) (l_FnExactCoveredBy_vc Size Sets Costs choice hw.1.2.1.1 hw.1.2.1.2 hw.1.2.2.1 hw.2.1) (by kernel_rfl)
def l_FnExactCoveredBy_orc : List D → Orc := orcN [none, some .ints] fun ds => match ds with
  | [.agg [.int .i64 Size, .sl (.rows Sets), .sl (.ints Costs)], .sl (.ints choice)] => some (.one (.d (.bool true)))
  | _ => none

end Go.Proofs.Ytmcbcomcejgbcaa
