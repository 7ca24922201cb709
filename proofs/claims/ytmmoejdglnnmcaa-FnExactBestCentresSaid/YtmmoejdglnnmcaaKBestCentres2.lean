/- Contracts of the functions that the law reaches. -/
import Derived.Test.YtmmoejdglnnmcaaKBestCentres1
import Derived.KernelRfl
set_option linter.unusedVariables false
set_option linter.unusedSimpArgs false
namespace Go.Proofs.Ytmmoejdglnnmcaa
open Go

theorem i_Field_reach_vc (Open : List Int) (Dist : List (List Int)) (set : List Int) (ht : (goodField Open Dist && rising set 0 ((Open.length : Int) - 1) && decide (0 < set.length)) = true) (w_Open : (Open.length : Int) ≤ 9223372036854775807) (w_Dist : (Dist.length : Int) ≤ 9223372036854775807) (v_Dist : ∀ x9 ∈ Dist, (x9.length : Int) ≤ 9223372036854775807) (w_set : (set.length : Int) ≤ 9223372036854775807) : i_Field_reach_P Open Dist set := by
  unfold i_Field_reach_P
  obtain ⟨hg, hs, hp⟩ := two_facts ht
  obtain ⟨g1, g2, g3⟩ := gf_open hg
  refine ⟨?_, rfl, rfl, ?_, ?_, ?_, ?_⟩
  · refine i_Field_lengths_pc Open Dist set ?_
    · exact ht
  · rw [lensL_len]; omega
  · first | omega | rfl | (intro hg; simp only [nrmT] at hg; omega) | (intro g1 g2; simp [g1, g2]; done) | (intro g1; simp at g1 ⊢; simp [g1]; done) | (simp only [nrmT] at *; omega) | (simp at * <;> omega) | (simp_all <;> omega) | (simp_all; done)
  · refine slices_Max_int_int__pc (lensL Dist set Dist.length ++ [0]) ?_
    · simp
  · exact max_far Dist set
theorem i_Field_reach_pc (Open : List Int) (Dist : List (List Int)) (set : List Int) (ht : (goodField Open Dist && rising set 0 ((Open.length : Int) - 1) && decide (0 < set.length)) = true) : PC Try.prog 103 [.agg [.sl (.ints Open), .sl (.rows Dist)], .sl (.ints set)] (.one (.d (.int .i64 (rchOf Dist set)))) :=
  pc_wf @Try.call103 fun hw => pc_by (by kernel_rfl) Try.func103 @Try.call103 (by kernel_rfl) i_Field_reach_C (i_Field_reach_A Open Dist set) (by kernel_rfl) (i_Field_reach_vc Open Dist set ht hw.1.1 hw.1.2.1.1 hw.1.2.1.2 hw.2.1) (by kernel_rfl)
def i_Field_reach_orc : List D → Orc := orcN [none, some .ints] fun ds => match ds with
  | [.agg [.sl (.ints Open), .sl (.rows Dist)], .sl (.ints set)] => some (.one (.d (.int .i64 (rchOf Dist set))))
  | _ => none
def lsB (v : List Int → Int) (b s : List Int) : List Int := if v s < v b then s else b
def leastL (v : List Int → Int) (l : List (List Int)) : List Int := l.foldl (lsB v) (l.getD 0 [])
theorem lsB_self (v : List Int → Int) (b : List Int) : lsB v b b = b := by unfold lsB; split <;> rfl
theorem fold_snoc {α β : Type} {f : β → α → β} {b : β} {l : List α} {i : Int} {d : α} (h0 : 0 ≤ i) (h : i < (l.length : Int)) : (l.take (i + 1).toNat).foldl f b = f ((l.take i.toNat).foldl f b) (l.getD i.toNat d) := by
  rw [take_step (d := d) h0 h, List.foldl_append]
  rfl
theorem leastL_mem {v : List Int → Int} {l : List (List Int)} (h : 0 < l.length) : leastL v l ∈ l := by
  have key : ∀ (r : List (List Int)) (b : List Int), b ∈ l → (∀ x ∈ r, x ∈ l) → r.foldl (lsB v) b ∈ l := by
    intro r
    induction r with
    | nil => intro b hb _; exact hb
    | cons x r ih =>
      intro b hb hr
      refine ih _ ?_ fun y hy => hr y (List.mem_cons_of_mem _ hy)
      unfold lsB
      split
      · exact hr x List.mem_cons_self
      · exact hb
  exact key l _ (getD_mem h) fun x hx => hx
theorem leastL_one {v : List Int → Int} {l : List (List Int)} (h : 0 < l.length) : (l.take (1 : Int).toNat).foldl (lsB v) (l.getD 0 []) = l.getD 0 [] := by
  cases l with
  | nil => simp at h
  | cons x r => exact lsB_self v x
theorem slice_form {g : Addr → Option Value} {O : Nat → Prop} {v : Value} {x : List Int} (h : R g O v (.sl (.ints x))) : ∃ (ad : Option Addr) (cap : Nat), v = .slice ad x.length cap := by
  cases h with
  | slnil _ h0 => exact ⟨none, 0, by rw [show x.length = 0 from h0]⟩
  | sl _ a n cap hn _ _ _ _ => exact ⟨some a, cap, by rw [hn]; rfl⟩
theorem box_form {g : Addr → Option Value} {O : Nat → Prop} {v : Value} {k : Int} (h : R g O v (.bx [.int .i64 k] 0)) : ∃ b : Addr, v = .pointer (some b) ∧ g b = some (.int .i64 k) := by
  cases h with
  | bx _ a _ f hc hr =>
    refine ⟨a.add 0, rfl, ?_⟩
    have h1 := (hc 0 (by simp)).1
    have h2 := hr 0 (.int .i64 k) rfl
    rw [h1]
    cases hf : f 0 <;> rw [hf] at h2 <;> cases h2
    rfl
theorem lst_full {n k : Nat} (h : k ≤ n) : (lst n (2 ^ k - 1)).length = k := by
  unfold lst
  rw [members_stop (m := k) (fun i hi => Nat.testBit_lt_two_pow (Nat.lt_of_lt_of_le (Nat.sub_lt (Nat.two_pow_pos k) (by omega)) (Nat.pow_le_pow_right (by omega) hi))) n h, allN_bits, allN_len]
theorem sets_size {n : Nat} {k : Int} (h1 : 1 ≤ k) (h2 : k ≤ n) : ∃ s ∈ setsL n, (s.length : Int) = k := by
  refine ⟨lst n (2 ^ k.toNat - 1), setsL_mem.2 ⟨_, ?_, ?_, rfl⟩, by rw [lst_full (by omega)]; omega⟩
  · have := Nat.pow_le_pow_right (n := 2) (by omega) (show 1 ≤ k.toNat by omega)
    omega
  · have h3 := Nat.pow_le_pow_right (n := 2) (by omega) (show k.toNat ≤ n by omega)
    have h4 := Nat.two_pow_pos k.toNat
    omega
theorem filter_pos {p : List Int → Bool} {l : List (List Int)} (h : ∃ s ∈ l, p s = true) : 0 < (l.filter p).length := by
  obtain ⟨s, h1, h2⟩ := h
  exact List.length_pos_of_mem (List.mem_filter.2 ⟨h1, h2⟩)
abbrev i_least_rch_JJ0 (xss : List (List Int)) (Open : List Int) (Dist : List (List Int)) (best : List Int) (i : Int) : Prop := (0 ≤ i) ∧ (i ≤ (xss.length : Int)) ∧ (best ∈ xss) ∧ (best = (xss.take i.toNat).foldl (lsB (rchOf Dist)) (xss.getD 0 []))
abbrev i_least_rch_mJ0 (xss : List (List Int)) (Open : List Int) (Dist : List (List Int)) (best : List Int) (i : Int) : Nat := (xss.length - i).toNat
def i_least_rch_C (f : FuncId) (ds : List D) : Orc := bif Nat.beq f 103 then i_Field_reach_orc ds else .no
def i_least_rch_A (xss : List (List Int)) (Open : List Int) (Dist : List (List Int)) : Ann := .two (.none) (.two (.none) (.two (.two (.none) (.loop (cut2 (fun (best : List Int) (i : Int) => i_least_rch_JJ0 xss Open Dist best i) (fun (best : List Int) (i : Int) => [(1, .d false (.fn 103 1 [.agg [.sl (.ints Open), .sl (.rows Dist)]])), (5, .d true (.sl (.ints best))), (11, .d true (.sl (.rows xss))), (12, .d true (.int .i64 (xss.length : Int))), (13, .d true (.int .i64 i))]) (fun (best : List Int) (i : Int) => [])) (fun g => i_least_rch_mJ0 xss Open Dist g.1 g.2) (fun _ => .none))) (.none)))
def i_least_rch_P (xss : List (List Int)) (Open : List Int) (Dist : List (List Int)) : Prop :=
  ((0 : Int) ≤ 0) ∧ ((0 : Int) < xss.length) ∧ (0 < xss.length) ∧ ((∃ best' : List Int, ∃ i' : Int, (i_least_rch_JJ0 xss Open Dist best' i') ∧ ((.fn 103 1 [.agg [.sl (.ints Open), .sl (.rows Dist)]] : D) = (.fn 103 1 [.agg [.sl (.ints Open), .sl (.rows Dist)]] : D)) ∧ ((xss.getD 0 []) = best') ∧ (xss = xss) ∧ ((xss.length : Int) = (xss.length : Int)) ∧ ((0 : Int) = i')) ∧ (∀ best : List Int, ∀ i : Int, (i_least_rch_JJ0 xss Open Dist best i) → (((decide (i < (xss.length : Int))) = true → ((0 : Int) ≤ i) ∧ ((i : Int) < xss.length) ∧ (i.toNat < xss.length) ∧ (PC Try.prog 103 [.agg [.sl (.ints Open), .sl (.rows Dist)], .sl (.ints (xss.getD i.toNat []))] (.one (.d (.int .i64 (rchOf Dist (xss.getD i.toNat [])))))) ∧ (PC Try.prog 103 [.agg [.sl (.ints Open), .sl (.rows Dist)], .sl (.ints best)] (.one (.d (.int .i64 (rchOf Dist best))))) ∧ (((decide ((rchOf Dist (xss.getD i.toNat [])) < (rchOf Dist best))) = true → (-9223372036854775808 ≤ (i + 1) ∧ (i + 1) ≤ 9223372036854775807) ∧ (∃ best' : List Int, ∃ i' : Int, (i_least_rch_JJ0 xss Open Dist best' i') ∧ (i_least_rch_mJ0 xss Open Dist best' i' < i_least_rch_mJ0 xss Open Dist best i) ∧ ((.fn 103 1 [.agg [.sl (.ints Open), .sl (.rows Dist)]] : D) = (.fn 103 1 [.agg [.sl (.ints Open), .sl (.rows Dist)]] : D)) ∧ ((xss.getD i.toNat []) = best') ∧ (xss = xss) ∧ ((xss.length : Int) = (xss.length : Int)) ∧ ((i + 1) = i'))) ∧ ((decide ((rchOf Dist (xss.getD i.toNat [])) < (rchOf Dist best))) = false → (-9223372036854775808 ≤ (i + 1) ∧ (i + 1) ≤ 9223372036854775807) ∧ (∃ best' : List Int, ∃ i' : Int, (i_least_rch_JJ0 xss Open Dist best' i') ∧ (i_least_rch_mJ0 xss Open Dist best' i' < i_least_rch_mJ0 xss Open Dist best i) ∧ ((.fn 103 1 [.agg [.sl (.ints Open), .sl (.rows Dist)]] : D) = (.fn 103 1 [.agg [.sl (.ints Open), .sl (.rows Dist)]] : D)) ∧ (best = best') ∧ (xss = xss) ∧ ((xss.length : Int) = (xss.length : Int)) ∧ ((i + 1) = i'))))) ∧ ((decide (i < (xss.length : Int))) = false → (((best : List Int) = (leastL (rchOf Dist) xss)))))))
theorem i_least_rch_vc (xss : List (List Int)) (Open : List Int) (Dist : List (List Int)) (hp : 0 < xss.length) (hx : ∀ s ∈ xss, goodField Open Dist && rising s 0 ((Open.length : Int) - 1) && decide (0 < s.length)) (w_xss : (xss.length : Int) ≤ 9223372036854775807) (v_xss : ∀ x9 ∈ xss, (x9.length : Int) ≤ 9223372036854775807) (w_Open : (Open.length : Int) ≤ 9223372036854775807) (w_Dist : (Dist.length : Int) ≤ 9223372036854775807) (v_Dist : ∀ x9 ∈ Dist, (x9.length : Int) ≤ 9223372036854775807) : i_least_rch_P xss Open Dist := by
  unfold i_least_rch_P
  refine ⟨?_, ?_, ?_, ?_, ?_⟩
  · first | omega | rfl | (intro hg; simp only [nrmT] at hg; omega) | (intro g1 g2; simp [g1, g2]; done) | (intro g1; simp at g1 ⊢; simp [g1]; done) | (simp only [nrmT] at *; omega) | (simp at * <;> omega) | (simp_all <;> omega) | (simp_all; done)
  · first | omega | rfl | (intro hg; simp only [nrmT] at hg; omega) | (intro g1 g2; simp [g1, g2]; done) | (intro g1; simp at g1 ⊢; simp [g1]; done) | (simp only [nrmT] at *; omega) | (simp at * <;> omega) | (simp_all <;> omega) | (simp_all; done)
  · first | omega | rfl | (intro hg; simp only [nrmT] at hg; omega) | (intro g1 g2; simp [g1, g2]; done) | (intro g1; simp at g1 ⊢; simp [g1]; done) | (simp only [nrmT] at *; omega) | (simp at * <;> omega) | (simp_all <;> omega) | (simp_all; done)
  · refine ⟨(xss.getD 0 []), 0, ?_⟩
    refine ⟨?_, rfl, rfl, rfl, rfl, rfl⟩
    · refine ⟨?_, ?_, ?_, ?_⟩
      · first | omega | rfl | (intro hg; simp only [nrmT] at hg; omega) | (intro g1 g2; simp [g1, g2]; done) | (intro g1; simp at g1 ⊢; simp [g1]; done) | (simp only [nrmT] at *; omega) | (simp at * <;> omega) | (simp_all <;> omega) | (simp_all; done)
      · first | omega | rfl | (intro hg; simp only [nrmT] at hg; omega) | (intro g1 g2; simp [g1, g2]; done) | (intro g1; simp at g1 ⊢; simp [g1]; done) | (simp only [nrmT] at *; omega) | (simp at * <;> omega) | (simp_all <;> omega) | (simp_all; done)
      · exact getD_mem hp
      · rfl
  · intro best i hJ
    obtain ⟨h1, h2, h3, h4⟩ := hJ
    refine ⟨?_, ?_⟩
    · intro b1
      try simp only [nrmT] at b1
      refine ⟨?_, ?_, ?_, ?_, ?_, ?_, ?_⟩
      · first | omega | rfl | (intro hg; simp only [nrmT] at hg; omega) | (intro g1 g2; simp [g1, g2]; done) | (intro g1; simp at g1 ⊢; simp [g1]; done) | (simp only [nrmT] at *; omega) | (simp at * <;> omega) | (simp_all <;> omega) | (simp_all; done)
      · first | omega | rfl | (intro hg; simp only [nrmT] at hg; omega) | (intro g1 g2; simp [g1, g2]; done) | (intro g1; simp at g1 ⊢; simp [g1]; done) | (simp only [nrmT] at *; omega) | (simp at * <;> omega) | (simp_all <;> omega) | (simp_all; done)
      · first | omega | rfl | (intro hg; simp only [nrmT] at hg; omega) | (intro g1 g2; simp [g1, g2]; done) | (intro g1; simp at g1 ⊢; simp [g1]; done) | (simp only [nrmT] at *; omega) | (simp at * <;> omega) | (simp_all <;> omega) | (simp_all; done)
      · refine i_Field_reach_pc Open Dist (xss.getD i.toNat []) ?_
        · exact hx _ (getD_memI h1 (by omega))
      · refine i_Field_reach_pc Open Dist best ?_
        · exact hx _ h3
      · intro b2
        try simp only [nrmT] at b2
        refine ⟨?_, ?_⟩
        · first | omega | rfl | (intro hg; simp only [nrmT] at hg; omega) | (intro g1 g2; simp [g1, g2]; done) | (intro g1; simp at g1 ⊢; simp [g1]; done) | (simp only [nrmT] at *; omega) | (simp at * <;> omega) | (simp_all <;> omega) | (simp_all; done)
        · refine ⟨(xss.getD i.toNat []), (i + 1), ?_⟩
          refine ⟨?_, ?_, rfl, rfl, rfl, rfl, rfl⟩
          · refine ⟨?_, ?_, ?_, ?_⟩
            · first | omega | rfl | (intro hg; simp only [nrmT] at hg; omega) | (intro g1 g2; simp [g1, g2]; done) | (intro g1; simp at g1 ⊢; simp [g1]; done) | (simp only [nrmT] at *; omega) | (simp at * <;> omega) | (simp_all <;> omega) | (simp_all; done)
            · first | omega | rfl | (intro hg; simp only [nrmT] at hg; omega) | (intro g1 g2; simp [g1, g2]; done) | (intro g1; simp at g1 ⊢; simp [g1]; done) | (simp only [nrmT] at *; omega) | (simp at * <;> omega) | (simp_all <;> omega) | (simp_all; done)
            · exact getD_memI h1 (by omega)
            · rw [fold_snoc (d := []) h1 (by omega), ← h4]; unfold lsB; rw [if_pos b2]
          · first | (show _ < _; omega) | (simp only [i_least_rch_mJ0]; omega) | (simp only [i_least_rch_mJ0] at *; simp at *; omega)
      · intro b3
        try simp only [nrmT] at b3
        refine ⟨?_, ?_⟩
        · first | omega | rfl | (intro hg; simp only [nrmT] at hg; omega) | (intro g1 g2; simp [g1, g2]; done) | (intro g1; simp at g1 ⊢; simp [g1]; done) | (simp only [nrmT] at *; omega) | (simp at * <;> omega) | (simp_all <;> omega) | (simp_all; done)
        · refine ⟨best, (i + 1), ?_⟩
          refine ⟨?_, ?_, rfl, rfl, rfl, rfl, rfl⟩
          · refine ⟨?_, ?_, ?_, ?_⟩
            · first | omega | rfl | (intro hg; simp only [nrmT] at hg; omega) | (intro g1 g2; simp [g1, g2]; done) | (intro g1; simp at g1 ⊢; simp [g1]; done) | (simp only [nrmT] at *; omega) | (simp at * <;> omega) | (simp_all <;> omega) | (simp_all; done)
            · first | omega | rfl | (intro hg; simp only [nrmT] at hg; omega) | (intro g1 g2; simp [g1, g2]; done) | (intro g1; simp at g1 ⊢; simp [g1]; done) | (simp only [nrmT] at *; omega) | (simp at * <;> omega) | (simp_all <;> omega) | (simp_all; done)
            · exact h3
            · rw [fold_snoc (d := []) h1 (by omega), ← h4]; unfold lsB; rw [if_neg (by omega)]
          · first | (show _ < _; omega) | (simp only [i_least_rch_mJ0]; omega) | (simp only [i_least_rch_mJ0] at *; simp at *; omega)
    · intro b4
      try simp only [nrmT] at b4
      rw [h4, take_all (by omega)]; rfl
theorem i_least_rch_pc (xss : List (List Int)) (Open : List Int) (Dist : List (List Int)) (hp : 0 < xss.length) (hx : ∀ s ∈ xss, goodField Open Dist && rising s 0 ((Open.length : Int) - 1) && decide (0 < s.length)) : PCs Try.prog 111 [.sl (.rows xss), .fn 103 1 [.agg [.sl (.ints Open), .sl (.rows Dist)]]] 0 (.sl (.ints (leastL (rchOf Dist) xss))) :=
  pcs_wf @Try.call111 fun hw => pcs_by (by kernel_rfl) Try.func111 @Try.call111 (by kernel_rfl) i_least_rch_C (i_least_rch_A xss Open Dist) (by kernel_rfl) (i_least_rch_vc xss Open Dist hp hx hw.1.1 hw.1.2 hw.2.1.1.1 hw.2.1.1.2.1.1 hw.2.1.1.2.1.2) (by kernel_rfl)
def i_least_rch_orc : List D → Orc := orcS 0 fun ds => match ds with
  | [.sl (.rows xss), .fn f0 1 [.agg [.sl (.ints Open), .sl (.rows Dist)]]] => some (.sl (.ints (leastL (rchOf Dist) xss)))
  | _ => none
def upS (Open : List Int) (k : Int) : List (List Int) := (setsL (Open.length : Int).toNat).filter fun x9 => !(decide ((x9.length : Int) > k))
theorem upS_mem {Open : List Int} {k : Int} {s : List Int} (h : s ∈ upS Open k) : s ∈ setsL (Open.length : Int).toNat := (List.mem_filter.1 h).1
theorem upS_pos {Open : List Int} {k : Int} (hk : 1 ≤ k ∧ k ≤ (Open.length : Int)) : 0 < (upS Open k).length := by
  obtain ⟨s, h1, h2⟩ := sets_size (n := (Open.length : Int).toNat) hk.1 (by omega)
  exact filter_pos ⟨s, h1, by simp [h2]⟩
theorem upS_len {Open : List Int} {Dist : List (List Int)} (hg : goodField Open Dist = true) {k : Int} : (upS Open k).length ≤ 127 := by
  have := gf_open hg
  exact Nat.le_trans (List.length_filter_le _ _) (sets_small (by omega))
theorem filter_step {l : List (List Int)} {p : List Int → Bool} {i : Int} (h0 : 0 ≤ i) (h : i < (l.length : Int)) : (l.take (i + 1).toNat).filter p = if p (l.getD i.toNat []) = true then (l.take i.toNat).filter p ++ [l.getD i.toNat []] else (l.take i.toNat).filter p := by
  rw [take_step (d := []) h0 h, List.filter_append]
  by_cases e : p (l.getD i.toNat []) = true
  · rw [if_pos e, List.filter_cons, if_pos e]; rfl
  · rw [if_neg e, List.filter_cons, if_neg e]; simp
def cenS (Open : List Int) (Dist : List (List Int)) (k : Int) : List Int := leastL (rchOf Dist) (upS Open k)
theorem cenS_in {Open : List Int} {Dist : List (List Int)} {k : Int} (hk : 1 ≤ k ∧ k ≤ (Open.length : Int)) : cenS Open Dist k ∈ setsL (Open.length : Int).toNat := upS_mem (leastL_mem (upS_pos hk))
def cenL (Open : List Int) (Dist : List (List Int)) (k : Int) : List Int := if (goodField Open Dist && inB k 1 (Open.length : Int)) = true then cenS Open Dist k else []
theorem cenL_len {Open : List Int} {Dist : List (List Int)} {k : Int} : (cenL Open Dist k).length ≤ 7 := by
  unfold cenL
  split
  · rename_i h
    obtain ⟨h1, h2⟩ := (Bool.and_eq_true _ _ ▸ h : _ ∧ _)
    exact (set_two h1 (cenS_in (inB_le h2))).2
  · simp
theorem i_upTo_1_pb (x : List Int) (k : Int) : PB Try.prog 172 [.sl (.ints x), .bx [.int .i64 k] 0] (decide ((x.length : Int) > k)) := by
  refine ⟨@Try.call172, fun w vs hall => ?_⟩
  obtain ⟨v1, v2, rfl⟩ : ∃ v1 v2, vs = [v1, v2] := by
    match vs, hall.1 with
    | [a, b], _ => exact ⟨a, b, rfl⟩
  obtain ⟨ad, cap, rfl⟩ := slice_form (hall.2 0 v1 _ rfl rfl)
  obtain ⟨b, rfl, hc⟩ := box_form (hall.2 1 v2 _ rfl rfl)
  show Calls Try.prog 172 #[.slice ad x.length cap, .pointer (some b)] w _
  clear hall
  go_enter Try.func172, Try.ntmps172
  go_wp2
  all_goals (go_ret; exact ⟨by first | (simp_all; done) | (simp_all; rfl), 0, rfl⟩)
theorem slices_DeleteFunc_int_int_up_pu (xss : List (List Int)) (k : Int) (hp : 0 < xss.length) : PU Try.prog 154 22 (.rows xss) (.rows (xss.filter (fun x9 => !(decide ((x9.length : Int) > k))))) [.fn 172 0 [.bx [.int .i64 k] 0]] true :=
  pu_deleteFunc Try.layDelete Try.zeroValue22 22 xss (fun x9 => decide ((x9.length : Int) > k)) 172 [.bx [.int .i64 k] 0] (fun x => i_upTo_1_pb x k) hp
def i_Field_upTo_C (f : FuncId) (ds : List D) : Orc := bif Nat.beq f 102 then i_sets_orc ds else .no
def i_Field_upTo_A (Open : List Int) (Dist : List (List Int)) (k : Int) : Ann := .two (.none) (.two (.mark [] 5 (.up (.rows ((setsL (Open.length : Int).toNat).filter (fun x9 => !(decide ((x9.length : Int) > k))))) true)) (.none))
def i_Field_upTo_P (Open : List Int) (Dist : List (List Int)) (k : Int) : Prop :=
  (PC Try.prog 102 [.int .i64 (Open.length : Int)] (.one (.own 22 (.rows (setsL (Open.length : Int).toNat))))) ∧ ((setsL (Open.length : Int).toNat).length = (setsL (Open.length : Int).toNat).length) ∧ (PU Try.prog 154 22 (.rows (setsL (Open.length : Int).toNat)) (.rows ((setsL (Open.length : Int).toNat).filter (fun x9 => !(decide ((x9.length : Int) > k))))) [.fn 172 0 [.bx [.int .i64 k] 0]] true) ∧ ((((setsL (Open.length : Int).toNat).filter (fun x9 => !(decide ((x9.length : Int) > k)))).length = ((setsL (Open.length : Int).toNat).filter (fun x9 => !(decide ((x9.length : Int) > k)))).length) ∧ ((((setsL (Open.length : Int).toNat).filter (fun x9 => !(decide ((x9.length : Int) > k)))) : List (List Int)) = (upS Open k)))
theorem i_Field_upTo_vc (Open : List Int) (Dist : List (List Int)) (k : Int) (hg : goodField Open Dist = true) (hk : 1 ≤ k ∧ k ≤ (Open.length : Int)) (w_Open : (Open.length : Int) ≤ 9223372036854775807) (w_Dist : (Dist.length : Int) ≤ 9223372036854775807) (v_Dist : ∀ x9 ∈ Dist, (x9.length : Int) ≤ 9223372036854775807) : i_Field_upTo_P Open Dist k := by
  unfold i_Field_upTo_P
  obtain ⟨g1, g2, g3⟩ := gf_open hg
  refine ⟨?_, rfl, ?_, rfl, ?_⟩
  · refine i_sets_pc (Open.length : Int) ?_
    · omega
  · refine slices_DeleteFunc_int_int_up_pu (setsL (Open.length : Int).toNat) k ?_
    · exact sets_big (by omega)
  · rfl
theorem i_Field_upTo_pc (Open : List Int) (Dist : List (List Int)) (k : Int) (hg : goodField Open Dist = true) (hk : 1 ≤ k ∧ k ≤ (Open.length : Int)) : PC Try.prog 122 [.agg [.sl (.ints Open), .sl (.rows Dist)], .int .i64 k] (.one (.d (.sl (.rows (upS Open k))))) :=
  pc_wf @Try.call122 fun hw => pc_by (by kernel_rfl) Try.func122 @Try.call122 (by kernel_rfl) i_Field_upTo_C (i_Field_upTo_A Open Dist k) (by kernel_rfl) (i_Field_upTo_vc Open Dist k hg hk hw.1.1 hw.1.2.1.1 hw.1.2.1.2) (by kernel_rfl)
def i_Field_upTo_orc : List D → Orc := orcN [none, none] fun ds => match ds with
  | [.agg [.sl (.ints Open), .sl (.rows Dist)], .int .i64 k] => some (.one (.d (.sl (.rows (upS Open k)))))
  | _ => none
abbrev s_l5Sets_JJ0 (Open : List Int) (Dist : List (List Int)) (k : Int) (out : List (List Int)) (i : Int) : Prop := (0 ≤ i) ∧ (i ≤ ((setsL (Open.length : Int).toNat).length : Int)) ∧ (out = ((setsL (Open.length : Int).toNat).take i.toNat).filter (fun x9 => !(decide ((x9.length : Int) > k))))
abbrev s_l5Sets_mJ0 (Open : List Int) (Dist : List (List Int)) (k : Int) (out : List (List Int)) (i : Int) : Nat := ((setsL (Open.length : Int).toNat).length - i).toNat
def s_l5Sets_C (f : FuncId) (ds : List D) : Orc := bif Nat.beq f 98 then s_l2Sets_orc ds else .no
def s_l5Sets_A (Open : List Int) (Dist : List (List Int)) (k : Int) : Ann := .two (.none) (.two (.none) (.two (.none) (.two (.two (.none) (.loop (cut2 (fun (out : List (List Int)) (i : Int) => s_l5Sets_JJ0 Open Dist k out i) (fun (out : List (List Int)) (i : Int) => [(1, .d false (.int .i64 k)), (5, .own 1000000 out.length), (6, .d true (.sl (.rows (setsL (Open.length : Int).toNat)))), (7, .d true (.int .i64 i))]) (fun (out : List (List Int)) (i : Int) => [(1000000, .arr true 22 (.rows out))])) (fun g => s_l5Sets_mJ0 Open Dist k g.1 g.2) (fun _ => .none))) (.none))))
def s_l5Sets_P (Open : List Int) (Dist : List (List Int)) (k : Int) : Prop :=
  (PC Try.prog 98 [.int .i64 (Open.length : Int)] (.one (.d (.sl (.rows (setsL (Open.length : Int).toNat)))))) ∧ ((∃ out' : List (List Int), ∃ i' : Int, (s_l5Sets_JJ0 Open Dist k out' i') ∧ (k = k) ∧ ((0 : Nat) = out'.length) ∧ ((setsL (Open.length : Int).toNat) = (setsL (Open.length : Int).toNat)) ∧ ((0 : Int) = i') ∧ ([] = out')) ∧ (∀ out : List (List Int), ∀ i : Int, (s_l5Sets_JJ0 Open Dist k out i) → (((decide (i < (((setsL (Open.length : Int).toNat).length) : Int))) = true → ((0 : Int) ≤ i) ∧ ((i : Int) < (setsL (Open.length : Int).toNat).length) ∧ (i.toNat < (setsL (Open.length : Int).toNat).length) ∧ (((decide ((((setsL (Open.length : Int).toNat).getD i.toNat []).length : Int) ≤ k)) = true → ((0 : Int) ≤ i) ∧ ((i : Int) < (setsL (Open.length : Int).toNat).length) ∧ (i.toNat < (setsL (Open.length : Int).toNat).length) ∧ (out.length = out.length) ∧ ((1 : Nat) = 1) ∧ ((out.length + 1) * 24 ≤ 140737488355328) ∧ (-9223372036854775808 ≤ (i + 1) ∧ (i + 1) ≤ 9223372036854775807) ∧ (∃ out' : List (List Int), ∃ i' : Int, (s_l5Sets_JJ0 Open Dist k out' i') ∧ (s_l5Sets_mJ0 Open Dist k out' i' < s_l5Sets_mJ0 Open Dist k out i) ∧ (k = k) ∧ ((out.length + 1) = out'.length) ∧ ((setsL (Open.length : Int).toNat) = (setsL (Open.length : Int).toNat)) ∧ ((i + 1) = i') ∧ ((out ++ [((setsL (Open.length : Int).toNat).getD i.toNat [])]) = out'))) ∧ ((decide ((((setsL (Open.length : Int).toNat).getD i.toNat []).length : Int) ≤ k)) = false → (-9223372036854775808 ≤ (i + 1) ∧ (i + 1) ≤ 9223372036854775807) ∧ (∃ out' : List (List Int), ∃ i' : Int, (s_l5Sets_JJ0 Open Dist k out' i') ∧ (s_l5Sets_mJ0 Open Dist k out' i' < s_l5Sets_mJ0 Open Dist k out i) ∧ (k = k) ∧ (out.length = out'.length) ∧ ((setsL (Open.length : Int).toNat) = (setsL (Open.length : Int).toNat)) ∧ ((i + 1) = i') ∧ (out = out'))))) ∧ ((decide (i < (((setsL (Open.length : Int).toNat).length) : Int))) = false → ((out.length = out.length) ∧ ((out : List (List Int)) = (upS Open k)))))))
theorem s_l5Sets_vc (Open : List Int) (Dist : List (List Int)) (k : Int) (hg : goodField Open Dist = true) (hk : 1 ≤ k ∧ k ≤ (Open.length : Int)) (w_Open : (Open.length : Int) ≤ 9223372036854775807) (w_Dist : (Dist.length : Int) ≤ 9223372036854775807) (v_Dist : ∀ x9 ∈ Dist, (x9.length : Int) ≤ 9223372036854775807) : s_l5Sets_P Open Dist k := by
  unfold s_l5Sets_P
  obtain ⟨g1, g2, g3⟩ := gf_open hg
  have sl := sets_small (n := (Open.length : Int).toNat) (by omega)
  refine ⟨?_, ?_, ?_⟩
  · refine s_l2Sets_pc (Open.length : Int) ?_
    · omega
  · refine ⟨([]), 0, ?_⟩
    refine ⟨?_, rfl, rfl, rfl, rfl, ?_⟩
    · refine ⟨?_, ?_, ?_⟩
      · first | omega | rfl | (intro hg; simp only [nrmT] at hg; omega) | (intro g1 g2; simp [g1, g2]; done) | (intro g1; simp at g1 ⊢; simp [g1]; done) | (simp only [nrmT] at *; omega) | (simp at * <;> omega) | (simp_all <;> omega) | (simp_all; done)
      · first | omega | rfl | (intro hg; simp only [nrmT] at hg; omega) | (intro g1 g2; simp [g1, g2]; done) | (intro g1; simp at g1 ⊢; simp [g1]; done) | (simp only [nrmT] at *; omega) | (simp at * <;> omega) | (simp_all <;> omega) | (simp_all; done)
      · rfl
    · first | omega | rfl | (intro hg; simp only [nrmT] at hg; omega) | (intro g1 g2; simp [g1, g2]; done) | (intro g1; simp at g1 ⊢; simp [g1]; done) | (simp only [nrmT] at *; omega) | (simp at * <;> omega) | (simp_all <;> omega) | (simp_all; done)
  · intro out i hJ
    obtain ⟨h1, h2, h3⟩ := hJ
    refine ⟨?_, ?_⟩
    · intro b1
      try simp only [nrmT] at b1
      refine ⟨?_, ?_, ?_, ?_, ?_⟩
      · first | omega | rfl | (intro hg; simp only [nrmT] at hg; omega) | (intro g1 g2; simp [g1, g2]; done) | (intro g1; simp at g1 ⊢; simp [g1]; done) | (simp only [nrmT] at *; omega) | (simp at * <;> omega) | (simp_all <;> omega) | (simp_all; done)
      · first | omega | rfl | (intro hg; simp only [nrmT] at hg; omega) | (intro g1 g2; simp [g1, g2]; done) | (intro g1; simp at g1 ⊢; simp [g1]; done) | (simp only [nrmT] at *; omega) | (simp at * <;> omega) | (simp_all <;> omega) | (simp_all; done)
      · first | omega | rfl | (intro hg; simp only [nrmT] at hg; omega) | (intro g1 g2; simp [g1, g2]; done) | (intro g1; simp at g1 ⊢; simp [g1]; done) | (simp only [nrmT] at *; omega) | (simp at * <;> omega) | (simp_all <;> omega) | (simp_all; done)
      · intro b2
        try simp only [nrmT] at b2
        refine ⟨?_, ?_, ?_, rfl, rfl, ?_, ?_, ?_⟩
        · first | omega | rfl | (intro hg; simp only [nrmT] at hg; omega) | (intro g1 g2; simp [g1, g2]; done) | (intro g1; simp at g1 ⊢; simp [g1]; done) | (simp only [nrmT] at *; omega) | (simp at * <;> omega) | (simp_all <;> omega) | (simp_all; done)
        · first | omega | rfl | (intro hg; simp only [nrmT] at hg; omega) | (intro g1 g2; simp [g1, g2]; done) | (intro g1; simp at g1 ⊢; simp [g1]; done) | (simp only [nrmT] at *; omega) | (simp at * <;> omega) | (simp_all <;> omega) | (simp_all; done)
        · first | omega | rfl | (intro hg; simp only [nrmT] at hg; omega) | (intro g1 g2; simp [g1, g2]; done) | (intro g1; simp at g1 ⊢; simp [g1]; done) | (simp only [nrmT] at *; omega) | (simp at * <;> omega) | (simp_all <;> omega) | (simp_all; done)
        · have := List.length_filter_le (fun x9 : List Int => !(decide ((x9.length : Int) > k))) ((setsL (Open.length : Int).toNat).take i.toNat)
          rw [← h3, List.length_take] at this
          omega
        · first | omega | rfl | (intro hg; simp only [nrmT] at hg; omega) | (intro g1 g2; simp [g1, g2]; done) | (intro g1; simp at g1 ⊢; simp [g1]; done) | (simp only [nrmT] at *; omega) | (simp at * <;> omega) | (simp_all <;> omega) | (simp_all; done)
        · refine ⟨(out ++ [((setsL (Open.length : Int).toNat).getD i.toNat [])]), (i + 1), ?_⟩
          refine ⟨?_, ?_, rfl, ?_, rfl, rfl, rfl⟩
          · refine ⟨?_, ?_, ?_⟩
            · first | omega | rfl | (intro hg; simp only [nrmT] at hg; omega) | (intro g1 g2; simp [g1, g2]; done) | (intro g1; simp at g1 ⊢; simp [g1]; done) | (simp only [nrmT] at *; omega) | (simp at * <;> omega) | (simp_all <;> omega) | (simp_all; done)
            · first | omega | rfl | (intro hg; simp only [nrmT] at hg; omega) | (intro g1 g2; simp [g1, g2]; done) | (intro g1; simp at g1 ⊢; simp [g1]; done) | (simp only [nrmT] at *; omega) | (simp at * <;> omega) | (simp_all <;> omega) | (simp_all; done)
            · rw [filter_step h1 (by omega), ← h3, if_pos (by rw [decide_eq_false (by omega)]; rfl)]
          · first | (show _ < _; omega) | (simp only [s_l5Sets_mJ0]; omega) | (simp only [s_l5Sets_mJ0] at *; simp at *; omega)
          · first | omega | rfl | (intro hg; simp only [nrmT] at hg; omega) | (intro g1 g2; simp [g1, g2]; done) | (intro g1; simp at g1 ⊢; simp [g1]; done) | (simp only [nrmT] at *; omega) | (simp at * <;> omega) | (simp_all <;> omega) | (simp_all; done)
      · intro b3
        try simp only [nrmT] at b3
        refine ⟨?_, ?_⟩
        · first | omega | rfl | (intro hg; simp only [nrmT] at hg; omega) | (intro g1 g2; simp [g1, g2]; done) | (intro g1; simp at g1 ⊢; simp [g1]; done) | (simp only [nrmT] at *; omega) | (simp at * <;> omega) | (simp_all <;> omega) | (simp_all; done)
        · refine ⟨out, (i + 1), ?_⟩
          refine ⟨?_, ?_, rfl, rfl, rfl, rfl, rfl⟩
          · refine ⟨?_, ?_, ?_⟩
            · first | omega | rfl | (intro hg; simp only [nrmT] at hg; omega) | (intro g1 g2; simp [g1, g2]; done) | (intro g1; simp at g1 ⊢; simp [g1]; done) | (simp only [nrmT] at *; omega) | (simp at * <;> omega) | (simp_all <;> omega) | (simp_all; done)
            · first | omega | rfl | (intro hg; simp only [nrmT] at hg; omega) | (intro g1 g2; simp [g1, g2]; done) | (intro g1; simp at g1 ⊢; simp [g1]; done) | (simp only [nrmT] at *; omega) | (simp at * <;> omega) | (simp_all <;> omega) | (simp_all; done)
            · rw [filter_step h1 (by omega), ← h3, if_neg (by rw [decide_eq_true (by omega)]; simp)]
          · first | (show _ < _; omega) | (simp only [s_l5Sets_mJ0]; omega) | (simp only [s_l5Sets_mJ0] at *; simp at *; omega)
    · intro b4
      try simp only [nrmT] at b4
      refine ⟨rfl, ?_⟩
      · rw [h3, take_all (by omega)]; rfl
theorem s_l5Sets_pc (Open : List Int) (Dist : List (List Int)) (k : Int) (hg : goodField Open Dist = true) (hk : 1 ≤ k ∧ k ≤ (Open.length : Int)) : PC Try.prog 120 [.agg [.sl (.ints Open), .sl (.rows Dist)], .int .i64 k] (.one (.d (.sl (.rows (upS Open k))))) :=
  pc_wf @Try.call120 fun hw => pc_by (by kernel_rfl) Try.func120 @Try.call120 (by kernel_rfl) s_l5Sets_C (s_l5Sets_A Open Dist k) (by kernel_rfl) (s_l5Sets_vc Open Dist k hg hk hw.1.1 hw.1.2.1.1 hw.1.2.1.2) (by kernel_rfl)
def s_l5Sets_orc : List D → Orc := orcN [none, none] fun ds => match ds with
  | [.agg [.sl (.ints Open), .sl (.rows Dist)], .int .i64 k] => some (.one (.d (.sl (.rows (upS Open k)))))
  | _ => none
abbrev s_l5Best_JJ0 (Open : List Int) (Dist : List (List Int)) (k : Int) (best : List Int) (i : Int) : Prop := (1 ≤ i) ∧ (i ≤ ((upS Open k).length : Int)) ∧ (best ∈ upS Open k) ∧ (best = ((upS Open k).take i.toNat).foldl (lsB (rchOf Dist)) ((upS Open k).getD 0 []))
abbrev s_l5Best_mJ0 (Open : List Int) (Dist : List (List Int)) (k : Int) (best : List Int) (i : Int) : Nat := ((upS Open k).length - i).toNat
def s_l5Best_C (f : FuncId) (ds : List D) : Orc := bif Nat.beq f 120 then s_l5Sets_orc ds else bif Nat.beq f 99 then s_l2Far_orc ds else .no
def s_l5Best_A (Open : List Int) (Dist : List (List Int)) (k : Int) : Ann := .two (.none) (.two (.none) (.two (.none) (.two (.two (.none) (.loop (cut2 (fun (best : List Int) (i : Int) => s_l5Best_JJ0 Open Dist k best i) (fun (best : List Int) (i : Int) => [(2, .ptr 2 0), (5, .d true (.sl (.rows (upS Open k)))), (6, .d true (.sl (.ints best))), (7, .d true (.int .i64 i))]) (fun (best : List Int) (i : Int) => [(2, .box 37 [.d false (.sl (.ints Open)), .d false (.sl (.rows Dist))])])) (fun g => s_l5Best_mJ0 Open Dist k g.1 g.2) (fun _ => .none))) (.none))))
def s_l5Best_P (Open : List Int) (Dist : List (List Int)) (k : Int) : Prop :=
  (PC Try.prog 120 [.agg [.sl (.ints Open), .sl (.rows Dist)], .int .i64 k] (.one (.d (.sl (.rows (upS Open k)))))) ∧ ((0 : Int) ≤ 0) ∧ ((0 : Int) < (upS Open k).length) ∧ (0 < (upS Open k).length) ∧ ((∃ best' : List Int, ∃ i' : Int, (s_l5Best_JJ0 Open Dist k best' i') ∧ ((upS Open k) = (upS Open k)) ∧ (((upS Open k).getD 0 []) = best') ∧ ((1 : Int) = i') ∧ (Open = Open) ∧ (Dist = Dist)) ∧ (∀ best : List Int, ∀ i : Int, (s_l5Best_JJ0 Open Dist k best i) → (((decide (i < (((upS Open k).length) : Int))) = true → (true = true) ∧ ((0 : Int) ≤ i) ∧ ((i : Int) < (upS Open k).length) ∧ (i.toNat < (upS Open k).length) ∧ (PC Try.prog 99 [.agg [.sl (.ints Open), .sl (.rows Dist)], .sl (.ints ((upS Open k).getD i.toNat []))] (.one (.d (.int .i64 (rchOf Dist ((upS Open k).getD i.toNat [])))))) ∧ (PC Try.prog 99 [.agg [.sl (.ints Open), .sl (.rows Dist)], .sl (.ints best)] (.one (.d (.int .i64 (rchOf Dist best))))) ∧ (((decide ((rchOf Dist ((upS Open k).getD i.toNat [])) < (rchOf Dist best))) = true → ((0 : Int) ≤ i) ∧ ((i : Int) < (upS Open k).length) ∧ (i.toNat < (upS Open k).length) ∧ (-9223372036854775808 ≤ (i + 1) ∧ (i + 1) ≤ 9223372036854775807) ∧ (∃ best' : List Int, ∃ i' : Int, (s_l5Best_JJ0 Open Dist k best' i') ∧ (s_l5Best_mJ0 Open Dist k best' i' < s_l5Best_mJ0 Open Dist k best i) ∧ ((upS Open k) = (upS Open k)) ∧ (((upS Open k).getD i.toNat []) = best') ∧ ((i + 1) = i') ∧ (Open = Open) ∧ (Dist = Dist))) ∧ ((decide ((rchOf Dist ((upS Open k).getD i.toNat [])) < (rchOf Dist best))) = false → (-9223372036854775808 ≤ (i + 1) ∧ (i + 1) ≤ 9223372036854775807) ∧ (∃ best' : List Int, ∃ i' : Int, (s_l5Best_JJ0 Open Dist k best' i') ∧ (s_l5Best_mJ0 Open Dist k best' i' < s_l5Best_mJ0 Open Dist k best i) ∧ ((upS Open k) = (upS Open k)) ∧ (best = best') ∧ ((i + 1) = i') ∧ (Open = Open) ∧ (Dist = Dist))))) ∧ ((decide (i < (((upS Open k).length) : Int))) = false → (((best : List Int) = (cenS Open Dist k)))))))
theorem s_l5Best_vc (Open : List Int) (Dist : List (List Int)) (k : Int) (hg : goodField Open Dist = true) (hk : 1 ≤ k ∧ k ≤ (Open.length : Int)) (w_Open : (Open.length : Int) ≤ 9223372036854775807) (w_Dist : (Dist.length : Int) ≤ 9223372036854775807) (v_Dist : ∀ x9 ∈ Dist, (x9.length : Int) ≤ 9223372036854775807) : s_l5Best_P Open Dist k := by
  unfold s_l5Best_P
  obtain ⟨g1, g2, g3⟩ := gf_open hg
  have up := upS_pos (k := k) hk
  have ul := upS_len hg (k := k)
  refine ⟨?_, ?_, ?_, ?_, ?_, ?_⟩
  · refine s_l5Sets_pc Open Dist k ?_ ?_
    · first | omega | rfl | (intro hg; simp only [nrmT] at hg; omega) | (intro g1 g2; simp [g1, g2]; done) | (intro g1; simp at g1 ⊢; simp [g1]; done) | (simp only [nrmT] at *; omega) | (simp at * <;> omega) | (simp_all <;> omega) | (simp_all; done)
    · first | omega | rfl | (intro hg; simp only [nrmT] at hg; omega) | (intro g1 g2; simp [g1, g2]; done) | (intro g1; simp at g1 ⊢; simp [g1]; done) | (simp only [nrmT] at *; omega) | (simp at * <;> omega) | (simp_all <;> omega) | (simp_all; done)
  · first | omega | rfl | (intro hg; simp only [nrmT] at hg; omega) | (intro g1 g2; simp [g1, g2]; done) | (intro g1; simp at g1 ⊢; simp [g1]; done) | (simp only [nrmT] at *; omega) | (simp at * <;> omega) | (simp_all <;> omega) | (simp_all; done)
  · first | omega | rfl | (intro hg; simp only [nrmT] at hg; omega) | (intro g1 g2; simp [g1, g2]; done) | (intro g1; simp at g1 ⊢; simp [g1]; done) | (simp only [nrmT] at *; omega) | (simp at * <;> omega) | (simp_all <;> omega) | (simp_all; done)
  · first | omega | rfl | (intro hg; simp only [nrmT] at hg; omega) | (intro g1 g2; simp [g1, g2]; done) | (intro g1; simp at g1 ⊢; simp [g1]; done) | (simp only [nrmT] at *; omega) | (simp at * <;> omega) | (simp_all <;> omega) | (simp_all; done)
  · refine ⟨((upS Open k).getD 0 []), 1, ?_⟩
    refine ⟨?_, rfl, rfl, rfl, rfl, rfl⟩
    · refine ⟨?_, ?_, ?_, ?_⟩
      · first | omega | rfl | (intro hg; simp only [nrmT] at hg; omega) | (intro g1 g2; simp [g1, g2]; done) | (intro g1; simp at g1 ⊢; simp [g1]; done) | (simp only [nrmT] at *; omega) | (simp at * <;> omega) | (simp_all <;> omega) | (simp_all; done)
      · first | omega | rfl | (intro hg; simp only [nrmT] at hg; omega) | (intro g1 g2; simp [g1, g2]; done) | (intro g1; simp at g1 ⊢; simp [g1]; done) | (simp only [nrmT] at *; omega) | (simp at * <;> omega) | (simp_all <;> omega) | (simp_all; done)
      · exact getD_mem up
      · exact (leastL_one up).symm
  · intro best i hJ
    obtain ⟨h1, h2, h3, h4⟩ := hJ
    refine ⟨?_, ?_⟩
    · intro b1
      try simp only [nrmT] at b1
      refine ⟨rfl, ?_, ?_, ?_, ?_, ?_, ?_, ?_⟩
      · first | omega | rfl | (intro hg; simp only [nrmT] at hg; omega) | (intro g1 g2; simp [g1, g2]; done) | (intro g1; simp at g1 ⊢; simp [g1]; done) | (simp only [nrmT] at *; omega) | (simp at * <;> omega) | (simp_all <;> omega) | (simp_all; done)
      · first | omega | rfl | (intro hg; simp only [nrmT] at hg; omega) | (intro g1 g2; simp [g1, g2]; done) | (intro g1; simp at g1 ⊢; simp [g1]; done) | (simp only [nrmT] at *; omega) | (simp at * <;> omega) | (simp_all <;> omega) | (simp_all; done)
      · first | omega | rfl | (intro hg; simp only [nrmT] at hg; omega) | (intro g1 g2; simp [g1, g2]; done) | (intro g1; simp at g1 ⊢; simp [g1]; done) | (simp only [nrmT] at *; omega) | (simp at * <;> omega) | (simp_all <;> omega) | (simp_all; done)
      · refine s_l2Far_pc Open Dist ((upS Open k).getD i.toNat []) ?_
        · exact (set_two hg (upS_mem (getD_memI (by omega) (by omega)))).1
      · refine s_l2Far_pc Open Dist best ?_
        · exact (set_two hg (upS_mem (h3))).1
      · intro b2
        try simp only [nrmT] at b2
        refine ⟨?_, ?_, ?_, ?_, ?_⟩
        · first | omega | rfl | (intro hg; simp only [nrmT] at hg; omega) | (intro g1 g2; simp [g1, g2]; done) | (intro g1; simp at g1 ⊢; simp [g1]; done) | (simp only [nrmT] at *; omega) | (simp at * <;> omega) | (simp_all <;> omega) | (simp_all; done)
        · first | omega | rfl | (intro hg; simp only [nrmT] at hg; omega) | (intro g1 g2; simp [g1, g2]; done) | (intro g1; simp at g1 ⊢; simp [g1]; done) | (simp only [nrmT] at *; omega) | (simp at * <;> omega) | (simp_all <;> omega) | (simp_all; done)
        · first | omega | rfl | (intro hg; simp only [nrmT] at hg; omega) | (intro g1 g2; simp [g1, g2]; done) | (intro g1; simp at g1 ⊢; simp [g1]; done) | (simp only [nrmT] at *; omega) | (simp at * <;> omega) | (simp_all <;> omega) | (simp_all; done)
        · first | omega | rfl | (intro hg; simp only [nrmT] at hg; omega) | (intro g1 g2; simp [g1, g2]; done) | (intro g1; simp at g1 ⊢; simp [g1]; done) | (simp only [nrmT] at *; omega) | (simp at * <;> omega) | (simp_all <;> omega) | (simp_all; done)
        · refine ⟨((upS Open k).getD i.toNat []), (i + 1), ?_⟩
          refine ⟨?_, ?_, rfl, rfl, rfl, rfl, rfl⟩
          · refine ⟨?_, ?_, ?_, ?_⟩
            · first | omega | rfl | (intro hg; simp only [nrmT] at hg; omega) | (intro g1 g2; simp [g1, g2]; done) | (intro g1; simp at g1 ⊢; simp [g1]; done) | (simp only [nrmT] at *; omega) | (simp at * <;> omega) | (simp_all <;> omega) | (simp_all; done)
            · first | omega | rfl | (intro hg; simp only [nrmT] at hg; omega) | (intro g1 g2; simp [g1, g2]; done) | (intro g1; simp at g1 ⊢; simp [g1]; done) | (simp only [nrmT] at *; omega) | (simp at * <;> omega) | (simp_all <;> omega) | (simp_all; done)
            · exact getD_memI (by omega) (by omega)
            · rw [fold_snoc (d := []) (by omega) (by omega), ← h4]; unfold lsB; rw [if_pos b2]
          · first | (show _ < _; omega) | (simp only [s_l5Best_mJ0]; omega) | (simp only [s_l5Best_mJ0] at *; simp at *; omega)
      · intro b3
        try simp only [nrmT] at b3
        refine ⟨?_, ?_⟩
        · first | omega | rfl | (intro hg; simp only [nrmT] at hg; omega) | (intro g1 g2; simp [g1, g2]; done) | (intro g1; simp at g1 ⊢; simp [g1]; done) | (simp only [nrmT] at *; omega) | (simp at * <;> omega) | (simp_all <;> omega) | (simp_all; done)
        · refine ⟨best, (i + 1), ?_⟩
          refine ⟨?_, ?_, rfl, rfl, rfl, rfl, rfl⟩
          · refine ⟨?_, ?_, ?_, ?_⟩
            · first | omega | rfl | (intro hg; simp only [nrmT] at hg; omega) | (intro g1 g2; simp [g1, g2]; done) | (intro g1; simp at g1 ⊢; simp [g1]; done) | (simp only [nrmT] at *; omega) | (simp at * <;> omega) | (simp_all <;> omega) | (simp_all; done)
            · first | omega | rfl | (intro hg; simp only [nrmT] at hg; omega) | (intro g1 g2; simp [g1, g2]; done) | (intro g1; simp at g1 ⊢; simp [g1]; done) | (simp only [nrmT] at *; omega) | (simp at * <;> omega) | (simp_all <;> omega) | (simp_all; done)
            · exact h3
            · rw [fold_snoc (d := []) (by omega) (by omega), ← h4]; unfold lsB; rw [if_neg (by omega)]
          · first | (show _ < _; omega) | (simp only [s_l5Best_mJ0]; omega) | (simp only [s_l5Best_mJ0] at *; simp at *; omega)
    · intro b4
      try simp only [nrmT] at b4
      rw [h4, take_all (by omega)]; rfl
theorem s_l5Best_pc (Open : List Int) (Dist : List (List Int)) (k : Int) (hg : goodField Open Dist = true) (hk : 1 ≤ k ∧ k ≤ (Open.length : Int)) : PC Try.prog 108 [.agg [.sl (.ints Open), .sl (.rows Dist)], .int .i64 k] (.one (.d (.sl (.ints (cenS Open Dist k))))) :=
  pc_wf @Try.call108 fun hw => pc_by (by kernel_rfl) Try.func108 @Try.call108 (by kernel_rfl) s_l5Best_C (s_l5Best_A Open Dist k) (by kernel_rfl) (s_l5Best_vc Open Dist k hg hk hw.1.1 hw.1.2.1.1 hw.1.2.1.2) (by kernel_rfl)
def s_l5Best_orc : List D → Orc := orcN [none, none] fun ds => match ds with
  | [.agg [.sl (.ints Open), .sl (.rows Dist)], .int .i64 k] => some (.one (.d (.sl (.ints (cenS Open Dist k)))))
  | _ => none
def s_BestCentres_C (f : FuncId) (ds : List D) : Orc := bif Nat.beq f 107 then s_l5Ask_orc ds else bif Nat.beq f 108 then s_l5Best_orc ds else bif Nat.beq f 100 then s_l1Own_orc ds else .no
def s_BestCentres_A (Open : List Int) (Dist : List (List Int)) (k : Int) : Ann := .none
def s_BestCentres_P (Open : List Int) (Dist : List (List Int)) (k : Int) : Prop :=
  (PC Try.prog 107 [.agg [.sl (.ints Open), .sl (.rows Dist)], .int .i64 k] (.one (.d (.bool (goodField Open Dist && inB k 1 (Open.length : Int)))))) ∧ (((!(goodField Open Dist && inB k 1 (Open.length : Int))) = true → (((0 : Nat) = 0) ∧ (([] : List Int) = cenL Open Dist k) ∧ (false = (goodField Open Dist && inB k 1 (Open.length : Int))))) ∧ ((!(goodField Open Dist && inB k 1 (Open.length : Int))) = false → (PC Try.prog 108 [.agg [.sl (.ints Open), .sl (.rows Dist)], .int .i64 k] (.one (.d (.sl (.ints (cenS Open Dist k)))))) ∧ (PC Try.prog 100 [.sl (.ints (cenS Open Dist k))] (.one (.own 3 (.ints (cenS Open Dist k))))) ∧ (((cenS Open Dist k).length = (cenS Open Dist k).length) ∧ (((cenS Open Dist k) : List Int) = cenL Open Dist k) ∧ (true = (goodField Open Dist && inB k 1 (Open.length : Int))))))
theorem s_BestCentres_vc (Open : List Int) (Dist : List (List Int)) (k : Int)  (w_Open : (Open.length : Int) ≤ 9223372036854775807) (w_Dist : (Dist.length : Int) ≤ 9223372036854775807) (v_Dist : ∀ x9 ∈ Dist, (x9.length : Int) ≤ 9223372036854775807) : s_BestCentres_P Open Dist k := by
  unfold s_BestCentres_P
  refine ⟨s_l5Ask_pc Open Dist k, ?_, ?_⟩
  · intro b1
    try simp only [Bool.not_eq_true', Bool.not_eq_false', Bool.not_not] at b1
    refine ⟨rfl, ?_, ?_⟩
    · have hgk : (goodField Open Dist && inB k 1 (Open.length : Int)) = false := by simpa using b1
      unfold cenL; rw [hgk]; rfl
    · have hgk : (goodField Open Dist && inB k 1 (Open.length : Int)) = false := by simpa using b1
      exact hgk.symm
  · intro b2
    try simp only [Bool.not_eq_true', Bool.not_eq_false', Bool.not_not] at b2
    refine ⟨?_, ?_, rfl, ?_, ?_⟩
    · refine s_l5Best_pc Open Dist k ?_ ?_
      · have hgk : (goodField Open Dist && inB k 1 (Open.length : Int)) = true := by simpa using b2
        obtain ⟨hg, hk⟩ := (Bool.and_eq_true _ _ ▸ hgk : _ ∧ _)
        have hk2 := inB_le hk
        exact hg
      · have hgk : (goodField Open Dist && inB k 1 (Open.length : Int)) = true := by simpa using b2
        obtain ⟨hg, hk⟩ := (Bool.and_eq_true _ _ ▸ hgk : _ ∧ _)
        have hk2 := inB_le hk
        exact hk2
    · refine s_l1Own_pc (cenS Open Dist k) ?_
      · have hgk : (goodField Open Dist && inB k 1 (Open.length : Int)) = true := by simpa using b2
        obtain ⟨hg, hk⟩ := (Bool.and_eq_true _ _ ▸ hgk : _ ∧ _)
        have hk2 := inB_le hk
        have := (set_two hg (cenS_in (Dist := Dist) hk2)).2
        omega
    · have hgk : (goodField Open Dist && inB k 1 (Open.length : Int)) = true := by simpa using b2
      obtain ⟨hg, hk⟩ := (Bool.and_eq_true _ _ ▸ hgk : _ ∧ _)
      have hk2 := inB_le hk
      unfold cenL; rw [if_pos hgk]; try rfl
    · have hgk : (goodField Open Dist && inB k 1 (Open.length : Int)) = true := by simpa using b2
      obtain ⟨hg, hk⟩ := (Bool.and_eq_true _ _ ▸ hgk : _ ∧ _)
      have hk2 := inB_le hk
      exact hgk.symm
theorem s_BestCentres_pc (Open : List Int) (Dist : List (List Int)) (k : Int)  : PC Try.prog 64 [.agg [.sl (.ints Open), .sl (.rows Dist)], .int .i64 k] (.tup [.own 3 (.ints (cenL Open Dist k)), .d (.bool (goodField Open Dist && inB k 1 (Open.length : Int)))]) :=
  pc_wf @Try.call64 fun hw => pc_by (by kernel_rfl) Try.func64 @Try.call64 (by kernel_rfl) s_BestCentres_C (s_BestCentres_A Open Dist k) (by kernel_rfl) (s_BestCentres_vc Open Dist k hw.1.1 hw.1.2.1.1 hw.1.2.1.2) (by kernel_rfl)
def s_BestCentres_orc : List D → Orc := orcN [none, none] fun ds => match ds with
  | [.agg [.sl (.ints Open), .sl (.rows Dist)], .int .i64 k] => some (.tup [.own 3 (.ints (cenL Open Dist k)), .d (.bool (goodField Open Dist && inB k 1 (Open.length : Int)))])
  | _ => none
def i_BestCentres_C (f : FuncId) (ds : List D) : Orc := bif Nat.beq f 95 then i_isMedianCase_orc ds else bif Nat.beq f 122 then i_Field_upTo_orc ds else bif Nat.beq f 111 then i_least_rch_orc ds else .no
def i_BestCentres_A (Open : List Int) (Dist : List (List Int)) (k : Int) : Ann := .none
def i_BestCentres_P (Open : List Int) (Dist : List (List Int)) (k : Int) : Prop :=
  (PC Try.prog 95 [.agg [.sl (.ints Open), .sl (.rows Dist)], .int .i64 k] (.one (.d (.bool (goodField Open Dist && inB k 1 (Open.length : Int)))))) ∧ (((!(goodField Open Dist && inB k 1 (Open.length : Int))) = true → (((cenL Open Dist k).length = 0) ∧ (false = (goodField Open Dist && inB k 1 (Open.length : Int))))) ∧ ((!(goodField Open Dist && inB k 1 (Open.length : Int))) = false → (true = true) ∧ (PC Try.prog 122 [.agg [.sl (.ints Open), .sl (.rows Dist)], .int .i64 k] (.one (.d (.sl (.rows (upS Open k)))))) ∧ (PCs Try.prog 111 [.sl (.rows (upS Open k)), .fn 103 1 [.agg [.sl (.ints Open), .sl (.rows Dist)]]] 0 (.sl (.ints (leastL (rchOf Dist) (upS Open k))))) ∧ ((((leastL (rchOf Dist) (upS Open k)) : List Int) = (cenL Open Dist k)) ∧ (true = (goodField Open Dist && inB k 1 (Open.length : Int))))))
theorem i_BestCentres_vc (Open : List Int) (Dist : List (List Int)) (k : Int)  (w_Open : (Open.length : Int) ≤ 9223372036854775807) (w_Dist : (Dist.length : Int) ≤ 9223372036854775807) (v_Dist : ∀ x9 ∈ Dist, (x9.length : Int) ≤ 9223372036854775807) : i_BestCentres_P Open Dist k := by
  unfold i_BestCentres_P
  refine ⟨i_isMedianCase_pc Open Dist k, ?_, ?_⟩
  · intro b1
    try simp only [Bool.not_eq_true', Bool.not_eq_false', Bool.not_not] at b1
    refine ⟨?_, ?_⟩
    · have hgk : (goodField Open Dist && inB k 1 (Open.length : Int)) = false := by simpa using b1
      unfold cenL; rw [hgk]; rfl
    · have hgk : (goodField Open Dist && inB k 1 (Open.length : Int)) = false := by simpa using b1
      exact hgk.symm
  · intro b2
    try simp only [Bool.not_eq_true', Bool.not_eq_false', Bool.not_not] at b2
    refine ⟨rfl, ?_, ?_, ?_, ?_⟩
    · refine i_Field_upTo_pc Open Dist k ?_ ?_
      · have hgk : (goodField Open Dist && inB k 1 (Open.length : Int)) = true := by simpa using b2
        obtain ⟨hg, hk⟩ := (Bool.and_eq_true _ _ ▸ hgk : _ ∧ _)
        have hk2 := inB_le hk
        exact hg
      · have hgk : (goodField Open Dist && inB k 1 (Open.length : Int)) = true := by simpa using b2
        obtain ⟨hg, hk⟩ := (Bool.and_eq_true _ _ ▸ hgk : _ ∧ _)
        have hk2 := inB_le hk
        exact hk2
    · refine i_least_rch_pc (upS Open k) Open Dist ?_ ?_
      · have hgk : (goodField Open Dist && inB k 1 (Open.length : Int)) = true := by simpa using b2
        obtain ⟨hg, hk⟩ := (Bool.and_eq_true _ _ ▸ hgk : _ ∧ _)
        have hk2 := inB_le hk
        exact upS_pos hk2
      · have hgk : (goodField Open Dist && inB k 1 (Open.length : Int)) = true := by simpa using b2
        obtain ⟨hg, hk⟩ := (Bool.and_eq_true _ _ ▸ hgk : _ ∧ _)
        have hk2 := inB_le hk
        intro s hs
        exact (set_two hg (upS_mem (hs))).1
    · have hgk : (goodField Open Dist && inB k 1 (Open.length : Int)) = true := by simpa using b2
      obtain ⟨hg, hk⟩ := (Bool.and_eq_true _ _ ▸ hgk : _ ∧ _)
      have hk2 := inB_le hk
      unfold cenL; rw [if_pos hgk]; try rfl
    · have hgk : (goodField Open Dist && inB k 1 (Open.length : Int)) = true := by simpa using b2
      obtain ⟨hg, hk⟩ := (Bool.and_eq_true _ _ ▸ hgk : _ ∧ _)
      have hk2 := inB_le hk
      exact hgk.symm
theorem i_BestCentres_pc (Open : List Int) (Dist : List (List Int)) (k : Int)  : PC Try.prog 65 [.agg [.sl (.ints Open), .sl (.rows Dist)], .int .i64 k] (.tup [.d (.sl (.ints (cenL Open Dist k))), .d (.bool (goodField Open Dist && inB k 1 (Open.length : Int)))]) :=
  pc_wf @Try.call65 fun hw => pc_by (by kernel_rfl) Try.func65 @Try.call65 (by kernel_rfl) i_BestCentres_C (i_BestCentres_A Open Dist k) (by kernel_rfl) (i_BestCentres_vc Open Dist k hw.1.1 hw.1.2.1.1 hw.1.2.1.2) (by kernel_rfl)
def l_FnExactBestCentres_C (f : FuncId) (ds : List D) : Orc := bif Nat.beq f 27 then l_szField_orc ds else bif Nat.beq f 29 then l_toField_orc ds else bif Nat.beq f 64 then s_BestCentres_orc ds else bif Nat.beq f 24 then l_eqIntS_orc ds else bif Nat.beq f 32 then l_eqField_orc ds else bif Nat.beq f 26 then l_heldIntS_orc ds else .no
def l_FnExactBestCentres_A (Open : List Int) (Dist : List (List Int)) (k : Int) : Ann := .two (.none) (.two (.none) (.two (.none) (.two (.none) (.two (.reg [(1, .g)]) (.two (.reg [(1, .g)]) (.two (.mark [] 2 (.vcall (.tup [.d (.sl (.ints (cenL Open Dist k))), .d (.bool (goodField Open Dist && inB k 1 (Open.length : Int)))]))) (.two (.none) (.two (.two (.reg [(2, .g)]) (.none)) (.two (.none) (.two (.mark [] 2 (.kill (1 + (Open.length : Int) + ((Dist.map List.length).sum : Int)))) (.two (.none) (.two (.none) (.two (.mark [] 2 (.wv (marks 1 (cenL Open Dist k).length) (1 + ((cenL Open Dist k).length : Int)))) (.two (.none) (.two (.none) (.two (.none) (.two (.none) (.two (.mark [(1, .g)] 3 (.vcall (.tup [.d (.sl (.ints (cenL Open Dist k))), .d (.bool (goodField Open Dist && inB k 1 (Open.length : Int)))]))) (.none)))))))))))))))))))
def l_FnExactBestCentres_P (Open : List Int) (Dist : List (List Int)) (k : Int) : Prop :=
  (PC Try.prog 27 [.agg [.sl (.ints Open), .sl (.rows Dist)], .int .i64 1048576] (.one (.d (.int .i64 (szField Open Dist 1048576))))) ∧ (((decide ((szField Open Dist 1048576) < 0)) = true → ((true = true))) ∧ ((decide ((szField Open Dist 1048576) < 0)) = false → (PC Try.prog 29 [.agg [.sl (.ints Open), .sl (.rows Dist)]] (.one (.d (.agg [.sl (.ints Open), .sl (.rows Dist)])))) ∧ (PC Try.prog 64 [.agg [.sl (.ints Open), .sl (.rows Dist)], .int .i64 k] (.tup [.own 3 (.ints (cenL Open Dist k)), .d (.bool (goodField Open Dist && inB k 1 (Open.length : Int)))])) ∧ (PC Try.prog 29 [.agg [.sl (.ints Open), .sl (.rows Dist)]] (.one (.d (.agg [.sl (.ints Open), .sl (.rows Dist)])))) ∧ (PC Try.prog 65 [.agg [.sl (.ints Open), .sl (.rows Dist)], .int .i64 k] (.tup [.d (.sl (.ints (cenL Open Dist k))), .d (.bool (goodField Open Dist && inB k 1 (Open.length : Int)))])) ∧ ((cenL Open Dist k).length = (cenL Open Dist k).length) ∧ ((cenL Open Dist k).length = (cenL Open Dist k).length) ∧ (PC Try.prog 24 [.sl (.ints (cenL Open Dist k)), .sl (.ints (cenL Open Dist k))] (.one (.d (.bool ((cenL Open Dist k) == (cenL Open Dist k)))))) ∧ ((!(!((cenL Open Dist k) == (cenL Open Dist k)))) = true → (!(!((cenL Open Dist k) == (cenL Open Dist k)))) = true) ∧ ((!(!((cenL Open Dist k) == (cenL Open Dist k)))) = true → (!(!((cenL Open Dist k) == (cenL Open Dist k)))) = true) ∧ (true = true) ∧ (((!((cenL Open Dist k) == (cenL Open Dist k))) = true → true = true)) ∧ (((!((cenL Open Dist k) == (cenL Open Dist k))) = false → (!(!((cenL Open Dist k) == (cenL Open Dist k)))) = true)) ∧ (((cond (!((cenL Open Dist k) == (cenL Open Dist k))) true ((goodField Open Dist && inB k 1 (Open.length : Int)) != (goodField Open Dist && inB k 1 (Open.length : Int)))) = true → ((false = true))) ∧ ((cond (!((cenL Open Dist k) == (cenL Open Dist k))) true ((goodField Open Dist && inB k 1 (Open.length : Int)) != (goodField Open Dist && inB k 1 (Open.length : Int)))) = false → (true = true) ∧ (PC Try.prog 29 [.agg [.sl (.ints Open), .sl (.rows Dist)]] (.one (.d (.agg [.sl (.ints Open), .sl (.rows Dist)])))) ∧ (PC Try.prog 32 [.agg [.sl (.ints Open), .sl (.rows Dist)], .agg [.sl (.ints Open), .sl (.rows Dist)]] (.one (.d (.bool ((Open == Open) && (Dist == Dist)))))) ∧ (((!((Open == Open) && (Dist == Dist))) = true → ((false = true))) ∧ ((!((Open == Open) && (Dist == Dist))) = false → (PG Try.prog 33 [.agg [.ints Open.length, .rows (Dist.map List.length)], .int 1] (1 + (Open.length : Int) + ((Dist.map List.length).sum : Int))) ∧ ((!(decide ((1 + (Open.length : Int) + ((Dist.map List.length).sum : Int)) < 0))) = true → (!(decide ((1 + (Open.length : Int) + ((Dist.map List.length).sum : Int)) < 0))) = true) ∧ ((!(decide ((1 + (Open.length : Int) + ((Dist.map List.length).sum : Int)) < 0))) = true → (!(decide ((1 + (Open.length : Int) + ((Dist.map List.length).sum : Int)) < 0))) = true) ∧ (((!(decide ((1 + (Open.length : Int) + ((Dist.map List.length).sum : Int)) < 0))) = true → (cenL Open Dist k).length = (cenL Open Dist k).length)) ∧ (((!(decide ((1 + (Open.length : Int) + ((Dist.map List.length).sum : Int)) < 0))) = true → (cenL Open Dist k).length = (cenL Open Dist k).length)) ∧ ((!(decide ((1 + (Open.length : Int) + ((Dist.map List.length).sum : Int)) < 0))) = true → PC Try.prog 24 [.sl (.ints (cenL Open Dist k)), .sl (.ints (cenL Open Dist k))] (.one (.d (.bool ((cenL Open Dist k) == (cenL Open Dist k)))))) ∧ ((!(decide ((1 + (Open.length : Int) + ((Dist.map List.length).sum : Int)) < 0))) = true → (!(decide ((1 + (Open.length : Int) + ((Dist.map List.length).sum : Int)) < 0))) = true) ∧ (true = true) ∧ (((decide ((1 + (Open.length : Int) + ((Dist.map List.length).sum : Int)) < 0)) = true → true = true)) ∧ (((decide ((1 + (Open.length : Int) + ((Dist.map List.length).sum : Int)) < 0)) = false → (!(decide ((1 + (Open.length : Int) + ((Dist.map List.length).sum : Int)) < 0))) = true)) ∧ ((!(cond (decide ((1 + (Open.length : Int) + ((Dist.map List.length).sum : Int)) < 0)) true (!((cenL Open Dist k) == (cenL Open Dist k))))) = true → (!(cond (decide ((1 + (Open.length : Int) + ((Dist.map List.length).sum : Int)) < 0)) true (!((cenL Open Dist k) == (cenL Open Dist k))))) = true) ∧ ((!(cond (decide ((1 + (Open.length : Int) + ((Dist.map List.length).sum : Int)) < 0)) true (!((cenL Open Dist k) == (cenL Open Dist k))))) = true → (!(cond (decide ((1 + (Open.length : Int) + ((Dist.map List.length).sum : Int)) < 0)) true (!((cenL Open Dist k) == (cenL Open Dist k))))) = true) ∧ (true = true) ∧ (((cond (decide ((1 + (Open.length : Int) + ((Dist.map List.length).sum : Int)) < 0)) true (!((cenL Open Dist k) == (cenL Open Dist k)))) = true → true = true)) ∧ (((cond (decide ((1 + (Open.length : Int) + ((Dist.map List.length).sum : Int)) < 0)) true (!((cenL Open Dist k) == (cenL Open Dist k)))) = false → (!(cond (decide ((1 + (Open.length : Int) + ((Dist.map List.length).sum : Int)) < 0)) true (!((cenL Open Dist k) == (cenL Open Dist k))))) = true)) ∧ (((cond (cond (decide ((1 + (Open.length : Int) + ((Dist.map List.length).sum : Int)) < 0)) true (!((cenL Open Dist k) == (cenL Open Dist k)))) true ((goodField Open Dist && inB k 1 (Open.length : Int)) != (goodField Open Dist && inB k 1 (Open.length : Int)))) = true → ((false = true))) ∧ ((cond (cond (decide ((1 + (Open.length : Int) + ((Dist.map List.length).sum : Int)) < 0)) true (!((cenL Open Dist k) == (cenL Open Dist k)))) true ((goodField Open Dist && inB k 1 (Open.length : Int)) != (goodField Open Dist && inB k 1 (Open.length : Int)))) = false → ((cenL Open Dist k).length = (cenL Open Dist k).length) ∧ ((marks 1 (cenL Open Dist k).length).length = (cenL Open Dist k).length) ∧ (PX Try.prog 25 (cenL Open Dist k) (marks 1 (cenL Open Dist k).length) 1 (1 + ((cenL Open Dist k).length : Int))) ∧ ((cenL Open Dist k).length = (marks 1 (cenL Open Dist k).length).length) ∧ (PC Try.prog 26 [.sl (.ints (marks 1 (cenL Open Dist k).length)), .int .i64 1] (.one (.d (.int .i64 (1 + ((marks 1 (cenL Open Dist k).length).length : Int)))))) ∧ (((decide ((1 + ((marks 1 (cenL Open Dist k).length).length : Int)) < 0)) = true → ((false = true))) ∧ ((decide ((1 + ((marks 1 (cenL Open Dist k).length).length : Int)) < 0)) = false → ((((1 + ((marks 1 (cenL Open Dist k).length).length : Int)) != (1 + ((cenL Open Dist k).length : Int))) = true → ((false = true))) ∧ (((1 + ((marks 1 (cenL Open Dist k).length).length : Int)) != (1 + ((cenL Open Dist k).length : Int))) = false → (PC Try.prog 29 [.agg [.sl (.ints Open), .sl (.rows Dist)]] (.one (.d (.agg [.sl (.ints Open), .sl (.rows Dist)])))) ∧ (PC Try.prog 65 [.agg [.sl (.ints Open), .sl (.rows Dist)], .int .i64 k] (.tup [.d (.sl (.ints (cenL Open Dist k))), .d (.bool (goodField Open Dist && inB k 1 (Open.length : Int)))])) ∧ ((cenL Open Dist k).length = (cenL Open Dist k).length) ∧ ((cenL Open Dist k).length = (cenL Open Dist k).length) ∧ (PC Try.prog 24 [.sl (.ints (cenL Open Dist k)), .sl (.ints (cenL Open Dist k))] (.one (.d (.bool ((cenL Open Dist k) == (cenL Open Dist k)))))) ∧ ((!(!((cenL Open Dist k) == (cenL Open Dist k)))) = true → (!(!((cenL Open Dist k) == (cenL Open Dist k)))) = true) ∧ ((!(!((cenL Open Dist k) == (cenL Open Dist k)))) = true → (!(!((cenL Open Dist k) == (cenL Open Dist k)))) = true) ∧ (true = true) ∧ (((!((cenL Open Dist k) == (cenL Open Dist k))) = true → true = true)) ∧ (((!((cenL Open Dist k) == (cenL Open Dist k))) = false → (!(!((cenL Open Dist k) == (cenL Open Dist k)))) = true)) ∧ (((cond (!((cenL Open Dist k) == (cenL Open Dist k))) true ((goodField Open Dist && inB k 1 (Open.length : Int)) != (goodField Open Dist && inB k 1 (Open.length : Int)))) = true → ((false = true))) ∧ ((cond (!((cenL Open Dist k) == (cenL Open Dist k))) true ((goodField Open Dist && inB k 1 (Open.length : Int)) != (goodField Open Dist && inB k 1 (Open.length : Int)))) = false → ((cenL Open Dist k).length = (marks 1 (cenL Open Dist k).length).length) ∧ (PC Try.prog 26 [.sl (.ints (marks 1 (cenL Open Dist k).length)), .int .i64 1] (.one (.d (.int .i64 (1 + ((marks 1 (cenL Open Dist k).length).length : Int)))))) ∧ (((decide ((1 + ((marks 1 (cenL Open Dist k).length).length : Int)) < 0)) = true → ((false = true))) ∧ ((decide ((1 + ((marks 1 (cenL Open Dist k).length).length : Int)) < 0)) = false → ((((1 + ((marks 1 (cenL Open Dist k).length).length : Int)) != (1 + ((cenL Open Dist k).length : Int))) = true → ((false = true))) ∧ (((1 + ((marks 1 (cenL Open Dist k).length).length : Int)) != (1 + ((cenL Open Dist k).length : Int))) = false → ((true = true))))))))))))))))))))
theorem l_FnExactBestCentres_vc (Open : List Int) (Dist : List (List Int)) (k : Int)  (w_Open : (Open.length : Int) ≤ 9223372036854775807) (w_Dist : (Dist.length : Int) ≤ 9223372036854775807) (v_Dist : ∀ x9 ∈ Dist, (x9.length : Int) ≤ 9223372036854775807) : l_FnExactBestCentres_P Open Dist k := by
  unfold l_FnExactBestCentres_P
  refine ⟨?_, ?_, ?_⟩
  · refine l_szField_pc Open Dist 1048576 ?_
    · first | omega | rfl | (intro hg; simp only [nrmT] at hg; omega) | (intro g1 g2; simp [g1, g2]; done) | (intro g1; simp at g1 ⊢; simp [g1]; done) | (simp only [nrmT] at *; omega) | (simp at * <;> omega) | (simp_all <;> omega) | (simp_all; done)
  · intro b1
    try simp only [nrmT] at b1
    exact rfl
  · intro b2
    try simp only [nrmT] at b2
    refine ⟨?_, s_BestCentres_pc Open Dist k, ?_, i_BestCentres_pc Open Dist k, rfl, rfl, l_eqIntS_pc (cenL Open Dist k) (cenL Open Dist k), id, id, rfl, fun _ => rfl, ?_, ?_, ?_⟩
    · refine l_toField_pc Open Dist ?_ ?_ ?_
      · have := szField_bound b2; omega
      · have := szField_bound b2; omega
      · have h := (szField_bound b2).2.2
        intro xs hx
        have h := h xs hx
        omega
    · refine l_toField_pc Open Dist ?_ ?_ ?_
      · have := szField_bound b2; omega
      · have := szField_bound b2; omega
      · have h := (szField_bound b2).2.2
        intro xs hx
        have h := h xs hx
        omega
    · intro h; rw [h]; rfl
    · intro b3
      first | (exfalso; simp only [marks_len] at b3; omega) | (simp at b3; done) | (exfalso; simp only [marks_len] at b3; simp at b3; done) | omega | rfl | (intro hg; simp only [nrmT] at hg; omega) | (intro g1 g2; simp [g1, g2]; done) | (intro g1; simp at g1 ⊢; simp [g1]; done) | (simp only [nrmT] at *; omega) | (simp at * <;> omega) | (simp_all <;> omega) | (simp_all; done)
    · intro b4
      refine ⟨rfl, ?_, l_eqField_pc Open Dist Open Dist, ?_, ?_⟩
      · refine l_toField_pc Open Dist ?_ ?_ ?_
        · have := szField_bound b2; omega
        · have := szField_bound b2; omega
        · have h := (szField_bound b2).2.2
          intro xs hx
          have h := h xs hx
          omega
      · intro b5
        try simp only [Bool.not_eq_true', Bool.not_eq_false', Bool.not_not] at b5
        first | (exfalso; simp only [marks_len] at b5; omega) | (simp at b5; done) | (exfalso; simp only [marks_len] at b5; simp at b5; done) | omega | rfl | (intro hg; simp only [nrmT] at hg; omega) | (intro g1 g2; simp [g1, g2]; done) | (intro g1; simp at g1 ⊢; simp [g1]; done) | (simp only [nrmT] at *; omega) | (simp at * <;> omega) | (simp_all <;> omega) | (simp_all; done)
      · intro b6
        try simp only [Bool.not_eq_true', Bool.not_eq_false', Bool.not_not] at b6
        refine ⟨?_, id, id, fun _ => rfl, fun _ => rfl, fun _ => l_eqIntS_pc (cenL Open Dist k) (cenL Open Dist k), id, rfl, fun _ => rfl, ?_, id, id, rfl, fun _ => rfl, ?_, ?_, ?_⟩
        · refine laws_markField_g_pg Open.length (Dist.map List.length) 1 ?_ ?_ ?_
          · first | omega | rfl | (intro hg; simp only [nrmT] at hg; omega) | (intro g1 g2; simp [g1, g2]; done) | (intro g1; simp at g1 ⊢; simp [g1]; done) | (simp only [nrmT] at *; omega) | (simp at * <;> omega) | (simp_all <;> omega) | (simp_all; done)
          · rw [List.length_map]; have hz := szField_bound b2; omega
          · have hz := szField_bound b2
            have hs := sum_lens20 (xss := Dist) (by omega) (fun xs hx => by have := hz.2.2 xs hx; omega)
            omega
        · first | omega | rfl | (intro hg; simp only [nrmT] at hg; omega) | (intro g1 g2; simp [g1, g2]; done) | (intro g1; simp at g1 ⊢; simp [g1]; done) | (simp only [nrmT] at *; omega) | (simp at * <;> omega) | (simp_all <;> omega) | (simp_all; done)
        · intro h; rw [h]; rfl
        · intro b7
          first | (exfalso; simp only [marks_len] at b7; omega) | (simp at b7; done) | (exfalso; simp only [marks_len] at b7; simp at b7; done) | omega | rfl | (intro hg; simp only [nrmT] at hg; omega) | (intro g1 g2; simp [g1, g2]; done) | (intro g1; simp at g1 ⊢; simp [g1]; done) | (simp only [nrmT] at *; omega) | (simp at * <;> omega) | (simp_all <;> omega) | (simp_all; done)
        · intro b8
          refine ⟨rfl, marks_len _ _, ?_, ?_, ?_, ?_, ?_⟩
          · refine laws_markIntS_w_px (cenL Open Dist k) 1 ?_ ?_
            · first | omega | rfl | (intro hg; simp only [nrmT] at hg; omega) | (intro g1 g2; simp [g1, g2]; done) | (intro g1; simp at g1 ⊢; simp [g1]; done) | (simp only [nrmT] at *; omega) | (simp at * <;> omega) | (simp_all <;> omega) | (simp_all; done)
            · have := @cenL_len Open Dist k
              omega
          · simp only [marks_len]
          · refine l_heldIntS_pc (marks 1 (cenL Open Dist k).length) 1 ?_ ?_ ?_
            · first | omega | rfl | (intro hg; simp only [nrmT] at hg; omega) | (intro g1 g2; simp [g1, g2]; done) | (intro g1; simp at g1 ⊢; simp [g1]; done) | (simp only [nrmT] at *; omega) | (simp at * <;> omega) | (simp_all <;> omega) | (simp_all; done)
            · simp only [marks_len]
            · simp only [marks_len]
              have := @cenL_len Open Dist k
              omega
          · intro b9
            try simp only [nrmT] at b9
            first | (exfalso; simp only [marks_len] at b9; omega) | (simp at b9; done) | (exfalso; simp only [marks_len] at b9; simp at b9; done) | omega | rfl | (intro hg; simp only [nrmT] at hg; omega) | (intro g1 g2; simp [g1, g2]; done) | (intro g1; simp at g1 ⊢; simp [g1]; done) | (simp only [nrmT] at *; omega) | (simp at * <;> omega) | (simp_all <;> omega) | (simp_all; done)
          · intro b10
            try simp only [nrmT] at b10
            refine ⟨?_, ?_⟩
            · intro b11
              try simp only [nrmT] at b11
              first | (exfalso; simp only [marks_len] at b11; omega) | (simp at b11; done) | (exfalso; simp only [marks_len] at b11; simp at b11; done) | omega | rfl | (intro hg; simp only [nrmT] at hg; omega) | (intro g1 g2; simp [g1, g2]; done) | (intro g1; simp at g1 ⊢; simp [g1]; done) | (simp only [nrmT] at *; omega) | (simp at * <;> omega) | (simp_all <;> omega) | (simp_all; done)
            · intro b12
              try simp only [nrmT] at b12
              refine ⟨?_, i_BestCentres_pc Open Dist k, rfl, rfl, l_eqIntS_pc (cenL Open Dist k) (cenL Open Dist k), id, id, rfl, fun _ => rfl, ?_, ?_, ?_⟩
              · refine l_toField_pc Open Dist ?_ ?_ ?_
                · have := szField_bound b2; omega
                · have := szField_bound b2; omega
                · have h := (szField_bound b2).2.2
                  intro xs hx
                  have h := h xs hx
                  omega
              · intro h; rw [h]; rfl
              · intro b13
                first | (exfalso; simp only [marks_len] at b13; omega) | (simp at b13; done) | (exfalso; simp only [marks_len] at b13; simp at b13; done) | omega | rfl | (intro hg; simp only [nrmT] at hg; omega) | (intro g1 g2; simp [g1, g2]; done) | (intro g1; simp at g1 ⊢; simp [g1]; done) | (simp only [nrmT] at *; omega) | (simp at * <;> omega) | (simp_all <;> omega) | (simp_all; done)
              · intro b14
                refine ⟨?_, ?_, ?_, ?_⟩
                · simp only [marks_len]
                · refine l_heldIntS_pc (marks 1 (cenL Open Dist k).length) 1 ?_ ?_ ?_
                  · first | omega | rfl | (intro hg; simp only [nrmT] at hg; omega) | (intro g1 g2; simp [g1, g2]; done) | (intro g1; simp at g1 ⊢; simp [g1]; done) | (simp only [nrmT] at *; omega) | (simp at * <;> omega) | (simp_all <;> omega) | (simp_all; done)
                  · simp only [marks_len]
                  · simp only [marks_len]
                    have := @cenL_len Open Dist k
                    omega
                · intro b15
                  try simp only [nrmT] at b15
                  first | (exfalso; simp only [marks_len] at b15; omega) | (simp at b15; done) | (exfalso; simp only [marks_len] at b15; simp at b15; done) | omega | rfl | (intro hg; simp only [nrmT] at hg; omega) | (intro g1 g2; simp [g1, g2]; done) | (intro g1; simp at g1 ⊢; simp [g1]; done) | (simp only [nrmT] at *; omega) | (simp at * <;> omega) | (simp_all <;> omega) | (simp_all; done)
                · intro b16
                  try simp only [nrmT] at b16
                  refine ⟨?_, ?_⟩
                  · intro b17
                    try simp only [nrmT] at b17
                    first | (exfalso; simp only [marks_len] at b17; omega) | (simp at b17; done) | (exfalso; simp only [marks_len] at b17; simp at b17; done) | omega | rfl | (intro hg; simp only [nrmT] at hg; omega) | (intro g1 g2; simp [g1, g2]; done) | (intro g1; simp at g1 ⊢; simp [g1]; done) | (simp only [nrmT] at *; omega) | (simp at * <;> omega) | (simp_all <;> omega) | (simp_all; done)
                  · intro b18
                    try simp only [nrmT] at b18
                    exact rfl
theorem l_FnExactBestCentres_pc (Open : List Int) (Dist : List (List Int)) (k : Int)  : PC Try.prog 18 [.agg [.sl (.ints Open), .sl (.rows Dist)], .int .i64 k] (.one (.d (.bool true))) :=
  pc_wf @Try.call18 fun hw => pc_by (by kernel_rfl) Try.func18 @Try.call18 (by kernel_rfl) l_FnExactBestCentres_C (l_FnExactBestCentres_A Open Dist k) (by kernel_rfl) (l_FnExactBestCentres_vc Open Dist k hw.1.1 hw.1.2.1.1 hw.1.2.1.2) (by kernel_rfl)
end Go.Proofs.Ytmmoejdglnnmcaa
