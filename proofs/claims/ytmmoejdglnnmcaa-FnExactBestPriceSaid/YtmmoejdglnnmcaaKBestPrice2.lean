/- Contracts of the functions that the law reaches. -/
import Derived.Test.YtmmoejdglnnmcaaKBestPrice1
import Derived.KernelRfl
set_option linter.unusedVariables false
set_option linter.unusedSimpArgs false
namespace Go.Proofs.Ytmmoejdglnnmcaa
open Go

def s_l4Best_P (Open : List Int) (Dist : List (List Int)) (k : Int) : Prop :=
  (PC Try.prog 98 [.int .i64 (Open.length : Int)] (.one (.d (.sl (.rows (setsL (Open.length : Int).toNat)))))) ∧ ((∃ best' : List Int, ∃ i' : Int, (s_l4Best_JJ0 Open Dist k best' i') ∧ (k = k) ∧ ((setsL (Open.length : Int).toNat) = (setsL (Open.length : Int).toNat)) ∧ ([] = best') ∧ ((0 : Int) = i') ∧ (Open = Open) ∧ (Dist = Dist)) ∧ (∀ best : List Int, ∀ i : Int, (s_l4Best_JJ0 Open Dist k best i) → (((decide (i < (((setsL (Open.length : Int).toNat).length) : Int))) = true → (true = true) ∧ ((0 : Int) ≤ i) ∧ ((i : Int) < (setsL (Open.length : Int).toNat).length) ∧ (i.toNat < (setsL (Open.length : Int).toNat).length) ∧ (((((setsL (Open.length : Int).toNat).getD i.toNat []).length : Int) == k) = true → ((((setsL (Open.length : Int).toNat).getD i.toNat []).length : Int) == k) = true) ∧ (((((setsL (Open.length : Int).toNat).getD i.toNat []).length : Int) == k) = true → ((((setsL (Open.length : Int).toNat).getD i.toNat []).length : Int) == k) = true) ∧ (((((setsL (Open.length : Int).toNat).getD i.toNat []).length : Int) == k) = true → ((((setsL (Open.length : Int).toNat).getD i.toNat []).length : Int) == k) = true) ∧ ((((((setsL (Open.length : Int).toNat).getD i.toNat []).length : Int) == k) && (!((best.length : Int) == 0))) = true → (((((setsL (Open.length : Int).toNat).getD i.toNat []).length : Int) == k) && (!((best.length : Int) == 0))) = true) ∧ ((((((setsL (Open.length : Int).toNat).getD i.toNat []).length : Int) == k) && (!((best.length : Int) == 0))) = true → (((((setsL (Open.length : Int).toNat).getD i.toNat []).length : Int) == k) && (!((best.length : Int) == 0))) = true) ∧ (((((((setsL (Open.length : Int).toNat).getD i.toNat []).length : Int) == k) && (!((best.length : Int) == 0))) = true → (0 : Int) ≤ i)) ∧ (((((((setsL (Open.length : Int).toNat).getD i.toNat []).length : Int) == k) && (!((best.length : Int) == 0))) = true → (i : Int) < (setsL (Open.length : Int).toNat).length)) ∧ ((((((setsL (Open.length : Int).toNat).getD i.toNat []).length : Int) == k) && (!((best.length : Int) == 0))) = true → (((((setsL (Open.length : Int).toNat).getD i.toNat []).length : Int) == k) && (!((best.length : Int) == 0))) = true) ∧ (((((((setsL (Open.length : Int).toNat).getD i.toNat []).length : Int) == k) && (!((best.length : Int) == 0))) = true → i.toNat < (setsL (Open.length : Int).toNat).length)) ∧ ((((((setsL (Open.length : Int).toNat).getD i.toNat []).length : Int) == k) && (!((best.length : Int) == 0))) = true → (((((setsL (Open.length : Int).toNat).getD i.toNat []).length : Int) == k) && (!((best.length : Int) == 0))) = true) ∧ ((((((setsL (Open.length : Int).toNat).getD i.toNat []).length : Int) == k) && (!((best.length : Int) == 0))) = true → (((((setsL (Open.length : Int).toNat).getD i.toNat []).length : Int) == k) && (!((best.length : Int) == 0))) = true) ∧ ((((((setsL (Open.length : Int).toNat).getD i.toNat []).length : Int) == k) && (!((best.length : Int) == 0))) = true → PC Try.prog 93 [.agg [.sl (.ints Open), .sl (.rows Dist)], .sl (.ints ((setsL (Open.length : Int).toNat).getD i.toNat []))] (.one (.d (.int .i64 (servOf Dist ((setsL (Open.length : Int).toNat).getD i.toNat [])))))) ∧ ((((((setsL (Open.length : Int).toNat).getD i.toNat []).length : Int) == k) && (!((best.length : Int) == 0))) = true → (((((setsL (Open.length : Int).toNat).getD i.toNat []).length : Int) == k) && (!((best.length : Int) == 0))) = true) ∧ ((((((setsL (Open.length : Int).toNat).getD i.toNat []).length : Int) == k) && (!((best.length : Int) == 0))) = true → (((((setsL (Open.length : Int).toNat).getD i.toNat []).length : Int) == k) && (!((best.length : Int) == 0))) = true) ∧ ((((((setsL (Open.length : Int).toNat).getD i.toNat []).length : Int) == k) && (!((best.length : Int) == 0))) = true → PC Try.prog 93 [.agg [.sl (.ints Open), .sl (.rows Dist)], .sl (.ints best)] (.one (.d (.int .i64 (servOf Dist best))))) ∧ ((((((setsL (Open.length : Int).toNat).getD i.toNat []).length : Int) == k) && (!((best.length : Int) == 0))) = true → (((((setsL (Open.length : Int).toNat).getD i.toNat []).length : Int) == k) && (!((best.length : Int) == 0))) = true) ∧ ((((((setsL (Open.length : Int).toNat).getD i.toNat []).length : Int) == k) && (!((best.length : Int) == 0))) = true → (((((setsL (Open.length : Int).toNat).getD i.toNat []).length : Int) == k) && (!((best.length : Int) == 0))) = true) ∧ ((((((setsL (Open.length : Int).toNat).getD i.toNat []).length : Int) == k) = true → ((((setsL (Open.length : Int).toNat).getD i.toNat []).length : Int) == k) = true)) ∧ ((((((setsL (Open.length : Int).toNat).getD i.toNat []).length : Int) == k) = true → ((best.length : Int) == 0) = true → true = true)) ∧ ((((((setsL (Open.length : Int).toNat).getD i.toNat []).length : Int) == k) = true → ((best.length : Int) == 0) = false → (((((setsL (Open.length : Int).toNat).getD i.toNat []).length : Int) == k) && (!((best.length : Int) == 0))) = true)) ∧ (true = true) ∧ ((((((setsL (Open.length : Int).toNat).getD i.toNat []).length : Int) == k) = true → ((((setsL (Open.length : Int).toNat).getD i.toNat []).length : Int) == k) = true)) ∧ ((((((setsL (Open.length : Int).toNat).getD i.toNat []).length : Int) == k) = false → true = true)) ∧ (((cond ((((setsL (Open.length : Int).toNat).getD i.toNat []).length : Int) == k) (cond ((best.length : Int) == 0) true (decide ((servOf Dist ((setsL (Open.length : Int).toNat).getD i.toNat [])) < (servOf Dist best)))) false) = true → ((0 : Int) ≤ i) ∧ ((i : Int) < (setsL (Open.length : Int).toNat).length) ∧ (i.toNat < (setsL (Open.length : Int).toNat).length) ∧ (-9223372036854775808 ≤ (i + 1) ∧ (i + 1) ≤ 9223372036854775807) ∧ (∃ best' : List Int, ∃ i' : Int, (s_l4Best_JJ0 Open Dist k best' i') ∧ (s_l4Best_mJ0 Open Dist k best' i' < s_l4Best_mJ0 Open Dist k best i) ∧ (k = k) ∧ ((setsL (Open.length : Int).toNat) = (setsL (Open.length : Int).toNat)) ∧ (((setsL (Open.length : Int).toNat).getD i.toNat []) = best') ∧ ((i + 1) = i') ∧ (Open = Open) ∧ (Dist = Dist))) ∧ ((cond ((((setsL (Open.length : Int).toNat).getD i.toNat []).length : Int) == k) (cond ((best.length : Int) == 0) true (decide ((servOf Dist ((setsL (Open.length : Int).toNat).getD i.toNat [])) < (servOf Dist best)))) false) = false → (-9223372036854775808 ≤ (i + 1) ∧ (i + 1) ≤ 9223372036854775807) ∧ (∃ best' : List Int, ∃ i' : Int, (s_l4Best_JJ0 Open Dist k best' i') ∧ (s_l4Best_mJ0 Open Dist k best' i' < s_l4Best_mJ0 Open Dist k best i) ∧ (k = k) ∧ ((setsL (Open.length : Int).toNat) = (setsL (Open.length : Int).toNat)) ∧ (best = best') ∧ ((i + 1) = i') ∧ (Open = Open) ∧ (Dist = Dist))))) ∧ ((decide (i < (((setsL (Open.length : Int).toNat).length) : Int))) = false → (((best : List Int) = (medS Open Dist k)))))))
theorem s_l4Best_vc (Open : List Int) (Dist : List (List Int)) (k : Int) (hg : goodField Open Dist = true) (hk : 1 ≤ k ∧ k ≤ (Open.length : Int)) (w_Open : (Open.length : Int) ≤ 9223372036854775807) (w_Dist : (Dist.length : Int) ≤ 9223372036854775807) (v_Dist : ∀ x9 ∈ Dist, (x9.length : Int) ≤ 9223372036854775807) : s_l4Best_P Open Dist k := by
  unfold s_l4Best_P
  obtain ⟨g1, g2, g3⟩ := gf_open hg
  have sl := sets_small (n := (Open.length : Int).toNat) (by omega)
  refine ⟨?_, ?_, ?_⟩
  · refine s_l2Sets_pc (Open.length : Int) ?_
    · omega
  · refine ⟨([]), 0, ?_⟩
    refine ⟨?_, rfl, rfl, ?_, rfl, rfl, rfl⟩
    · refine ⟨?_, ?_, ?_, ?_⟩
      · first | omega | rfl | (intro hg; simp only [nrmT] at hg; omega) | (intro g1 g2; simp [g1, g2]; done) | (intro g1; simp at g1 ⊢; simp [g1]; done) | (simp only [nrmT] at *; omega) | (simp at * <;> omega) | (simp_all <;> omega) | (simp_all; done)
      · first | omega | rfl | (intro hg; simp only [nrmT] at hg; omega) | (intro g1 g2; simp [g1, g2]; done) | (intro g1; simp at g1 ⊢; simp [g1]; done) | (simp only [nrmT] at *; omega) | (simp at * <;> omega) | (simp_all <;> omega) | (simp_all; done)
      · rfl
      · exact .inl rfl
    · first | omega | rfl | (intro hg; simp only [nrmT] at hg; omega) | (intro g1 g2; simp [g1, g2]; done) | (intro g1; simp at g1 ⊢; simp [g1]; done) | (simp only [nrmT] at *; omega) | (simp at * <;> omega) | (simp_all <;> omega) | (simp_all; done)
  · intro best i hJ
    obtain ⟨h1, h2, h3, h4⟩ := hJ
    refine ⟨?_, ?_⟩
    · intro b1
      try simp only [nrmT] at b1
      refine ⟨rfl, ?_, ?_, ?_, id, id, id, id, id, ?_, ?_, id, ?_, id, id, ?_, id, id, ?_, id, id, id, fun _ _ => rfl, ?_, rfl, id, fun _ => rfl, ?_, ?_⟩
      · first | omega | rfl | (intro hg; simp only [nrmT] at hg; omega) | (intro g1 g2; simp [g1, g2]; done) | (intro g1; simp at g1 ⊢; simp [g1]; done) | (simp only [nrmT] at *; omega) | (simp at * <;> omega) | (simp_all <;> omega) | (simp_all; done)
      · first | omega | rfl | (intro hg; simp only [nrmT] at hg; omega) | (intro g1 g2; simp [g1, g2]; done) | (intro g1; simp at g1 ⊢; simp [g1]; done) | (simp only [nrmT] at *; omega) | (simp at * <;> omega) | (simp_all <;> omega) | (simp_all; done)
      · first | omega | rfl | (intro hg; simp only [nrmT] at hg; omega) | (intro g1 g2; simp [g1, g2]; done) | (intro g1; simp at g1 ⊢; simp [g1]; done) | (simp only [nrmT] at *; omega) | (simp at * <;> omega) | (simp_all <;> omega) | (simp_all; done)
      · intro _; omega
      · intro _; omega
      · intro _; omega
      · intro hg
        refine s_l2Serve_pc Open Dist ((setsL (Open.length : Int).toNat).getD i.toNat []) ?_
        · exact (set_two (by assumption) (getD_memI (d := []) h1 (by omega : i < ((setsL (Open.length : Int).toNat).length : Int)))).1
      · intro hg
        refine s_l2Serve_pc Open Dist best ?_
        · rcases h4 with h5 | h5
          · exfalso
            rw [h5] at hg
            simp at hg
          · exact (set_two (by assumption) h5).1
      · intro q1 q2; rw [q1, q2]; rfl
      · intro b2
        refine ⟨?_, ?_, ?_, ?_, ?_⟩
        · first | omega | rfl | (intro hg; simp only [nrmT] at hg; omega) | (intro g1 g2; simp [g1, g2]; done) | (intro g1; simp at g1 ⊢; simp [g1]; done) | (simp only [nrmT] at *; omega) | (simp at * <;> omega) | (simp_all <;> omega) | (simp_all; done)
        · first | omega | rfl | (intro hg; simp only [nrmT] at hg; omega) | (intro g1 g2; simp [g1, g2]; done) | (intro g1; simp at g1 ⊢; simp [g1]; done) | (simp only [nrmT] at *; omega) | (simp at * <;> omega) | (simp_all <;> omega) | (simp_all; done)
        · first | omega | rfl | (intro hg; simp only [nrmT] at hg; omega) | (intro g1 g2; simp [g1, g2]; done) | (intro g1; simp at g1 ⊢; simp [g1]; done) | (simp only [nrmT] at *; omega) | (simp at * <;> omega) | (simp_all <;> omega) | (simp_all; done)
        · first | omega | rfl | (intro hg; simp only [nrmT] at hg; omega) | (intro g1 g2; simp [g1, g2]; done) | (intro g1; simp at g1 ⊢; simp [g1]; done) | (simp only [nrmT] at *; omega) | (simp at * <;> omega) | (simp_all <;> omega) | (simp_all; done)
        · refine ⟨((setsL (Open.length : Int).toNat).getD i.toNat []), (i + 1), ?_⟩
          refine ⟨?_, ?_, rfl, rfl, rfl, rfl, rfl, rfl⟩
          · refine ⟨?_, ?_, ?_, ?_⟩
            · first | omega | rfl | (intro hg; simp only [nrmT] at hg; omega) | (intro g1 g2; simp [g1, g2]; done) | (intro g1; simp at g1 ⊢; simp [g1]; done) | (simp only [nrmT] at *; omega) | (simp at * <;> omega) | (simp_all <;> omega) | (simp_all; done)
            · first | omega | rfl | (intro hg; simp only [nrmT] at hg; omega) | (intro g1 g2; simp [g1, g2]; done) | (intro g1; simp at g1 ⊢; simp [g1]; done) | (simp only [nrmT] at *; omega) | (simp at * <;> omega) | (simp_all <;> omega) | (simp_all; done)
            · rw [fold_snoc (d := []) h1 (by omega), ← h3]; unfold bsB; rw [if_pos b2]
            · exact .inr (getD_memI (d := []) h1 (by omega : i < ((setsL (Open.length : Int).toNat).length : Int)))
          · first | (show _ < _; omega) | (simp only [s_l4Best_mJ0]; omega) | (simp only [s_l4Best_mJ0] at *; simp at *; omega)
      · intro b3
        refine ⟨?_, ?_⟩
        · first | omega | rfl | (intro hg; simp only [nrmT] at hg; omega) | (intro g1 g2; simp [g1, g2]; done) | (intro g1; simp at g1 ⊢; simp [g1]; done) | (simp only [nrmT] at *; omega) | (simp at * <;> omega) | (simp_all <;> omega) | (simp_all; done)
        · refine ⟨best, (i + 1), ?_⟩
          refine ⟨?_, ?_, rfl, rfl, rfl, rfl, rfl, rfl⟩
          · refine ⟨?_, ?_, ?_, ?_⟩
            · first | omega | rfl | (intro hg; simp only [nrmT] at hg; omega) | (intro g1 g2; simp [g1, g2]; done) | (intro g1; simp at g1 ⊢; simp [g1]; done) | (simp only [nrmT] at *; omega) | (simp at * <;> omega) | (simp_all <;> omega) | (simp_all; done)
            · first | omega | rfl | (intro hg; simp only [nrmT] at hg; omega) | (intro g1 g2; simp [g1, g2]; done) | (intro g1; simp at g1 ⊢; simp [g1]; done) | (simp only [nrmT] at *; omega) | (simp at * <;> omega) | (simp_all <;> omega) | (simp_all; done)
            · rw [fold_snoc (d := []) h1 (by omega), ← h3]; unfold bsB; rw [if_neg (by rw [b3]; simp)]
            · exact h4
          · first | (show _ < _; omega) | (simp only [s_l4Best_mJ0]; omega) | (simp only [s_l4Best_mJ0] at *; simp at *; omega)
    · intro b4
      try simp only [nrmT] at b4
      rw [h3, take_all (by omega)]
      exact bestL_eq hk.1 _
theorem s_l4Best_pc (Open : List Int) (Dist : List (List Int)) (k : Int) (hg : goodField Open Dist = true) (hk : 1 ≤ k ∧ k ≤ (Open.length : Int)) : PC Try.prog 94 [.agg [.sl (.ints Open), .sl (.rows Dist)], .int .i64 k] (.one (.d (.sl (.ints (medS Open Dist k))))) :=
  pc_wf @Try.call94 fun hw => pc_by (by kernel_rfl) Try.func94 @Try.call94 (by kernel_rfl) s_l4Best_C (s_l4Best_A Open Dist k) (by kernel_rfl) (s_l4Best_vc Open Dist k hg hk hw.1.1 hw.1.2.1.1 hw.1.2.1.2) (by kernel_rfl)
def s_l4Best_orc : List D → Orc := orcN [none, none] fun ds => match ds with
  | [.agg [.sl (.ints Open), .sl (.rows Dist)], .int .i64 k] => some (.one (.d (.sl (.ints (medS Open Dist k)))))
  | _ => none
def valsL (Open : List Int) (Dist : List (List Int)) (n : Nat) : List Int := tabTo (fun j => servOf Dist (medS Open Dist ((j : Int) + 1))) n
theorem valsL_len (Open : List Int) (Dist : List (List Int)) (n : Nat) : (valsL Open Dist n).length = n := tabTo_len _ _
theorem medS_two {Open : List Int} {Dist : List (List Int)} (hg : goodField Open Dist = true) {k : Int} (hk : 1 ≤ k ∧ k ≤ (Open.length : Int)) : (goodField Open Dist && rising (medS Open Dist k) 0 ((Open.length : Int) - 1) && decide (0 < (medS Open Dist k).length)) = true := (set_two hg (medS_in hk)).1
theorem valsL_in {Open : List Int} {Dist : List (List Int)} (hg : goodField Open Dist = true) : ∀ x ∈ valsL Open Dist Open.length, 0 ≤ x ∧ x ≤ 693 := by
  intro x hx
  obtain ⟨j, hj, rfl⟩ := List.mem_map.1 hx
  have hj := List.mem_range.1 hj
  exact servOf_in (medS_two hg (by omega))
def mnTo (f : Nat → Int) (n : Nat) : Int := foldTo (fun b i => min b (f i)) (f 0) n
theorem mnTo_succ (f : Nat → Int) (n : Nat) : mnTo f (n + 1) = min (mnTo f n) (f n) := rfl
theorem mnTo_one (f : Nat → Int) : mnTo f 1 = f 0 := by
  show min (f 0) (f 0) = f 0
  omega
theorem mulB {p q m n : Int} (hp : 0 ≤ p ∧ p ≤ m) (hq : 0 ≤ q ∧ q ≤ n) : 0 ≤ p * q ∧ p * q ≤ m * n :=
  ⟨Int.mul_nonneg hp.1 hq.1, Int.mul_le_mul hp.2 hq.2 hq.1 (by omega)⟩
def prF (values : List Int) (price : Int) (i : Nat) : Int := values.getD i 0 + price * ((i : Int) + 1)
def prcd (values : List Int) (k price : Int) : Int := mnTo (prF values price) values.length - price * k
def bpF (V : List Int) (k : Int) (b : Int) (p : Nat) : Int := if prcd V k (p : Int) > prcd V k b then (p : Int) else b
def bpTo (V : List Int) (k : Int) (m : Nat) : Int := foldTo (bpF V k) 0 m
theorem bpTo_succ (V : List Int) (k : Int) (m : Nat) : bpTo V k (m + 1) = bpF V k (bpTo V k m) m := rfl
theorem bpTo_one (V : List Int) (k : Int) : bpTo V k 1 = 0 := by
  show bpF V k 0 0 = 0
  unfold bpF; split <;> rfl
def bpA (Open : List Int) (Dist : List (List Int)) (k : Int) : Int := if (goodField Open Dist && inB k 1 (Open.length : Int)) = true then bpTo (valsL Open Dist Open.length) k 1000 else 0
def bpB (Open : List Int) (Dist : List (List Int)) (k : Int) : Int := if (goodField Open Dist && inB k 1 (Open.length : Int)) = true then prcd (valsL Open Dist Open.length) k (bpTo (valsL Open Dist Open.length) k 1000) else 0
abbrev i_Field_values_JJ0 (Open : List Int) (Dist : List (List Int)) (out : List Int) (i : Int) : Prop := (0 ≤ i) ∧ (i ≤ (Open.length : Int)) ∧ (out = valsL Open Dist i.toNat)
abbrev i_Field_values_mJ0 (Open : List Int) (Dist : List (List Int)) (out : List Int) (i : Int) : Nat := (Open.length - i).toNat
def i_Field_values_C (f : FuncId) (ds : List D) : Orc := bif Nat.beq f 97 then i_Field_median_orc ds else bif Nat.beq f 96 then i_Field_service_orc ds else .no
def i_Field_values_A (Open : List Int) (Dist : List (List Int)) : Ann := .two (.none) (.two (.none) (.two (.two (.none) (.loop (cut2 (fun (out : List Int) (i : Int) => i_Field_values_JJ0 Open Dist out i) (fun (out : List Int) (i : Int) => [(1, .ptr 1 0), (3, .own 1000000 out.length), (8, .d true (.int .i64 (Open.length : Int))), (9, .d true (.int .i64 i))]) (fun (out : List Int) (i : Int) => [(1000000, .arr true 3 (.ints out)), (1, .box 37 [.d false (.sl (.ints Open)), .d false (.sl (.rows Dist))])])) (fun g => i_Field_values_mJ0 Open Dist g.1 g.2) (fun _ => .none))) (.none)))
def i_Field_values_P (Open : List Int) (Dist : List (List Int)) : Prop :=
  ((∃ out' : List Int, ∃ i' : Int, (i_Field_values_JJ0 Open Dist out' i') ∧ ((0 : Nat) = out'.length) ∧ ((Open.length : Int) = (Open.length : Int)) ∧ ((0 : Int) = i') ∧ ([] = out') ∧ (Open = Open) ∧ (Dist = Dist)) ∧ (∀ out : List Int, ∀ i : Int, (i_Field_values_JJ0 Open Dist out i) → (((decide (i < (Open.length : Int))) = true → (true = true) ∧ (-9223372036854775808 ≤ (i + 1) ∧ (i + 1) ≤ 9223372036854775807) ∧ (PC Try.prog 97 [.agg [.sl (.ints Open), .sl (.rows Dist)], .int .i64 (i + 1)] (.one (.d (.sl (.ints (medS Open Dist (i + 1))))))) ∧ (PC Try.prog 96 [.agg [.sl (.ints Open), .sl (.rows Dist)], .sl (.ints (medS Open Dist (i + 1)))] (.one (.d (.int .i64 (servOf Dist (medS Open Dist (i + 1))))))) ∧ (out.length = out.length) ∧ ((1 : Nat) = 1) ∧ ((out.length + 1) * 8 ≤ 140737488355328) ∧ (-9223372036854775808 ≤ (i + 1) ∧ (i + 1) ≤ 9223372036854775807) ∧ (∃ out' : List Int, ∃ i' : Int, (i_Field_values_JJ0 Open Dist out' i') ∧ (i_Field_values_mJ0 Open Dist out' i' < i_Field_values_mJ0 Open Dist out i) ∧ ((out.length + 1) = out'.length) ∧ ((Open.length : Int) = (Open.length : Int)) ∧ ((i + 1) = i') ∧ ((out ++ [(servOf Dist (medS Open Dist (i + 1)))]) = out') ∧ (Open = Open) ∧ (Dist = Dist))) ∧ ((decide (i < (Open.length : Int))) = false → ((out.length = out.length) ∧ ((out : List Int) = valsL Open Dist Open.length))))))
theorem i_Field_values_vc (Open : List Int) (Dist : List (List Int)) (hg : goodField Open Dist = true) (w_Open : (Open.length : Int) ≤ 9223372036854775807) (w_Dist : (Dist.length : Int) ≤ 9223372036854775807) (v_Dist : ∀ x9 ∈ Dist, (x9.length : Int) ≤ 9223372036854775807) : i_Field_values_P Open Dist := by
  unfold i_Field_values_P
  obtain ⟨g1, g2, g3⟩ := gf_open hg
  refine ⟨?_, ?_⟩
  · refine ⟨([]), 0, ?_⟩
    refine ⟨?_, rfl, rfl, rfl, ?_, rfl, rfl⟩
    · refine ⟨?_, ?_, ?_⟩
      · first | omega | rfl | (intro hg; simp only [nrmT] at hg; omega) | (intro g1 g2; simp [g1, g2]; done) | (intro g1; simp at g1 ⊢; simp [g1]; done) | (simp only [nrmT] at *; omega) | (simp at * <;> omega) | (simp_all <;> omega) | (simp_all; done)
      · first | omega | rfl | (intro hg; simp only [nrmT] at hg; omega) | (intro g1 g2; simp [g1, g2]; done) | (intro g1; simp at g1 ⊢; simp [g1]; done) | (simp only [nrmT] at *; omega) | (simp at * <;> omega) | (simp_all <;> omega) | (simp_all; done)
      · first | omega | rfl | (intro hg; simp only [nrmT] at hg; omega) | (intro g1 g2; simp [g1, g2]; done) | (intro g1; simp at g1 ⊢; simp [g1]; done) | (simp only [nrmT] at *; omega) | (simp at * <;> omega) | (simp_all <;> omega) | (simp_all; done)
    · first | omega | rfl | (intro hg; simp only [nrmT] at hg; omega) | (intro g1 g2; simp [g1, g2]; done) | (intro g1; simp at g1 ⊢; simp [g1]; done) | (simp only [nrmT] at *; omega) | (simp at * <;> omega) | (simp_all <;> omega) | (simp_all; done)
  · intro out i hJ
    obtain ⟨h1, h2, h3⟩ := hJ
    refine ⟨?_, ?_⟩
    · intro b1
      try simp only [nrmT] at b1
      refine ⟨rfl, ?_, ?_, ?_, rfl, rfl, ?_, ?_, ?_⟩
      · first | omega | rfl | (intro hg; simp only [nrmT] at hg; omega) | (intro g1 g2; simp [g1, g2]; done) | (intro g1; simp at g1 ⊢; simp [g1]; done) | (simp only [nrmT] at *; omega) | (simp at * <;> omega) | (simp_all <;> omega) | (simp_all; done)
      · refine i_Field_median_pc Open Dist (i + 1) ?_ ?_
        · first | omega | rfl | (intro hg; simp only [nrmT] at hg; omega) | (intro g1 g2; simp [g1, g2]; done) | (intro g1; simp at g1 ⊢; simp [g1]; done) | (simp only [nrmT] at *; omega) | (simp at * <;> omega) | (simp_all <;> omega) | (simp_all; done)
        · omega
      · refine i_Field_service_pc Open Dist (medS Open Dist (i + 1)) ?_
        · exact medS_two hg (by omega)
      · rw [h3, valsL_len]; omega
      · first | omega | rfl | (intro hg; simp only [nrmT] at hg; omega) | (intro g1 g2; simp [g1, g2]; done) | (intro g1; simp at g1 ⊢; simp [g1]; done) | (simp only [nrmT] at *; omega) | (simp at * <;> omega) | (simp_all <;> omega) | (simp_all; done)
      · refine ⟨(out ++ [(servOf Dist (medS Open Dist (i + 1)))]), (i + 1), ?_⟩
        refine ⟨?_, ?_, ?_, rfl, rfl, rfl, rfl, rfl⟩
        · refine ⟨?_, ?_, ?_⟩
          · first | omega | rfl | (intro hg; simp only [nrmT] at hg; omega) | (intro g1 g2; simp [g1, g2]; done) | (intro g1; simp at g1 ⊢; simp [g1]; done) | (simp only [nrmT] at *; omega) | (simp at * <;> omega) | (simp_all <;> omega) | (simp_all; done)
          · first | omega | rfl | (intro hg; simp only [nrmT] at hg; omega) | (intro g1 g2; simp [g1, g2]; done) | (intro g1; simp at g1 ⊢; simp [g1]; done) | (simp only [nrmT] at *; omega) | (simp at * <;> omega) | (simp_all <;> omega) | (simp_all; done)
          · rw [h3, show (i + 1).toNat = i.toNat + 1 by omega]
            unfold valsL
            rw [tabTo_succ, show ((i.toNat : Nat) : Int) + 1 = i + 1 by omega]
        · first | (show _ < _; omega) | (simp only [i_Field_values_mJ0]; omega) | (simp only [i_Field_values_mJ0] at *; simp at *; omega)
        · first | omega | rfl | (intro hg; simp only [nrmT] at hg; omega) | (intro g1 g2; simp [g1, g2]; done) | (intro g1; simp at g1 ⊢; simp [g1]; done) | (simp only [nrmT] at *; omega) | (simp at * <;> omega) | (simp_all <;> omega) | (simp_all; done)
    · intro b2
      try simp only [nrmT] at b2
      refine ⟨rfl, ?_⟩
      · rw [h3, show i.toNat = Open.length by omega]
theorem i_Field_values_pc (Open : List Int) (Dist : List (List Int)) (hg : goodField Open Dist = true) : PC Try.prog 106 [.agg [.sl (.ints Open), .sl (.rows Dist)]] (.one (.own 3 (.ints (valsL Open Dist Open.length)))) :=
  pc_wf @Try.call106 fun hw => pc_by (by kernel_rfl) Try.func106 @Try.call106 (by kernel_rfl) i_Field_values_C (i_Field_values_A Open Dist) (by kernel_rfl) (i_Field_values_vc Open Dist hg hw.1.1 hw.1.2.1.1 hw.1.2.1.2) (by kernel_rfl)
def i_Field_values_orc : List D → Orc := orcN [none] fun ds => match ds with
  | [.agg [.sl (.ints Open), .sl (.rows Dist)]] => some (.one (.own 3 (.ints (valsL Open Dist Open.length))))
  | _ => none
abbrev s_l4Values_JJ0 (Open : List Int) (Dist : List (List Int)) (out : List Int) (k : Int) : Prop := (1 ≤ k) ∧ (k ≤ (Open.length : Int) + 1) ∧ (out = valsL Open Dist (k.toNat - 1))
abbrev s_l4Values_mJ0 (Open : List Int) (Dist : List (List Int)) (out : List Int) (k : Int) : Nat := (Open.length + 1 - k).toNat
def s_l4Values_C (f : FuncId) (ds : List D) : Orc := bif Nat.beq f 94 then s_l4Best_orc ds else bif Nat.beq f 93 then s_l2Serve_orc ds else .no
def s_l4Values_A (Open : List Int) (Dist : List (List Int)) : Ann := .two (.none) (.two (.none) (.two (.two (.none) (.loop (cut2 (fun (out : List Int) (k : Int) => s_l4Values_JJ0 Open Dist out k) (fun (out : List Int) (k : Int) => [(1, .ptr 1 0), (3, .own 1000000 out.length), (4, .d true (.int .i64 k))]) (fun (out : List Int) (k : Int) => [(1000000, .arr true 3 (.ints out)), (1, .box 37 [.d false (.sl (.ints Open)), .d false (.sl (.rows Dist))])])) (fun g => s_l4Values_mJ0 Open Dist g.1 g.2) (fun _ => .none))) (.none)))
def s_l4Values_P (Open : List Int) (Dist : List (List Int)) : Prop :=
  ((∃ out' : List Int, ∃ k' : Int, (s_l4Values_JJ0 Open Dist out' k') ∧ ((0 : Nat) = out'.length) ∧ ((1 : Int) = k') ∧ ([] = out') ∧ (Open = Open) ∧ (Dist = Dist)) ∧ (∀ out : List Int, ∀ k : Int, (s_l4Values_JJ0 Open Dist out k) → (((decide (k ≤ (Open.length : Int))) = true → (true = true) ∧ (PC Try.prog 94 [.agg [.sl (.ints Open), .sl (.rows Dist)], .int .i64 k] (.one (.d (.sl (.ints (medS Open Dist k)))))) ∧ (PC Try.prog 93 [.agg [.sl (.ints Open), .sl (.rows Dist)], .sl (.ints (medS Open Dist k))] (.one (.d (.int .i64 (servOf Dist (medS Open Dist k)))))) ∧ (out.length = out.length) ∧ ((1 : Nat) = 1) ∧ ((out.length + 1) * 8 ≤ 140737488355328) ∧ (-9223372036854775808 ≤ (k + 1) ∧ (k + 1) ≤ 9223372036854775807) ∧ (∃ out' : List Int, ∃ k' : Int, (s_l4Values_JJ0 Open Dist out' k') ∧ (s_l4Values_mJ0 Open Dist out' k' < s_l4Values_mJ0 Open Dist out k) ∧ ((out.length + 1) = out'.length) ∧ ((k + 1) = k') ∧ ((out ++ [(servOf Dist (medS Open Dist k))]) = out') ∧ (Open = Open) ∧ (Dist = Dist))) ∧ ((decide (k ≤ (Open.length : Int))) = false → ((out.length = out.length) ∧ ((out : List Int) = valsL Open Dist Open.length))))))
theorem s_l4Values_vc (Open : List Int) (Dist : List (List Int)) (hg : goodField Open Dist = true) (w_Open : (Open.length : Int) ≤ 9223372036854775807) (w_Dist : (Dist.length : Int) ≤ 9223372036854775807) (v_Dist : ∀ x9 ∈ Dist, (x9.length : Int) ≤ 9223372036854775807) : s_l4Values_P Open Dist := by
  unfold s_l4Values_P
  obtain ⟨g1, g2, g3⟩ := gf_open hg
  refine ⟨?_, ?_⟩
  · refine ⟨([]), 1, ?_⟩
    refine ⟨?_, rfl, rfl, ?_, rfl, rfl⟩
    · refine ⟨?_, ?_, ?_⟩
      · first | omega | rfl | (intro hg; simp only [nrmT] at hg; omega) | (intro g1 g2; simp [g1, g2]; done) | (intro g1; simp at g1 ⊢; simp [g1]; done) | (simp only [nrmT] at *; omega) | (simp at * <;> omega) | (simp_all <;> omega) | (simp_all; done)
      · first | omega | rfl | (intro hg; simp only [nrmT] at hg; omega) | (intro g1 g2; simp [g1, g2]; done) | (intro g1; simp at g1 ⊢; simp [g1]; done) | (simp only [nrmT] at *; omega) | (simp at * <;> omega) | (simp_all <;> omega) | (simp_all; done)
      · rfl
    · first | omega | rfl | (intro hg; simp only [nrmT] at hg; omega) | (intro g1 g2; simp [g1, g2]; done) | (intro g1; simp at g1 ⊢; simp [g1]; done) | (simp only [nrmT] at *; omega) | (simp at * <;> omega) | (simp_all <;> omega) | (simp_all; done)
  · intro out k hJ
    obtain ⟨h1, h2, h3⟩ := hJ
    refine ⟨?_, ?_⟩
    · intro b1
      try simp only [nrmT] at b1
      refine ⟨rfl, ?_, ?_, rfl, rfl, ?_, ?_, ?_⟩
      · refine s_l4Best_pc Open Dist k ?_ ?_
        · first | omega | rfl | (intro hg; simp only [nrmT] at hg; omega) | (intro g1 g2; simp [g1, g2]; done) | (intro g1; simp at g1 ⊢; simp [g1]; done) | (simp only [nrmT] at *; omega) | (simp at * <;> omega) | (simp_all <;> omega) | (simp_all; done)
        · omega
      · refine s_l2Serve_pc Open Dist (medS Open Dist k) ?_
        · exact medS_two hg (by omega)
      · rw [h3, valsL_len]; omega
      · first | omega | rfl | (intro hg; simp only [nrmT] at hg; omega) | (intro g1 g2; simp [g1, g2]; done) | (intro g1; simp at g1 ⊢; simp [g1]; done) | (simp only [nrmT] at *; omega) | (simp at * <;> omega) | (simp_all <;> omega) | (simp_all; done)
      · refine ⟨(out ++ [(servOf Dist (medS Open Dist k))]), (k + 1), ?_⟩
        refine ⟨?_, ?_, ?_, rfl, rfl, rfl, rfl⟩
        · refine ⟨?_, ?_, ?_⟩
          · first | omega | rfl | (intro hg; simp only [nrmT] at hg; omega) | (intro g1 g2; simp [g1, g2]; done) | (intro g1; simp at g1 ⊢; simp [g1]; done) | (simp only [nrmT] at *; omega) | (simp at * <;> omega) | (simp_all <;> omega) | (simp_all; done)
          · first | omega | rfl | (intro hg; simp only [nrmT] at hg; omega) | (intro g1 g2; simp [g1, g2]; done) | (intro g1; simp at g1 ⊢; simp [g1]; done) | (simp only [nrmT] at *; omega) | (simp at * <;> omega) | (simp_all <;> omega) | (simp_all; done)
          · rw [h3, show (k + 1).toNat - 1 = (k.toNat - 1) + 1 by omega]
            unfold valsL
            rw [tabTo_succ, show ((k.toNat - 1 : Nat) : Int) + 1 = k by omega]
        · first | (show _ < _; omega) | (simp only [s_l4Values_mJ0]; omega) | (simp only [s_l4Values_mJ0] at *; simp at *; omega)
        · first | omega | rfl | (intro hg; simp only [nrmT] at hg; omega) | (intro g1 g2; simp [g1, g2]; done) | (intro g1; simp at g1 ⊢; simp [g1]; done) | (simp only [nrmT] at *; omega) | (simp at * <;> omega) | (simp_all <;> omega) | (simp_all; done)
    · intro b2
      try simp only [nrmT] at b2
      refine ⟨rfl, ?_⟩
      · rw [h3, show k.toNat - 1 = Open.length by omega]
theorem s_l4Values_pc (Open : List Int) (Dist : List (List Int)) (hg : goodField Open Dist = true) : PC Try.prog 115 [.agg [.sl (.ints Open), .sl (.rows Dist)]] (.one (.own 3 (.ints (valsL Open Dist Open.length)))) :=
  pc_wf @Try.call115 fun hw => pc_by (by kernel_rfl) Try.func115 @Try.call115 (by kernel_rfl) s_l4Values_C (s_l4Values_A Open Dist) (by kernel_rfl) (s_l4Values_vc Open Dist hg hw.1.1 hw.1.2.1.1 hw.1.2.1.2) (by kernel_rfl)
def s_l4Values_orc : List D → Orc := orcN [none] fun ds => match ds with
  | [.agg [.sl (.ints Open), .sl (.rows Dist)]] => some (.one (.own 3 (.ints (valsL Open Dist Open.length))))
  | _ => none
abbrev s_l4Priced_JJ0 (values : List Int) (k : Int) (price : Int) (best : Int) (i : Int) : Prop := (1 ≤ i) ∧ (i ≤ (values.length : Int)) ∧ (best = mnTo (prF values price) i.toNat) ∧ (0 ≤ best ∧ best ≤ 1692)
abbrev s_l4Priced_mJ0 (values : List Int) (k : Int) (price : Int) (best : Int) (i : Int) : Nat := (values.length - i).toNat
def s_l4Priced_C (f : FuncId) (ds : List D) : Orc := bif Nat.beq f 163 then s_l1Least_orc ds else .no
def s_l4Priced_A (values : List Int) (k : Int) (price : Int) : Ann := .two (.none) (.two (.none) (.two (.two (.none) (.loop (cut2 (fun (best : Int) (i : Int) => s_l4Priced_JJ0 values k price best i) (fun (best : Int) (i : Int) => [(0, .d false (.sl (.ints values))), (1, .d false (.int .i64 k)), (2, .d false (.int .i64 price)), (7, .d true (.int .i64 best)), (8, .d true (.int .i64 i))]) (fun (best : Int) (i : Int) => [])) (fun g => s_l4Priced_mJ0 values k price g.1 g.2) (fun _ => .none))) (.none)))
def s_l4Priced_P (values : List Int) (k : Int) (price : Int) : Prop :=
  ((0 : Int) ≤ 0) ∧ ((0 : Int) < values.length) ∧ (0 < values.length) ∧ (-9223372036854775808 ≤ ((values.getD 0 0) + price) ∧ ((values.getD 0 0) + price) ≤ 9223372036854775807) ∧ ((∃ best' : Int, ∃ i' : Int, (s_l4Priced_JJ0 values k price best' i') ∧ (values = values) ∧ (k = k) ∧ (price = price) ∧ (((values.getD 0 0) + price) = best') ∧ ((1 : Int) = i')) ∧ (∀ best : Int, ∀ i : Int, (s_l4Priced_JJ0 values k price best i) → (((decide (i < (values.length : Int))) = true → ((0 : Int) ≤ i) ∧ ((i : Int) < values.length) ∧ (i.toNat < values.length) ∧ (-9223372036854775808 ≤ (i + 1) ∧ (i + 1) ≤ 9223372036854775807) ∧ (-9223372036854775808 ≤ (price * (i + 1)) ∧ (price * (i + 1)) ≤ 9223372036854775807) ∧ (-9223372036854775808 ≤ ((values.getD i.toNat 0) + (price * (i + 1))) ∧ ((values.getD i.toNat 0) + (price * (i + 1))) ≤ 9223372036854775807) ∧ (PC Try.prog 163 [.int .i64 best, .int .i64 ((values.getD i.toNat 0) + (price * (i + 1)))] (.one (.d (.int .i64 (min best ((values.getD i.toNat 0) + (price * (i + 1)))))))) ∧ (-9223372036854775808 ≤ (i + 1) ∧ (i + 1) ≤ 9223372036854775807) ∧ (∃ best' : Int, ∃ i' : Int, (s_l4Priced_JJ0 values k price best' i') ∧ (s_l4Priced_mJ0 values k price best' i' < s_l4Priced_mJ0 values k price best i) ∧ (values = values) ∧ (k = k) ∧ (price = price) ∧ ((min best ((values.getD i.toNat 0) + (price * (i + 1)))) = best') ∧ ((i + 1) = i'))) ∧ ((decide (i < (values.length : Int))) = false → (-9223372036854775808 ≤ (price * k) ∧ (price * k) ≤ 9223372036854775807) ∧ (-9223372036854775808 ≤ (best - (price * k)) ∧ (best - (price * k)) ≤ 9223372036854775807) ∧ (((best - (price * k)) = (prcd values k price)))))))
theorem s_l4Priced_vc (values : List Int) (k : Int) (price : Int) (hv : ∀ x ∈ values, 0 ≤ x ∧ x ≤ 693) (hl : 0 < values.length ∧ values.length ≤ 7) (hk : 0 ≤ k ∧ k ≤ 7) (hp : 0 ≤ price ∧ price ≤ 999) (w_values : (values.length : Int) ≤ 9223372036854775807) : s_l4Priced_P values k price := by
  unfold s_l4Priced_P
  refine ⟨?_, ?_, ?_, ?_, ?_, ?_⟩
  · first | omega | rfl | (intro hg; simp only [nrmT] at hg; omega) | (intro g1 g2; simp [g1, g2]; done) | (intro g1; simp at g1 ⊢; simp [g1]; done) | (simp only [nrmT] at *; omega) | (simp at * <;> omega) | (simp_all <;> omega) | (simp_all; done)
  · first | omega | rfl | (intro hg; simp only [nrmT] at hg; omega) | (intro g1 g2; simp [g1, g2]; done) | (intro g1; simp at g1 ⊢; simp [g1]; done) | (simp only [nrmT] at *; omega) | (simp at * <;> omega) | (simp_all <;> omega) | (simp_all; done)
  · first | omega | rfl | (intro hg; simp only [nrmT] at hg; omega) | (intro g1 g2; simp [g1, g2]; done) | (intro g1; simp at g1 ⊢; simp [g1]; done) | (simp only [nrmT] at *; omega) | (simp at * <;> omega) | (simp_all <;> omega) | (simp_all; done)
  · have v0 := hv _ (getD_mem (d := 0) hl.1)
    omega
  · refine ⟨((values.getD 0 0) + price), 1, ?_⟩
    refine ⟨?_, rfl, rfl, rfl, rfl, rfl⟩
    · refine ⟨?_, ?_, ?_, ?_⟩
      · first | omega | rfl | (intro hg; simp only [nrmT] at hg; omega) | (intro g1 g2; simp [g1, g2]; done) | (intro g1; simp at g1 ⊢; simp [g1]; done) | (simp only [nrmT] at *; omega) | (simp at * <;> omega) | (simp_all <;> omega) | (simp_all; done)
      · first | omega | rfl | (intro hg; simp only [nrmT] at hg; omega) | (intro g1 g2; simp [g1, g2]; done) | (intro g1; simp at g1 ⊢; simp [g1]; done) | (simp only [nrmT] at *; omega) | (simp at * <;> omega) | (simp_all <;> omega) | (simp_all; done)
      · first | (rw [show (1 : Int).toNat = 1 from rfl, mnTo_one]; unfold prF; omega) | (show _ = prF values price 0; unfold prF; omega)
      · have v0 := hv _ (getD_mem (d := 0) hl.1)
        omega
  · intro best i hJ
    obtain ⟨h1, h2, h3, h4⟩ := hJ
    refine ⟨?_, ?_⟩
    · intro b1
      try simp only [nrmT] at b1
      refine ⟨?_, ?_, ?_, ?_, ?_, ?_, s_l1Least_pc best ((values.getD i.toNat 0) + (price * (i + 1))), ?_, ?_⟩
      · first | omega | rfl | (intro hg; simp only [nrmT] at hg; omega) | (intro g1 g2; simp [g1, g2]; done) | (intro g1; simp at g1 ⊢; simp [g1]; done) | (simp only [nrmT] at *; omega) | (simp at * <;> omega) | (simp_all <;> omega) | (simp_all; done)
      · first | omega | rfl | (intro hg; simp only [nrmT] at hg; omega) | (intro g1 g2; simp [g1, g2]; done) | (intro g1; simp at g1 ⊢; simp [g1]; done) | (simp only [nrmT] at *; omega) | (simp at * <;> omega) | (simp_all <;> omega) | (simp_all; done)
      · first | omega | rfl | (intro hg; simp only [nrmT] at hg; omega) | (intro g1 g2; simp [g1, g2]; done) | (intro g1; simp at g1 ⊢; simp [g1]; done) | (simp only [nrmT] at *; omega) | (simp at * <;> omega) | (simp_all <;> omega) | (simp_all; done)
      · first | omega | rfl | (intro hg; simp only [nrmT] at hg; omega) | (intro g1 g2; simp [g1, g2]; done) | (intro g1; simp at g1 ⊢; simp [g1]; done) | (simp only [nrmT] at *; omega) | (simp at * <;> omega) | (simp_all <;> omega) | (simp_all; done)
      · have v1 := hv _ (getD_mem (d := 0) (show i.toNat < values.length by omega))
        have v2 := mulB hp (q := i + 1) (n := 7) (by omega)
        omega
      · have v1 := hv _ (getD_mem (d := 0) (show i.toNat < values.length by omega))
        have v2 := mulB hp (q := i + 1) (n := 7) (by omega)
        omega
      · first | omega | rfl | (intro hg; simp only [nrmT] at hg; omega) | (intro g1 g2; simp [g1, g2]; done) | (intro g1; simp at g1 ⊢; simp [g1]; done) | (simp only [nrmT] at *; omega) | (simp at * <;> omega) | (simp_all <;> omega) | (simp_all; done)
      · refine ⟨(min best ((values.getD i.toNat 0) + (price * (i + 1)))), (i + 1), ?_⟩
        refine ⟨?_, ?_, rfl, rfl, rfl, rfl, rfl⟩
        · refine ⟨?_, ?_, ?_, ?_⟩
          · first | omega | rfl | (intro hg; simp only [nrmT] at hg; omega) | (intro g1 g2; simp [g1, g2]; done) | (intro g1; simp at g1 ⊢; simp [g1]; done) | (simp only [nrmT] at *; omega) | (simp at * <;> omega) | (simp_all <;> omega) | (simp_all; done)
          · first | omega | rfl | (intro hg; simp only [nrmT] at hg; omega) | (intro g1 g2; simp [g1, g2]; done) | (intro g1; simp at g1 ⊢; simp [g1]; done) | (simp only [nrmT] at *; omega) | (simp at * <;> omega) | (simp_all <;> omega) | (simp_all; done)
          · rw [show (i + 1).toNat = i.toNat + 1 by omega, mnTo_succ, ← h3]
            unfold prF
            rw [show ((i.toNat : Nat) : Int) + 1 = i + 1 by omega]
          · have v1 := hv _ (getD_mem (d := 0) (show i.toNat < values.length by omega))
            have v2 := mulB hp (q := i + 1) (n := 7) (by omega)
            omega
        · first | (show _ < _; omega) | (simp only [s_l4Priced_mJ0]; omega) | (simp only [s_l4Priced_mJ0] at *; simp at *; omega)
    · intro b2
      try simp only [nrmT] at b2
      refine ⟨?_, ?_, ?_⟩
      · have v3 := mulB hp (q := k) (n := 7) hk
        omega
      · have v3 := mulB hp (q := k) (n := 7) hk
        omega
      · rw [h3, show i.toNat = values.length by omega]; rfl
theorem s_l4Priced_pc (values : List Int) (k : Int) (price : Int) (hv : ∀ x ∈ values, 0 ≤ x ∧ x ≤ 693) (hl : 0 < values.length ∧ values.length ≤ 7) (hk : 0 ≤ k ∧ k ≤ 7) (hp : 0 ≤ price ∧ price ≤ 999) : PC Try.prog 128 [.sl (.ints values), .int .i64 k, .int .i64 price] (.one (.d (.int .i64 (prcd values k price)))) :=
  pc_wf @Try.call128 fun hw => pc_by (by kernel_rfl) Try.func128 @Try.call128 (by kernel_rfl) s_l4Priced_C (s_l4Priced_A values k price) (by kernel_rfl) (s_l4Priced_vc values k price hv hl hk hp hw.1) (by kernel_rfl)
def s_l4Priced_orc : List D → Orc := orcN [some .ints, none, none] fun ds => match ds with
  | [.sl (.ints values), .int .i64 k, .int .i64 price] => some (.one (.d (.int .i64 (prcd values k price))))
  | _ => none
abbrev i_priceBound_JJ0 (values : List Int) (k : Int) (price : Int) (best : Int) (i : Int) : Prop := (0 ≤ i) ∧ (i ≤ (values.length : Int)) ∧ (best = mnTo (prF values price) i.toNat) ∧ (0 ≤ best ∧ best ≤ 1692)
abbrev i_priceBound_mJ0 (values : List Int) (k : Int) (price : Int) (best : Int) (i : Int) : Nat := (values.length - i).toNat
def i_priceBound_C (f : FuncId) (ds : List D) : Orc := .no
def i_priceBound_A (values : List Int) (k : Int) (price : Int) : Ann := .two (.none) (.two (.none) (.two (.two (.none) (.loop (cut2 (fun (best : Int) (i : Int) => i_priceBound_JJ0 values k price best i) (fun (best : Int) (i : Int) => [(1, .d false (.int .i64 k)), (2, .d false (.int .i64 price)), (7, .d true (.int .i64 best)), (15, .d false (.sl (.ints values))), (16, .d true (.int .i64 (values.length : Int))), (17, .d true (.int .i64 i))]) (fun (best : Int) (i : Int) => [])) (fun g => i_priceBound_mJ0 values k price g.1 g.2) (fun _ => .none))) (.none)))
def i_priceBound_P (values : List Int) (k : Int) (price : Int) : Prop :=
  ((0 : Int) ≤ 0) ∧ ((0 : Int) < values.length) ∧ (0 < values.length) ∧ (-9223372036854775808 ≤ ((values.getD 0 0) + price) ∧ ((values.getD 0 0) + price) ≤ 9223372036854775807) ∧ ((∃ best' : Int, ∃ i' : Int, (i_priceBound_JJ0 values k price best' i') ∧ (k = k) ∧ (price = price) ∧ (((values.getD 0 0) + price) = best') ∧ (values = values) ∧ ((values.length : Int) = (values.length : Int)) ∧ ((0 : Int) = i')) ∧ (∀ best : Int, ∀ i : Int, (i_priceBound_JJ0 values k price best i) → (((decide (i < (values.length : Int))) = true → ((0 : Int) ≤ i) ∧ ((i : Int) < values.length) ∧ (i.toNat < values.length) ∧ (-9223372036854775808 ≤ (i + 1) ∧ (i + 1) ≤ 9223372036854775807) ∧ (-9223372036854775808 ≤ (price * (i + 1)) ∧ (price * (i + 1)) ≤ 9223372036854775807) ∧ (-9223372036854775808 ≤ ((values.getD i.toNat 0) + (price * (i + 1))) ∧ ((values.getD i.toNat 0) + (price * (i + 1))) ≤ 9223372036854775807) ∧ (-9223372036854775808 ≤ (i + 1) ∧ (i + 1) ≤ 9223372036854775807) ∧ (∃ best' : Int, ∃ i' : Int, (i_priceBound_JJ0 values k price best' i') ∧ (i_priceBound_mJ0 values k price best' i' < i_priceBound_mJ0 values k price best i) ∧ (k = k) ∧ (price = price) ∧ ((min best ((values.getD i.toNat 0) + (price * (i + 1)))) = best') ∧ (values = values) ∧ ((values.length : Int) = (values.length : Int)) ∧ ((i + 1) = i'))) ∧ ((decide (i < (values.length : Int))) = false → (-9223372036854775808 ≤ (price * k) ∧ (price * k) ≤ 9223372036854775807) ∧ (-9223372036854775808 ≤ (best - (price * k)) ∧ (best - (price * k)) ≤ 9223372036854775807) ∧ (((best - (price * k)) = (prcd values k price)))))))
theorem i_priceBound_vc (values : List Int) (k : Int) (price : Int) (hv : ∀ x ∈ values, 0 ≤ x ∧ x ≤ 693) (hl : 0 < values.length ∧ values.length ≤ 7) (hk : 0 ≤ k ∧ k ≤ 7) (hp : 0 ≤ price ∧ price ≤ 999) (w_values : (values.length : Int) ≤ 9223372036854775807) : i_priceBound_P values k price := by
  unfold i_priceBound_P
  refine ⟨?_, ?_, ?_, ?_, ?_, ?_⟩
  · first | omega | rfl | (intro hg; simp only [nrmT] at hg; omega) | (intro g1 g2; simp [g1, g2]; done) | (intro g1; simp at g1 ⊢; simp [g1]; done) | (simp only [nrmT] at *; omega) | (simp at * <;> omega) | (simp_all <;> omega) | (simp_all; done)
  · first | omega | rfl | (intro hg; simp only [nrmT] at hg; omega) | (intro g1 g2; simp [g1, g2]; done) | (intro g1; simp at g1 ⊢; simp [g1]; done) | (simp only [nrmT] at *; omega) | (simp at * <;> omega) | (simp_all <;> omega) | (simp_all; done)
  · first | omega | rfl | (intro hg; simp only [nrmT] at hg; omega) | (intro g1 g2; simp [g1, g2]; done) | (intro g1; simp at g1 ⊢; simp [g1]; done) | (simp only [nrmT] at *; omega) | (simp at * <;> omega) | (simp_all <;> omega) | (simp_all; done)
  · have v0 := hv _ (getD_mem (d := 0) hl.1)
    omega
  · refine ⟨((values.getD 0 0) + price), 0, ?_⟩
    refine ⟨?_, rfl, rfl, rfl, rfl, rfl, rfl⟩
    · refine ⟨?_, ?_, ?_, ?_⟩
      · first | omega | rfl | (intro hg; simp only [nrmT] at hg; omega) | (intro g1 g2; simp [g1, g2]; done) | (intro g1; simp at g1 ⊢; simp [g1]; done) | (simp only [nrmT] at *; omega) | (simp at * <;> omega) | (simp_all <;> omega) | (simp_all; done)
      · first | omega | rfl | (intro hg; simp only [nrmT] at hg; omega) | (intro g1 g2; simp [g1, g2]; done) | (intro g1; simp at g1 ⊢; simp [g1]; done) | (simp only [nrmT] at *; omega) | (simp at * <;> omega) | (simp_all <;> omega) | (simp_all; done)
      · first | (rw [show (1 : Int).toNat = 1 from rfl, mnTo_one]; unfold prF; omega) | (show _ = prF values price 0; unfold prF; omega)
      · have v0 := hv _ (getD_mem (d := 0) hl.1)
        omega
  · intro best i hJ
    obtain ⟨h1, h2, h3, h4⟩ := hJ
    refine ⟨?_, ?_⟩
    · intro b1
      try simp only [nrmT] at b1
      refine ⟨?_, ?_, ?_, ?_, ?_, ?_, ?_, ?_⟩
      · first | omega | rfl | (intro hg; simp only [nrmT] at hg; omega) | (intro g1 g2; simp [g1, g2]; done) | (intro g1; simp at g1 ⊢; simp [g1]; done) | (simp only [nrmT] at *; omega) | (simp at * <;> omega) | (simp_all <;> omega) | (simp_all; done)
      · first | omega | rfl | (intro hg; simp only [nrmT] at hg; omega) | (intro g1 g2; simp [g1, g2]; done) | (intro g1; simp at g1 ⊢; simp [g1]; done) | (simp only [nrmT] at *; omega) | (simp at * <;> omega) | (simp_all <;> omega) | (simp_all; done)
      · first | omega | rfl | (intro hg; simp only [nrmT] at hg; omega) | (intro g1 g2; simp [g1, g2]; done) | (intro g1; simp at g1 ⊢; simp [g1]; done) | (simp only [nrmT] at *; omega) | (simp at * <;> omega) | (simp_all <;> omega) | (simp_all; done)
      · first | omega | rfl | (intro hg; simp only [nrmT] at hg; omega) | (intro g1 g2; simp [g1, g2]; done) | (intro g1; simp at g1 ⊢; simp [g1]; done) | (simp only [nrmT] at *; omega) | (simp at * <;> omega) | (simp_all <;> omega) | (simp_all; done)
      · have v1 := hv _ (getD_mem (d := 0) (show i.toNat < values.length by omega))
        have v2 := mulB hp (q := i + 1) (n := 7) (by omega)
        omega
      · have v1 := hv _ (getD_mem (d := 0) (show i.toNat < values.length by omega))
        have v2 := mulB hp (q := i + 1) (n := 7) (by omega)
        omega
      · first | omega | rfl | (intro hg; simp only [nrmT] at hg; omega) | (intro g1 g2; simp [g1, g2]; done) | (intro g1; simp at g1 ⊢; simp [g1]; done) | (simp only [nrmT] at *; omega) | (simp at * <;> omega) | (simp_all <;> omega) | (simp_all; done)
      · refine ⟨(min best ((values.getD i.toNat 0) + (price * (i + 1)))), (i + 1), ?_⟩
        refine ⟨?_, ?_, rfl, rfl, rfl, rfl, rfl, rfl⟩
        · refine ⟨?_, ?_, ?_, ?_⟩
          · first | omega | rfl | (intro hg; simp only [nrmT] at hg; omega) | (intro g1 g2; simp [g1, g2]; done) | (intro g1; simp at g1 ⊢; simp [g1]; done) | (simp only [nrmT] at *; omega) | (simp at * <;> omega) | (simp_all <;> omega) | (simp_all; done)
          · first | omega | rfl | (intro hg; simp only [nrmT] at hg; omega) | (intro g1 g2; simp [g1, g2]; done) | (intro g1; simp at g1 ⊢; simp [g1]; done) | (simp only [nrmT] at *; omega) | (simp at * <;> omega) | (simp_all <;> omega) | (simp_all; done)
          · rw [show (i + 1).toNat = i.toNat + 1 by omega, mnTo_succ, ← h3]
            unfold prF
            rw [show ((i.toNat : Nat) : Int) + 1 = i + 1 by omega]
          · have v1 := hv _ (getD_mem (d := 0) (show i.toNat < values.length by omega))
            have v2 := mulB hp (q := i + 1) (n := 7) (by omega)
            omega
        · first | (show _ < _; omega) | (simp only [i_priceBound_mJ0]; omega) | (simp only [i_priceBound_mJ0] at *; simp at *; omega)
    · intro b2
      try simp only [nrmT] at b2
      refine ⟨?_, ?_, ?_⟩
      · have v3 := mulB hp (q := k) (n := 7) hk
        omega
      · have v3 := mulB hp (q := k) (n := 7) hk
        omega
      · rw [h3, show i.toNat = values.length by omega]; rfl
theorem i_priceBound_pc (values : List Int) (k : Int) (price : Int) (hv : ∀ x ∈ values, 0 ≤ x ∧ x ≤ 693) (hl : 0 < values.length ∧ values.length ≤ 7) (hk : 0 ≤ k ∧ k ≤ 7) (hp : 0 ≤ price ∧ price ≤ 999) : PC Try.prog 105 [.sl (.ints values), .int .i64 k, .int .i64 price] (.one (.d (.int .i64 (prcd values k price)))) :=
  pc_wf @Try.call105 fun hw => pc_by (by kernel_rfl) Try.func105 @Try.call105 (by kernel_rfl) i_priceBound_C (i_priceBound_A values k price) (by kernel_rfl) (i_priceBound_vc values k price hv hl hk hp hw.1) (by kernel_rfl)
def i_priceBound_orc : List D → Orc := orcN [some .ints, none, none] fun ds => match ds with
  | [.sl (.ints values), .int .i64 k, .int .i64 price] => some (.one (.d (.int .i64 (prcd values k price))))
  | _ => none
abbrev s_BestPrice_JJ0 (Open : List Int) (Dist : List (List Int)) (k : Int) (best : Int) (price : Int) : Prop := (1 ≤ price) ∧ (price ≤ 1000) ∧ (best = bpTo (valsL Open Dist Open.length) k price.toNat) ∧ (0 ≤ best ∧ best ≤ 999)
abbrev s_BestPrice_mJ0 (Open : List Int) (Dist : List (List Int)) (k : Int) (best : Int) (price : Int) : Nat := (1000 - price).toNat
def s_BestPrice_C (f : FuncId) (ds : List D) : Orc := bif Nat.beq f 92 then s_l4K_orc ds else bif Nat.beq f 115 then s_l4Values_orc ds else bif Nat.beq f 128 then s_l4Priced_orc ds else .no
def s_BestPrice_A (Open : List Int) (Dist : List (List Int)) (k : Int) : Ann := .two (.none) (.two (.none) (.two (.none) (.two (.two (.none) (.loop (cut2 (fun (best : Int) (price : Int) => s_BestPrice_JJ0 Open Dist k best price) (fun (best : Int) (price : Int) => [(1, .d false (.int .i64 k)), (7, .own 15 ((valsL Open Dist Open.length).length)), (8, .d true (.int .i64 best)), (9, .d true (.int .i64 price))]) (fun (best : Int) (price : Int) => [(15, .arr true 3 (.ints (valsL Open Dist Open.length)))])) (fun g => s_BestPrice_mJ0 Open Dist k g.1 g.2) (fun _ => .none))) (.none))))
def s_BestPrice_P (Open : List Int) (Dist : List (List Int)) (k : Int) : Prop :=
  (PC Try.prog 92 [.agg [.sl (.ints Open), .sl (.rows Dist)], .int .i64 k] (.one (.d (.bool (goodField Open Dist && inB k 1 (Open.length : Int)))))) ∧ (((!(goodField Open Dist && inB k 1 (Open.length : Int))) = true → (((0 : Int) = (bpA Open Dist k)) ∧ ((0 : Int) = (bpB Open Dist k)) ∧ (false = (goodField Open Dist && inB k 1 (Open.length : Int))))) ∧ ((!(goodField Open Dist && inB k 1 (Open.length : Int))) = false → (PC Try.prog 115 [.agg [.sl (.ints Open), .sl (.rows Dist)]] (.one (.own 3 (.ints (valsL Open Dist Open.length))))) ∧ ((∃ best' : Int, ∃ price' : Int, (s_BestPrice_JJ0 Open Dist k best' price') ∧ (k = k) ∧ ((valsL Open Dist Open.length).length = (valsL Open Dist Open.length).length) ∧ ((0 : Int) = best') ∧ ((1 : Int) = price') ∧ (valsL Open Dist Open.length = valsL Open Dist Open.length)) ∧ (∀ best : Int, ∀ price : Int, (s_BestPrice_JJ0 Open Dist k best price) → (((decide (price ≤ 999)) = true → ((valsL Open Dist Open.length).length = (valsL Open Dist Open.length).length) ∧ (PC Try.prog 128 [.sl (.ints (valsL Open Dist Open.length)), .int .i64 k, .int .i64 price] (.one (.d (.int .i64 (prcd (valsL Open Dist Open.length) k price))))) ∧ ((valsL Open Dist Open.length).length = (valsL Open Dist Open.length).length) ∧ (PC Try.prog 128 [.sl (.ints (valsL Open Dist Open.length)), .int .i64 k, .int .i64 best] (.one (.d (.int .i64 (prcd (valsL Open Dist Open.length) k best))))) ∧ (((decide ((prcd (valsL Open Dist Open.length) k price) > (prcd (valsL Open Dist Open.length) k best))) = true → (-9223372036854775808 ≤ (price + 1) ∧ (price + 1) ≤ 9223372036854775807) ∧ (∃ best' : Int, ∃ price' : Int, (s_BestPrice_JJ0 Open Dist k best' price') ∧ (s_BestPrice_mJ0 Open Dist k best' price' < s_BestPrice_mJ0 Open Dist k best price) ∧ (k = k) ∧ ((valsL Open Dist Open.length).length = (valsL Open Dist Open.length).length) ∧ (price = best') ∧ ((price + 1) = price') ∧ (valsL Open Dist Open.length = valsL Open Dist Open.length))) ∧ ((decide ((prcd (valsL Open Dist Open.length) k price) > (prcd (valsL Open Dist Open.length) k best))) = false → (-9223372036854775808 ≤ (price + 1) ∧ (price + 1) ≤ 9223372036854775807) ∧ (∃ best' : Int, ∃ price' : Int, (s_BestPrice_JJ0 Open Dist k best' price') ∧ (s_BestPrice_mJ0 Open Dist k best' price' < s_BestPrice_mJ0 Open Dist k best price) ∧ (k = k) ∧ ((valsL Open Dist Open.length).length = (valsL Open Dist Open.length).length) ∧ (best = best') ∧ ((price + 1) = price') ∧ (valsL Open Dist Open.length = valsL Open Dist Open.length))))) ∧ ((decide (price ≤ 999)) = false → ((valsL Open Dist Open.length).length = (valsL Open Dist Open.length).length) ∧ (PC Try.prog 128 [.sl (.ints (valsL Open Dist Open.length)), .int .i64 k, .int .i64 best] (.one (.d (.int .i64 (prcd (valsL Open Dist Open.length) k best))))) ∧ ((best = (bpA Open Dist k)) ∧ ((prcd (valsL Open Dist Open.length) k best) = (bpB Open Dist k)) ∧ (true = (goodField Open Dist && inB k 1 (Open.length : Int))))))))))
theorem s_BestPrice_vc (Open : List Int) (Dist : List (List Int)) (k : Int)  (w_Open : (Open.length : Int) ≤ 9223372036854775807) (w_Dist : (Dist.length : Int) ≤ 9223372036854775807) (v_Dist : ∀ x9 ∈ Dist, (x9.length : Int) ≤ 9223372036854775807) : s_BestPrice_P Open Dist k := by
  unfold s_BestPrice_P
  refine ⟨s_l4K_pc Open Dist k, ?_, ?_⟩
  · intro b1
    try simp only [Bool.not_eq_true', Bool.not_eq_false', Bool.not_not] at b1
    refine ⟨?_, ?_, ?_⟩
    · have hgk : (goodField Open Dist && inB k 1 (Open.length : Int)) = false := by simpa using b1
      unfold bpA; rw [hgk]; rfl
    · have hgk : (goodField Open Dist && inB k 1 (Open.length : Int)) = false := by simpa using b1
      unfold bpB; rw [hgk]; rfl
    · have hgk : (goodField Open Dist && inB k 1 (Open.length : Int)) = false := by simpa using b1
      exact hgk.symm
  · intro b2
    try simp only [Bool.not_eq_true', Bool.not_eq_false', Bool.not_not] at b2
    refine ⟨?_, ?_, ?_⟩
    · refine s_l4Values_pc Open Dist ?_
      · have hgk : (goodField Open Dist && inB k 1 (Open.length : Int)) = true := by simpa using b2
        obtain ⟨hg, hk⟩ := (Bool.and_eq_true _ _ ▸ hgk : _ ∧ _)
        have hk2 := inB_le hk
        obtain ⟨g1, g2, g3⟩ := gf_open hg
        exact hg
    · refine ⟨0, 1, ?_⟩
      refine ⟨?_, rfl, rfl, rfl, rfl, rfl⟩
      · refine ⟨?_, ?_, ?_, ?_⟩
        · first | omega | rfl | (intro hg; simp only [nrmT] at hg; omega) | (intro g1 g2; simp [g1, g2]; done) | (intro g1; simp at g1 ⊢; simp [g1]; done) | (simp only [nrmT] at *; omega) | (simp at * <;> omega) | (simp_all <;> omega) | (simp_all; done)
        · first | omega | rfl | (intro hg; simp only [nrmT] at hg; omega) | (intro g1 g2; simp [g1, g2]; done) | (intro g1; simp at g1 ⊢; simp [g1]; done) | (simp only [nrmT] at *; omega) | (simp at * <;> omega) | (simp_all <;> omega) | (simp_all; done)
        · first | rfl | exact (bpTo_one _ _).symm
        · first | omega | rfl | (intro hg; simp only [nrmT] at hg; omega) | (intro g1 g2; simp [g1, g2]; done) | (intro g1; simp at g1 ⊢; simp [g1]; done) | (simp only [nrmT] at *; omega) | (simp at * <;> omega) | (simp_all <;> omega) | (simp_all; done)
    · intro best price hJ
      obtain ⟨h1, h2, h3, h4⟩ := hJ
      refine ⟨?_, ?_⟩
      · intro b3
        try simp only [nrmT] at b3
        refine ⟨rfl, ?_, rfl, ?_, ?_, ?_⟩
        · refine s_l4Priced_pc (valsL Open Dist Open.length) k price ?_ ?_ ?_ ?_
          · have hgk : (goodField Open Dist && inB k 1 (Open.length : Int)) = true := by simpa using b2
            obtain ⟨hg, hk⟩ := (Bool.and_eq_true _ _ ▸ hgk : _ ∧ _)
            have hk2 := inB_le hk
            obtain ⟨g1, g2, g3⟩ := gf_open hg
            exact valsL_in hg
          · have hgk : (goodField Open Dist && inB k 1 (Open.length : Int)) = true := by simpa using b2
            obtain ⟨hg, hk⟩ := (Bool.and_eq_true _ _ ▸ hgk : _ ∧ _)
            have hk2 := inB_le hk
            obtain ⟨g1, g2, g3⟩ := gf_open hg
            rw [valsL_len]; omega
          · have hgk : (goodField Open Dist && inB k 1 (Open.length : Int)) = true := by simpa using b2
            obtain ⟨hg, hk⟩ := (Bool.and_eq_true _ _ ▸ hgk : _ ∧ _)
            have hk2 := inB_le hk
            obtain ⟨g1, g2, g3⟩ := gf_open hg
            omega
          · first | omega | rfl | (intro hg; simp only [nrmT] at hg; omega) | (intro g1 g2; simp [g1, g2]; done) | (intro g1; simp at g1 ⊢; simp [g1]; done) | (simp only [nrmT] at *; omega) | (simp at * <;> omega) | (simp_all <;> omega) | (simp_all; done)
        · refine s_l4Priced_pc (valsL Open Dist Open.length) k best ?_ ?_ ?_ ?_
          · have hgk : (goodField Open Dist && inB k 1 (Open.length : Int)) = true := by simpa using b2
            obtain ⟨hg, hk⟩ := (Bool.and_eq_true _ _ ▸ hgk : _ ∧ _)
            have hk2 := inB_le hk
            obtain ⟨g1, g2, g3⟩ := gf_open hg
            exact valsL_in hg
          · have hgk : (goodField Open Dist && inB k 1 (Open.length : Int)) = true := by simpa using b2
            obtain ⟨hg, hk⟩ := (Bool.and_eq_true _ _ ▸ hgk : _ ∧ _)
            have hk2 := inB_le hk
            obtain ⟨g1, g2, g3⟩ := gf_open hg
            rw [valsL_len]; omega
          · have hgk : (goodField Open Dist && inB k 1 (Open.length : Int)) = true := by simpa using b2
            obtain ⟨hg, hk⟩ := (Bool.and_eq_true _ _ ▸ hgk : _ ∧ _)
            have hk2 := inB_le hk
            obtain ⟨g1, g2, g3⟩ := gf_open hg
            omega
          · first | omega | rfl | (intro hg; simp only [nrmT] at hg; omega) | (intro g1 g2; simp [g1, g2]; done) | (intro g1; simp at g1 ⊢; simp [g1]; done) | (simp only [nrmT] at *; omega) | (simp at * <;> omega) | (simp_all <;> omega) | (simp_all; done)
        · intro b4
          try simp only [nrmT] at b4
          refine ⟨?_, ?_⟩
          · first | omega | rfl | (intro hg; simp only [nrmT] at hg; omega) | (intro g1 g2; simp [g1, g2]; done) | (intro g1; simp at g1 ⊢; simp [g1]; done) | (simp only [nrmT] at *; omega) | (simp at * <;> omega) | (simp_all <;> omega) | (simp_all; done)
          · refine ⟨price, (price + 1), ?_⟩
            refine ⟨?_, ?_, rfl, rfl, rfl, rfl, rfl⟩
            · refine ⟨?_, ?_, ?_, ?_⟩
              · first | omega | rfl | (intro hg; simp only [nrmT] at hg; omega) | (intro g1 g2; simp [g1, g2]; done) | (intro g1; simp at g1 ⊢; simp [g1]; done) | (simp only [nrmT] at *; omega) | (simp at * <;> omega) | (simp_all <;> omega) | (simp_all; done)
              · first | omega | rfl | (intro hg; simp only [nrmT] at hg; omega) | (intro g1 g2; simp [g1, g2]; done) | (intro g1; simp at g1 ⊢; simp [g1]; done) | (simp only [nrmT] at *; omega) | (simp at * <;> omega) | (simp_all <;> omega) | (simp_all; done)
              · rw [show (price + 1).toNat = price.toNat + 1 by omega, bpTo_succ, ← h3]
                unfold bpF
                rw [show ((price.toNat : Nat) : Int) = price by omega, if_pos b4]
              · first | omega | rfl | (intro hg; simp only [nrmT] at hg; omega) | (intro g1 g2; simp [g1, g2]; done) | (intro g1; simp at g1 ⊢; simp [g1]; done) | (simp only [nrmT] at *; omega) | (simp at * <;> omega) | (simp_all <;> omega) | (simp_all; done)
            · first | (show _ < _; omega) | (simp only [s_BestPrice_mJ0]; omega) | (simp only [s_BestPrice_mJ0] at *; simp at *; omega)
        · intro b5
          try simp only [nrmT] at b5
          refine ⟨?_, ?_⟩
          · first | omega | rfl | (intro hg; simp only [nrmT] at hg; omega) | (intro g1 g2; simp [g1, g2]; done) | (intro g1; simp at g1 ⊢; simp [g1]; done) | (simp only [nrmT] at *; omega) | (simp at * <;> omega) | (simp_all <;> omega) | (simp_all; done)
          · refine ⟨best, (price + 1), ?_⟩
            refine ⟨?_, ?_, rfl, rfl, rfl, rfl, rfl⟩
            · refine ⟨?_, ?_, ?_, ?_⟩
              · first | omega | rfl | (intro hg; simp only [nrmT] at hg; omega) | (intro g1 g2; simp [g1, g2]; done) | (intro g1; simp at g1 ⊢; simp [g1]; done) | (simp only [nrmT] at *; omega) | (simp at * <;> omega) | (simp_all <;> omega) | (simp_all; done)
              · first | omega | rfl | (intro hg; simp only [nrmT] at hg; omega) | (intro g1 g2; simp [g1, g2]; done) | (intro g1; simp at g1 ⊢; simp [g1]; done) | (simp only [nrmT] at *; omega) | (simp at * <;> omega) | (simp_all <;> omega) | (simp_all; done)
              · rw [show (price + 1).toNat = price.toNat + 1 by omega, bpTo_succ, ← h3]
                unfold bpF
                rw [show ((price.toNat : Nat) : Int) = price by omega, if_neg (by omega)]
              · first | omega | rfl | (intro hg; simp only [nrmT] at hg; omega) | (intro g1 g2; simp [g1, g2]; done) | (intro g1; simp at g1 ⊢; simp [g1]; done) | (simp only [nrmT] at *; omega) | (simp at * <;> omega) | (simp_all <;> omega) | (simp_all; done)
            · first | (show _ < _; omega) | (simp only [s_BestPrice_mJ0]; omega) | (simp only [s_BestPrice_mJ0] at *; simp at *; omega)
      · intro b6
        try simp only [nrmT] at b6
        refine ⟨rfl, ?_, ?_, ?_, ?_⟩
        · refine s_l4Priced_pc (valsL Open Dist Open.length) k best ?_ ?_ ?_ ?_
          · have hgk : (goodField Open Dist && inB k 1 (Open.length : Int)) = true := by simpa using b2
            obtain ⟨hg, hk⟩ := (Bool.and_eq_true _ _ ▸ hgk : _ ∧ _)
            have hk2 := inB_le hk
            obtain ⟨g1, g2, g3⟩ := gf_open hg
            exact valsL_in hg
          · have hgk : (goodField Open Dist && inB k 1 (Open.length : Int)) = true := by simpa using b2
            obtain ⟨hg, hk⟩ := (Bool.and_eq_true _ _ ▸ hgk : _ ∧ _)
            have hk2 := inB_le hk
            obtain ⟨g1, g2, g3⟩ := gf_open hg
            rw [valsL_len]; omega
          · have hgk : (goodField Open Dist && inB k 1 (Open.length : Int)) = true := by simpa using b2
            obtain ⟨hg, hk⟩ := (Bool.and_eq_true _ _ ▸ hgk : _ ∧ _)
            have hk2 := inB_le hk
            obtain ⟨g1, g2, g3⟩ := gf_open hg
            omega
          · first | omega | rfl | (intro hg; simp only [nrmT] at hg; omega) | (intro g1 g2; simp [g1, g2]; done) | (intro g1; simp at g1 ⊢; simp [g1]; done) | (simp only [nrmT] at *; omega) | (simp at * <;> omega) | (simp_all <;> omega) | (simp_all; done)
        · have hgk : (goodField Open Dist && inB k 1 (Open.length : Int)) = true := by simpa using b2
          obtain ⟨hg, hk⟩ := (Bool.and_eq_true _ _ ▸ hgk : _ ∧ _)
          have hk2 := inB_le hk
          obtain ⟨g1, g2, g3⟩ := gf_open hg
          unfold bpA; rw [if_pos hgk, h3, show price.toNat = 1000 by omega]
        · have hgk : (goodField Open Dist && inB k 1 (Open.length : Int)) = true := by simpa using b2
          obtain ⟨hg, hk⟩ := (Bool.and_eq_true _ _ ▸ hgk : _ ∧ _)
          have hk2 := inB_le hk
          obtain ⟨g1, g2, g3⟩ := gf_open hg
          unfold bpB; rw [if_pos hgk, h3, show price.toNat = 1000 by omega]
        · have hgk : (goodField Open Dist && inB k 1 (Open.length : Int)) = true := by simpa using b2
          obtain ⟨hg, hk⟩ := (Bool.and_eq_true _ _ ▸ hgk : _ ∧ _)
          have hk2 := inB_le hk
          obtain ⟨g1, g2, g3⟩ := gf_open hg
          exact hgk.symm
theorem s_BestPrice_pc (Open : List Int) (Dist : List (List Int)) (k : Int)  : PC Try.prog 62 [.agg [.sl (.ints Open), .sl (.rows Dist)], .int .i64 k] (.tup [.d (.int .i64 (bpA Open Dist k)), .d (.int .i64 (bpB Open Dist k)), .d (.bool (goodField Open Dist && inB k 1 (Open.length : Int)))]) :=
  pc_wf @Try.call62 fun hw => pc_by (by kernel_rfl) Try.func62 @Try.call62 (by kernel_rfl) s_BestPrice_C (s_BestPrice_A Open Dist k) (by kernel_rfl) (s_BestPrice_vc Open Dist k hw.1.1 hw.1.2.1.1 hw.1.2.1.2) (by kernel_rfl)
def s_BestPrice_orc : List D → Orc := orcN [none, none] fun ds => match ds with
  | [.agg [.sl (.ints Open), .sl (.rows Dist)], .int .i64 k] => some (.tup [.d (.int .i64 (bpA Open Dist k)), .d (.int .i64 (bpB Open Dist k)), .d (.bool (goodField Open Dist && inB k 1 (Open.length : Int)))])
  | _ => none
abbrev i_BestPrice_JJ0 (Open : List Int) (Dist : List (List Int)) (k : Int) (best : Int) (price : Int) : Prop := (0 ≤ price) ∧ (price ≤ 1000) ∧ (best = bpTo (valsL Open Dist Open.length) k price.toNat) ∧ (0 ≤ best ∧ best ≤ 999)
abbrev i_BestPrice_mJ0 (Open : List Int) (Dist : List (List Int)) (k : Int) (best : Int) (price : Int) : Nat := (1000 - price).toNat
def i_BestPrice_C (f : FuncId) (ds : List D) : Orc := bif Nat.beq f 95 then i_isMedianCase_orc ds else bif Nat.beq f 106 then i_Field_values_orc ds else bif Nat.beq f 105 then i_priceBound_orc ds else .no
def i_BestPrice_A (Open : List Int) (Dist : List (List Int)) (k : Int) : Ann := .two (.none) (.two (.none) (.two (.none) (.two (.two (.none) (.loop (cut2 (fun (best : Int) (price : Int) => i_BestPrice_JJ0 Open Dist k best price) (fun (best : Int) (price : Int) => [(1, .d false (.int .i64 k)), (7, .own 15 ((valsL Open Dist Open.length).length)), (8, .d true (.int .i64 best)), (16, .d true (.int .i64 price))]) (fun (best : Int) (price : Int) => [(15, .arr true 3 (.ints (valsL Open Dist Open.length)))])) (fun g => i_BestPrice_mJ0 Open Dist k g.1 g.2) (fun _ => .none))) (.none))))
def i_BestPrice_P (Open : List Int) (Dist : List (List Int)) (k : Int) : Prop :=
  (PC Try.prog 95 [.agg [.sl (.ints Open), .sl (.rows Dist)], .int .i64 k] (.one (.d (.bool (goodField Open Dist && inB k 1 (Open.length : Int)))))) ∧ (((!(goodField Open Dist && inB k 1 (Open.length : Int))) = true → (((0 : Int) = (bpA Open Dist k)) ∧ ((0 : Int) = (bpB Open Dist k)) ∧ (false = (goodField Open Dist && inB k 1 (Open.length : Int))))) ∧ ((!(goodField Open Dist && inB k 1 (Open.length : Int))) = false → (PC Try.prog 106 [.agg [.sl (.ints Open), .sl (.rows Dist)]] (.one (.own 3 (.ints (valsL Open Dist Open.length))))) ∧ ((∃ best' : Int, ∃ price' : Int, (i_BestPrice_JJ0 Open Dist k best' price') ∧ (k = k) ∧ ((valsL Open Dist Open.length).length = (valsL Open Dist Open.length).length) ∧ ((0 : Int) = best') ∧ ((0 : Int) = price') ∧ (valsL Open Dist Open.length = valsL Open Dist Open.length)) ∧ (∀ best : Int, ∀ price : Int, (i_BestPrice_JJ0 Open Dist k best price) → (((decide (price < 1000)) = true → ((valsL Open Dist Open.length).length = (valsL Open Dist Open.length).length) ∧ (PC Try.prog 105 [.sl (.ints (valsL Open Dist Open.length)), .int .i64 k, .int .i64 price] (.one (.d (.int .i64 (prcd (valsL Open Dist Open.length) k price))))) ∧ ((valsL Open Dist Open.length).length = (valsL Open Dist Open.length).length) ∧ (PC Try.prog 105 [.sl (.ints (valsL Open Dist Open.length)), .int .i64 k, .int .i64 best] (.one (.d (.int .i64 (prcd (valsL Open Dist Open.length) k best))))) ∧ (((decide ((prcd (valsL Open Dist Open.length) k price) > (prcd (valsL Open Dist Open.length) k best))) = true → (-9223372036854775808 ≤ (price + 1) ∧ (price + 1) ≤ 9223372036854775807) ∧ (∃ best' : Int, ∃ price' : Int, (i_BestPrice_JJ0 Open Dist k best' price') ∧ (i_BestPrice_mJ0 Open Dist k best' price' < i_BestPrice_mJ0 Open Dist k best price) ∧ (k = k) ∧ ((valsL Open Dist Open.length).length = (valsL Open Dist Open.length).length) ∧ (price = best') ∧ ((price + 1) = price') ∧ (valsL Open Dist Open.length = valsL Open Dist Open.length))) ∧ ((decide ((prcd (valsL Open Dist Open.length) k price) > (prcd (valsL Open Dist Open.length) k best))) = false → (-9223372036854775808 ≤ (price + 1) ∧ (price + 1) ≤ 9223372036854775807) ∧ (∃ best' : Int, ∃ price' : Int, (i_BestPrice_JJ0 Open Dist k best' price') ∧ (i_BestPrice_mJ0 Open Dist k best' price' < i_BestPrice_mJ0 Open Dist k best price) ∧ (k = k) ∧ ((valsL Open Dist Open.length).length = (valsL Open Dist Open.length).length) ∧ (best = best') ∧ ((price + 1) = price') ∧ (valsL Open Dist Open.length = valsL Open Dist Open.length))))) ∧ ((decide (price < 1000)) = false → ((valsL Open Dist Open.length).length = (valsL Open Dist Open.length).length) ∧ (PC Try.prog 105 [.sl (.ints (valsL Open Dist Open.length)), .int .i64 k, .int .i64 best] (.one (.d (.int .i64 (prcd (valsL Open Dist Open.length) k best))))) ∧ ((best = (bpA Open Dist k)) ∧ ((prcd (valsL Open Dist Open.length) k best) = (bpB Open Dist k)) ∧ (true = (goodField Open Dist && inB k 1 (Open.length : Int))))))))))
theorem i_BestPrice_vc (Open : List Int) (Dist : List (List Int)) (k : Int)  (w_Open : (Open.length : Int) ≤ 9223372036854775807) (w_Dist : (Dist.length : Int) ≤ 9223372036854775807) (v_Dist : ∀ x9 ∈ Dist, (x9.length : Int) ≤ 9223372036854775807) : i_BestPrice_P Open Dist k := by
  unfold i_BestPrice_P
  refine ⟨i_isMedianCase_pc Open Dist k, ?_, ?_⟩
  · intro b1
    try simp only [Bool.not_eq_true', Bool.not_eq_false', Bool.not_not] at b1
    refine ⟨?_, ?_, ?_⟩
    · have hgk : (goodField Open Dist && inB k 1 (Open.length : Int)) = false := by simpa using b1
      unfold bpA; rw [hgk]; rfl
    · have hgk : (goodField Open Dist && inB k 1 (Open.length : Int)) = false := by simpa using b1
      unfold bpB; rw [hgk]; rfl
    · have hgk : (goodField Open Dist && inB k 1 (Open.length : Int)) = false := by simpa using b1
      exact hgk.symm
  · intro b2
    try simp only [Bool.not_eq_true', Bool.not_eq_false', Bool.not_not] at b2
    refine ⟨?_, ?_, ?_⟩
    · refine i_Field_values_pc Open Dist ?_
      · have hgk : (goodField Open Dist && inB k 1 (Open.length : Int)) = true := by simpa using b2
        obtain ⟨hg, hk⟩ := (Bool.and_eq_true _ _ ▸ hgk : _ ∧ _)
        have hk2 := inB_le hk
        obtain ⟨g1, g2, g3⟩ := gf_open hg
        exact hg
    · refine ⟨0, 0, ?_⟩
      refine ⟨?_, rfl, rfl, rfl, rfl, rfl⟩
      · refine ⟨?_, ?_, ?_, ?_⟩
        · first | omega | rfl | (intro hg; simp only [nrmT] at hg; omega) | (intro g1 g2; simp [g1, g2]; done) | (intro g1; simp at g1 ⊢; simp [g1]; done) | (simp only [nrmT] at *; omega) | (simp at * <;> omega) | (simp_all <;> omega) | (simp_all; done)
        · first | omega | rfl | (intro hg; simp only [nrmT] at hg; omega) | (intro g1 g2; simp [g1, g2]; done) | (intro g1; simp at g1 ⊢; simp [g1]; done) | (simp only [nrmT] at *; omega) | (simp at * <;> omega) | (simp_all <;> omega) | (simp_all; done)
        · first | rfl | exact (bpTo_one _ _).symm
        · first | omega | rfl | (intro hg; simp only [nrmT] at hg; omega) | (intro g1 g2; simp [g1, g2]; done) | (intro g1; simp at g1 ⊢; simp [g1]; done) | (simp only [nrmT] at *; omega) | (simp at * <;> omega) | (simp_all <;> omega) | (simp_all; done)
    · intro best price hJ
      obtain ⟨h1, h2, h3, h4⟩ := hJ
      refine ⟨?_, ?_⟩
      · intro b3
        try simp only [nrmT] at b3
        refine ⟨rfl, ?_, rfl, ?_, ?_, ?_⟩
        · refine i_priceBound_pc (valsL Open Dist Open.length) k price ?_ ?_ ?_ ?_
          · have hgk : (goodField Open Dist && inB k 1 (Open.length : Int)) = true := by simpa using b2
            obtain ⟨hg, hk⟩ := (Bool.and_eq_true _ _ ▸ hgk : _ ∧ _)
            have hk2 := inB_le hk
            obtain ⟨g1, g2, g3⟩ := gf_open hg
            exact valsL_in hg
          · have hgk : (goodField Open Dist && inB k 1 (Open.length : Int)) = true := by simpa using b2
            obtain ⟨hg, hk⟩ := (Bool.and_eq_true _ _ ▸ hgk : _ ∧ _)
            have hk2 := inB_le hk
            obtain ⟨g1, g2, g3⟩ := gf_open hg
            rw [valsL_len]; omega
          · have hgk : (goodField Open Dist && inB k 1 (Open.length : Int)) = true := by simpa using b2
            obtain ⟨hg, hk⟩ := (Bool.and_eq_true _ _ ▸ hgk : _ ∧ _)
            have hk2 := inB_le hk
            obtain ⟨g1, g2, g3⟩ := gf_open hg
            omega
          · first | omega | rfl | (intro hg; simp only [nrmT] at hg; omega) | (intro g1 g2; simp [g1, g2]; done) | (intro g1; simp at g1 ⊢; simp [g1]; done) | (simp only [nrmT] at *; omega) | (simp at * <;> omega) | (simp_all <;> omega) | (simp_all; done)
        · refine i_priceBound_pc (valsL Open Dist Open.length) k best ?_ ?_ ?_ ?_
          · have hgk : (goodField Open Dist && inB k 1 (Open.length : Int)) = true := by simpa using b2
            obtain ⟨hg, hk⟩ := (Bool.and_eq_true _ _ ▸ hgk : _ ∧ _)
            have hk2 := inB_le hk
            obtain ⟨g1, g2, g3⟩ := gf_open hg
            exact valsL_in hg
          · have hgk : (goodField Open Dist && inB k 1 (Open.length : Int)) = true := by simpa using b2
            obtain ⟨hg, hk⟩ := (Bool.and_eq_true _ _ ▸ hgk : _ ∧ _)
            have hk2 := inB_le hk
            obtain ⟨g1, g2, g3⟩ := gf_open hg
            rw [valsL_len]; omega
          · have hgk : (goodField Open Dist && inB k 1 (Open.length : Int)) = true := by simpa using b2
            obtain ⟨hg, hk⟩ := (Bool.and_eq_true _ _ ▸ hgk : _ ∧ _)
            have hk2 := inB_le hk
            obtain ⟨g1, g2, g3⟩ := gf_open hg
            omega
          · first | omega | rfl | (intro hg; simp only [nrmT] at hg; omega) | (intro g1 g2; simp [g1, g2]; done) | (intro g1; simp at g1 ⊢; simp [g1]; done) | (simp only [nrmT] at *; omega) | (simp at * <;> omega) | (simp_all <;> omega) | (simp_all; done)
        · intro b4
          try simp only [nrmT] at b4
          refine ⟨?_, ?_⟩
          · first | omega | rfl | (intro hg; simp only [nrmT] at hg; omega) | (intro g1 g2; simp [g1, g2]; done) | (intro g1; simp at g1 ⊢; simp [g1]; done) | (simp only [nrmT] at *; omega) | (simp at * <;> omega) | (simp_all <;> omega) | (simp_all; done)
          · refine ⟨price, (price + 1), ?_⟩
            refine ⟨?_, ?_, rfl, rfl, rfl, rfl, rfl⟩
            · refine ⟨?_, ?_, ?_, ?_⟩
              · first | omega | rfl | (intro hg; simp only [nrmT] at hg; omega) | (intro g1 g2; simp [g1, g2]; done) | (intro g1; simp at g1 ⊢; simp [g1]; done) | (simp only [nrmT] at *; omega) | (simp at * <;> omega) | (simp_all <;> omega) | (simp_all; done)
              · first | omega | rfl | (intro hg; simp only [nrmT] at hg; omega) | (intro g1 g2; simp [g1, g2]; done) | (intro g1; simp at g1 ⊢; simp [g1]; done) | (simp only [nrmT] at *; omega) | (simp at * <;> omega) | (simp_all <;> omega) | (simp_all; done)
              · rw [show (price + 1).toNat = price.toNat + 1 by omega, bpTo_succ, ← h3]
                unfold bpF
                rw [show ((price.toNat : Nat) : Int) = price by omega, if_pos b4]
              · first | omega | rfl | (intro hg; simp only [nrmT] at hg; omega) | (intro g1 g2; simp [g1, g2]; done) | (intro g1; simp at g1 ⊢; simp [g1]; done) | (simp only [nrmT] at *; omega) | (simp at * <;> omega) | (simp_all <;> omega) | (simp_all; done)
            · first | (show _ < _; omega) | (simp only [i_BestPrice_mJ0]; omega) | (simp only [i_BestPrice_mJ0] at *; simp at *; omega)
        · intro b5
          try simp only [nrmT] at b5
          refine ⟨?_, ?_⟩
          · first | omega | rfl | (intro hg; simp only [nrmT] at hg; omega) | (intro g1 g2; simp [g1, g2]; done) | (intro g1; simp at g1 ⊢; simp [g1]; done) | (simp only [nrmT] at *; omega) | (simp at * <;> omega) | (simp_all <;> omega) | (simp_all; done)
          · refine ⟨best, (price + 1), ?_⟩
            refine ⟨?_, ?_, rfl, rfl, rfl, rfl, rfl⟩
            · refine ⟨?_, ?_, ?_, ?_⟩
              · first | omega | rfl | (intro hg; simp only [nrmT] at hg; omega) | (intro g1 g2; simp [g1, g2]; done) | (intro g1; simp at g1 ⊢; simp [g1]; done) | (simp only [nrmT] at *; omega) | (simp at * <;> omega) | (simp_all <;> omega) | (simp_all; done)
              · first | omega | rfl | (intro hg; simp only [nrmT] at hg; omega) | (intro g1 g2; simp [g1, g2]; done) | (intro g1; simp at g1 ⊢; simp [g1]; done) | (simp only [nrmT] at *; omega) | (simp at * <;> omega) | (simp_all <;> omega) | (simp_all; done)
              · rw [show (price + 1).toNat = price.toNat + 1 by omega, bpTo_succ, ← h3]
                unfold bpF
                rw [show ((price.toNat : Nat) : Int) = price by omega, if_neg (by omega)]
              · first | omega | rfl | (intro hg; simp only [nrmT] at hg; omega) | (intro g1 g2; simp [g1, g2]; done) | (intro g1; simp at g1 ⊢; simp [g1]; done) | (simp only [nrmT] at *; omega) | (simp at * <;> omega) | (simp_all <;> omega) | (simp_all; done)
            · first | (show _ < _; omega) | (simp only [i_BestPrice_mJ0]; omega) | (simp only [i_BestPrice_mJ0] at *; simp at *; omega)
      · intro b6
        try simp only [nrmT] at b6
        refine ⟨rfl, ?_, ?_, ?_, ?_⟩
        · refine i_priceBound_pc (valsL Open Dist Open.length) k best ?_ ?_ ?_ ?_
          · have hgk : (goodField Open Dist && inB k 1 (Open.length : Int)) = true := by simpa using b2
            obtain ⟨hg, hk⟩ := (Bool.and_eq_true _ _ ▸ hgk : _ ∧ _)
            have hk2 := inB_le hk
            obtain ⟨g1, g2, g3⟩ := gf_open hg
            exact valsL_in hg
          · have hgk : (goodField Open Dist && inB k 1 (Open.length : Int)) = true := by simpa using b2
            obtain ⟨hg, hk⟩ := (Bool.and_eq_true _ _ ▸ hgk : _ ∧ _)
            have hk2 := inB_le hk
            obtain ⟨g1, g2, g3⟩ := gf_open hg
            rw [valsL_len]; omega
          · have hgk : (goodField Open Dist && inB k 1 (Open.length : Int)) = true := by simpa using b2
            obtain ⟨hg, hk⟩ := (Bool.and_eq_true _ _ ▸ hgk : _ ∧ _)
            have hk2 := inB_le hk
            obtain ⟨g1, g2, g3⟩ := gf_open hg
            omega
          · first | omega | rfl | (intro hg; simp only [nrmT] at hg; omega) | (intro g1 g2; simp [g1, g2]; done) | (intro g1; simp at g1 ⊢; simp [g1]; done) | (simp only [nrmT] at *; omega) | (simp at * <;> omega) | (simp_all <;> omega) | (simp_all; done)
        · have hgk : (goodField Open Dist && inB k 1 (Open.length : Int)) = true := by simpa using b2
          obtain ⟨hg, hk⟩ := (Bool.and_eq_true _ _ ▸ hgk : _ ∧ _)
          have hk2 := inB_le hk
          obtain ⟨g1, g2, g3⟩ := gf_open hg
          unfold bpA; rw [if_pos hgk, h3, show price.toNat = 1000 by omega]
        · have hgk : (goodField Open Dist && inB k 1 (Open.length : Int)) = true := by simpa using b2
          obtain ⟨hg, hk⟩ := (Bool.and_eq_true _ _ ▸ hgk : _ ∧ _)
          have hk2 := inB_le hk
          obtain ⟨g1, g2, g3⟩ := gf_open hg
          unfold bpB; rw [if_pos hgk, h3, show price.toNat = 1000 by omega]
        · have hgk : (goodField Open Dist && inB k 1 (Open.length : Int)) = true := by simpa using b2
          obtain ⟨hg, hk⟩ := (Bool.and_eq_true _ _ ▸ hgk : _ ∧ _)
          have hk2 := inB_le hk
          obtain ⟨g1, g2, g3⟩ := gf_open hg
          exact hgk.symm
theorem i_BestPrice_pc (Open : List Int) (Dist : List (List Int)) (k : Int)  : PC Try.prog 63 [.agg [.sl (.ints Open), .sl (.rows Dist)], .int .i64 k] (.tup [.d (.int .i64 (bpA Open Dist k)), .d (.int .i64 (bpB Open Dist k)), .d (.bool (goodField Open Dist && inB k 1 (Open.length : Int)))]) :=
  pc_wf @Try.call63 fun hw => pc_by (by kernel_rfl) Try.func63 @Try.call63 (by kernel_rfl) i_BestPrice_C (i_BestPrice_A Open Dist k) (by kernel_rfl) (i_BestPrice_vc Open Dist k hw.1.1 hw.1.2.1.1 hw.1.2.1.2) (by kernel_rfl)
def i_BestPrice_orc : List D → Orc := orcN [none, none] fun ds => match ds with
  | [.agg [.sl (.ints Open), .sl (.rows Dist)], .int .i64 k] => some (.tup [.d (.int .i64 (bpA Open Dist k)), .d (.int .i64 (bpB Open Dist k)), .d (.bool (goodField Open Dist && inB k 1 (Open.length : Int)))])
  | _ => none
def l_FnExactBestPrice_C (f : FuncId) (ds : List D) : Orc := bif Nat.beq f 27 then l_szField_orc ds else bif Nat.beq f 29 then l_toField_orc ds else bif Nat.beq f 62 then s_BestPrice_orc ds else bif Nat.beq f 63 then i_BestPrice_orc ds else bif Nat.beq f 32 then l_eqField_orc ds else .no
def l_FnExactBestPrice_A (Open : List Int) (Dist : List (List Int)) (k : Int) : Ann := .two (.none) (.two (.none) (.two (.none) (.two (.none) (.two (.reg [(1, .g)]) (.two (.reg [(1, .g)]) (.two (.none) (.two (.none) (.two (.two (.reg [(2, .g)]) (.none)) (.none)))))))))
def l_FnExactBestPrice_P (Open : List Int) (Dist : List (List Int)) (k : Int) : Prop :=
  (PC Try.prog 27 [.agg [.sl (.ints Open), .sl (.rows Dist)], .int .i64 1048576] (.one (.d (.int .i64 (szField Open Dist 1048576))))) ∧ (((decide ((szField Open Dist 1048576) < 0)) = true → ((true = true))) ∧ ((decide ((szField Open Dist 1048576) < 0)) = false → (PC Try.prog 29 [.agg [.sl (.ints Open), .sl (.rows Dist)]] (.one (.d (.agg [.sl (.ints Open), .sl (.rows Dist)])))) ∧ (PC Try.prog 62 [.agg [.sl (.ints Open), .sl (.rows Dist)], .int .i64 k] (.tup [.d (.int .i64 (bpA Open Dist k)), .d (.int .i64 (bpB Open Dist k)), .d (.bool (goodField Open Dist && inB k 1 (Open.length : Int)))])) ∧ (PC Try.prog 29 [.agg [.sl (.ints Open), .sl (.rows Dist)]] (.one (.d (.agg [.sl (.ints Open), .sl (.rows Dist)])))) ∧ (PC Try.prog 63 [.agg [.sl (.ints Open), .sl (.rows Dist)], .int .i64 k] (.tup [.d (.int .i64 (bpA Open Dist k)), .d (.int .i64 (bpB Open Dist k)), .d (.bool (goodField Open Dist && inB k 1 (Open.length : Int)))])) ∧ ((!((bpA Open Dist k) != (bpA Open Dist k))) = true → (!((bpA Open Dist k) != (bpA Open Dist k))) = true) ∧ ((!((bpA Open Dist k) != (bpA Open Dist k))) = true → (!((bpA Open Dist k) != (bpA Open Dist k))) = true) ∧ (true = true) ∧ ((((bpA Open Dist k) != (bpA Open Dist k)) = true → true = true)) ∧ ((((bpA Open Dist k) != (bpA Open Dist k)) = false → (!((bpA Open Dist k) != (bpA Open Dist k))) = true)) ∧ ((!(cond ((bpA Open Dist k) != (bpA Open Dist k)) true ((bpB Open Dist k) != (bpB Open Dist k)))) = true → (!(cond ((bpA Open Dist k) != (bpA Open Dist k)) true ((bpB Open Dist k) != (bpB Open Dist k)))) = true) ∧ ((!(cond ((bpA Open Dist k) != (bpA Open Dist k)) true ((bpB Open Dist k) != (bpB Open Dist k)))) = true → (!(cond ((bpA Open Dist k) != (bpA Open Dist k)) true ((bpB Open Dist k) != (bpB Open Dist k)))) = true) ∧ (true = true) ∧ (((cond ((bpA Open Dist k) != (bpA Open Dist k)) true ((bpB Open Dist k) != (bpB Open Dist k))) = true → true = true)) ∧ (((cond ((bpA Open Dist k) != (bpA Open Dist k)) true ((bpB Open Dist k) != (bpB Open Dist k))) = false → (!(cond ((bpA Open Dist k) != (bpA Open Dist k)) true ((bpB Open Dist k) != (bpB Open Dist k)))) = true)) ∧ (((cond (cond ((bpA Open Dist k) != (bpA Open Dist k)) true ((bpB Open Dist k) != (bpB Open Dist k))) true ((goodField Open Dist && inB k 1 (Open.length : Int)) != (goodField Open Dist && inB k 1 (Open.length : Int)))) = true → ((false = true))) ∧ ((cond (cond ((bpA Open Dist k) != (bpA Open Dist k)) true ((bpB Open Dist k) != (bpB Open Dist k))) true ((goodField Open Dist && inB k 1 (Open.length : Int)) != (goodField Open Dist && inB k 1 (Open.length : Int)))) = false → (true = true) ∧ (PC Try.prog 29 [.agg [.sl (.ints Open), .sl (.rows Dist)]] (.one (.d (.agg [.sl (.ints Open), .sl (.rows Dist)])))) ∧ (PC Try.prog 32 [.agg [.sl (.ints Open), .sl (.rows Dist)], .agg [.sl (.ints Open), .sl (.rows Dist)]] (.one (.d (.bool ((Open == Open) && (Dist == Dist)))))) ∧ (((!((Open == Open) && (Dist == Dist))) = true → ((false = true))) ∧ ((!((Open == Open) && (Dist == Dist))) = false → ((true = true))))))))
theorem l_FnExactBestPrice_vc (Open : List Int) (Dist : List (List Int)) (k : Int)  (w_Open : (Open.length : Int) ≤ 9223372036854775807) (w_Dist : (Dist.length : Int) ≤ 9223372036854775807) (v_Dist : ∀ x9 ∈ Dist, (x9.length : Int) ≤ 9223372036854775807) : l_FnExactBestPrice_P Open Dist k := by
  unfold l_FnExactBestPrice_P
  refine ⟨?_, ?_, ?_⟩
  · refine l_szField_pc Open Dist 1048576 ?_
    · first | omega | rfl | (intro hg; simp only [nrmT] at hg; omega) | (intro g1 g2; simp [g1, g2]; done) | (intro g1; simp at g1 ⊢; simp [g1]; done) | (simp only [nrmT] at *; omega) | (simp at * <;> omega) | (simp_all <;> omega) | (simp_all; done)
  · intro b1
    try simp only [nrmT] at b1
    exact rfl
  · intro b2
    try simp only [nrmT] at b2
    refine ⟨?_, s_BestPrice_pc Open Dist k, ?_, i_BestPrice_pc Open Dist k, id, id, rfl, fun _ => rfl, ?_, id, id, rfl, fun _ => rfl, ?_, ?_, ?_⟩
    · refine l_toField_pc Open Dist ?_ ?_ ?_
      · have := szField_bound b2; omega
      · have := szField_bound b2; omega
      · have h := (szField_bound b2).2.2
        intro xs hx
        have h := h xs hx
        omega
    · refine l_toField_pc Open Dist ?_ ?_ ?_
      · have := szField_bound b2; omega
      · have := szField_bound b2; omega
      · have h := (szField_bound b2).2.2
        intro xs hx
        have h := h xs hx
        omega
    · intro h; rw [h]; rfl
    · intro h; rw [h]; rfl
    · intro b3
      first | (exfalso; simp only [marks_len] at b3; omega) | (simp at b3; done) | (exfalso; simp only [marks_len] at b3; simp at b3; done) | omega | rfl | (intro hg; simp only [nrmT] at hg; omega) | (intro g1 g2; simp [g1, g2]; done) | (intro g1; simp at g1 ⊢; simp [g1]; done) | (simp only [nrmT] at *; omega) | (simp at * <;> omega) | (simp_all <;> omega) | (simp_all; done)
    · intro b4
      refine ⟨rfl, ?_, l_eqField_pc Open Dist Open Dist, ?_, ?_⟩
      · refine l_toField_pc Open Dist ?_ ?_ ?_
        · have := szField_bound b2; omega
        · have := szField_bound b2; omega
        · have h := (szField_bound b2).2.2
          intro xs hx
          have h := h xs hx
          omega
      · intro b5
        try simp only [Bool.not_eq_true', Bool.not_eq_false', Bool.not_not] at b5
        first | (exfalso; simp only [marks_len] at b5; omega) | (simp at b5; done) | (exfalso; simp only [marks_len] at b5; simp at b5; done) | omega | rfl | (intro hg; simp only [nrmT] at hg; omega) | (intro g1 g2; simp [g1, g2]; done) | (intro g1; simp at g1 ⊢; simp [g1]; done) | (simp only [nrmT] at *; omega) | (simp at * <;> omega) | (simp_all <;> omega) | (simp_all; done)
      · intro b6
        try simp only [Bool.not_eq_true', Bool.not_eq_false', Bool.not_not] at b6
        exact rfl
theorem l_FnExactBestPrice_pc (Open : List Int) (Dist : List (List Int)) (k : Int)  : PC Try.prog 17 [.agg [.sl (.ints Open), .sl (.rows Dist)], .int .i64 k] (.one (.d (.bool true))) :=
  pc_wf @Try.call17 fun hw => pc_by (by kernel_rfl) Try.func17 @Try.call17 (by kernel_rfl) l_FnExactBestPrice_C (l_FnExactBestPrice_A Open Dist k) (by kernel_rfl) (l_FnExactBestPrice_vc Open Dist k hw.1.1 hw.1.2.1.1 hw.1.2.1.2) (by kernel_rfl)
end Go.Proofs.Ytmmoejdglnnmcaa
