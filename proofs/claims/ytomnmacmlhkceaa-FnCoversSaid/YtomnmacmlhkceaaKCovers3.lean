/- Contracts of the functions that the law reaches. -/
import Derived.Test.YtomnmacmlhkceaaKCovers2
import Derived.KernelRfl
set_option linter.unusedVariables false
set_option linter.unusedSimpArgs false
namespace Go.Proofs.Ytomnmacmlhkceaa
open Go

theorem dual_cover {Size : Int} {Sets : List (List Int)} {Costs : List Int} (hg : goodSys Size Sets Costs = true) {f : Int → Int} (hf : ∀ x : Nat, x < Size.toNat → 0 ≤ f (x : Int)) {c : List Int} (hc : InR Sets c) (hv : coverB Size Sets c = true) :
    sumTo (fun x => f (x : Int)) Size.toNat ≤ lsum (fun i => lsum f (Sets.getD i.toNat [])) c := by
  refine Int.le_trans (Int.le_of_eq ?_) (dual_le hg hf hc)
  refine sumTo_cong fun x hx => ?_
  rw [if_pos (allTo_iff.1 hv x hx)]
def GrBy (Sets : List (List Int)) (Costs r : List Int) : Prop := ∀ i, i < r.length → r.getD i 0 = grTo Sets Costs (r.take i) Sets.length
theorem grBy_app {Sets : List (List Int)} {Costs out : List Int} (h : GrBy Sets Costs out) : GrBy Sets Costs (out ++ [grTo Sets Costs out Sets.length]) := by
  intro i hi
  rw [List.length_append, List.length_singleton] at hi
  by_cases e : i = out.length
  · subst e; rw [take_last, getD_last]
  · rw [List.take_append_of_le_length (by omega), ← h i (by omega)]
    simp only [List.getD_eq_getElem?_getD]
    rw [List.getElem?_append_left (by omega)]
theorem grRun_by {Size : Int} {Sets : List (List Int)} {Costs : List Int} : ∀ n out r, GrBy Sets Costs out → grRun Size Sets Costs n out = some r → GrBy Sets Costs r
  | 0, out, r, h, e => by
    unfold grRun at e
    split at e
    · cases e; exact h
    · cases e
  | n + 1, out, r, h, e => by
    unfold grRun at e
    split at e
    · cases e; exact h
    · split at e
      · cases e
      · exact grRun_by n _ r (grBy_app h) e
theorem grO_by (Size : Int) (Sets : List (List Int)) (Costs : List Int) : GrBy Sets Costs (grO Size Sets Costs) := by
  unfold grO
  cases h : grs Size Sets Costs [] with
  | none => exact fun i hi => by simp at hi
  | some r => exact grRun_by _ _ r (fun i hi => by simp at hi) h
theorem grRun_full {Size : Int} {Sets : List (List Int)} {Costs : List Int} : ∀ n out r, grRun Size Sets Costs n out = some r → coverB Size Sets r = true
  | 0, out, r, e => by
    unfold grRun at e
    split at e
    · rename_i h; cases e; exact h
    · cases e
  | n + 1, out, r, e => by
    unfold grRun at e
    split at e
    · rename_i h; cases e; exact h
    · split at e
      · cases e
      · exact grRun_full n _ r e
theorem grO_full {Size : Int} {Sets : List (List Int)} {Costs : List Int} (hg : goodSys Size Sets Costs = true) (ha : coverB Size Sets (allN Sets.length) = true) : coverB Size Sets (grO Size Sets Costs) = true := by
  have h1 := grs_some (Costs := Costs) hg
  rw [ha] at h1
  obtain ⟨r, hr⟩ := Option.isSome_iff_exists.1 h1
  unfold grO
  rw [hr]
  exact grRun_full _ _ r hr
/-- No set has a less quotient. -/
theorem grTo_min {Size : Int} {Sets : List (List Int)} {Costs out : List Int} (hg : goodSys Size Sets Costs = true) : ∀ k, k ≤ Sets.length → 0 ≤ grTo Sets Costs out k → ∀ j, j < k → 0 < newN Sets out j →
    Costs.getD (grTo Sets Costs out k).toNat 0 * newN Sets out j ≤ Costs.getD j 0 * newN Sets out (grTo Sets Costs out k).toNat
  | 0, _, _, j, hj, _ => by omega
  | k + 1, hk, h0, j, hj, hn => by
    have gf := gs_facts hg
    obtain ⟨f1, f2, f3⟩ := grTo_facts Sets Costs out k
    rw [grTo_succ] at h0 ⊢
    unfold grF at h0 ⊢
    split
    · rename_i hif
      rw [Bool.and_eq_true, decide_eq_true_eq, Bool.or_eq_true, decide_eq_true_eq, decide_eq_true_eq] at hif
      rw [Int.toNat_natCast]
      by_cases e : j = k
      · subst e; exact Int.le_refl _
      · by_cases hb : grTo Sets Costs out k < 0
        · have := f3 hb j (by omega); omega
        · have ih := grTo_min hg (out := out) k (by omega) (by omega) j (by omega) hn
          have hlt : Costs.getD k 0 * newN Sets out (grTo Sets Costs out k).toNat < Costs.getD (grTo Sets Costs out k).toNat 0 * newN Sets out k := by omega
          have hb1 := f2 (by omega)
          have c1 := gs_cost hg (k := k) (by omega)
          have c2 := gs_cost hg (k := (grTo Sets Costs out k).toNat) (by omega)
          have c3 := gs_cost hg (k := j) (by omega)
          revert ih hlt hb1 c1 c2 c3
          generalize Costs.getD k 0 = ck
          generalize Costs.getD (grTo Sets Costs out k).toNat 0 = cb
          generalize Costs.getD j 0 = cj
          generalize newN Sets out (grTo Sets Costs out k).toNat = nb
          have hnk := hif.1
          revert hnk hn
          generalize newN Sets out k = nk
          generalize newN Sets out j = nj
          intro hn hnk ih hlt hb1 c1 c2 c3
          have h1 : ck * nb * nj ≤ cb * nk * nj := Int.mul_le_mul_of_nonneg_right (by omega) (by omega)
          have h2 : cb * nj * nk ≤ cj * nb * nk := Int.mul_le_mul_of_nonneg_right ih (by omega)
          have h3 : (ck * nj) * nb ≤ (cj * nk) * nb := by
            calc (ck * nj) * nb = ck * nb * nj := by ac_rfl
              _ ≤ cb * nk * nj := h1
              _ = cb * nj * nk := by ac_rfl
              _ ≤ cj * nb * nk := h2
              _ = (cj * nk) * nb := by ac_rfl
          exact Int.le_of_mul_le_mul_right h3 hb1
    · rename_i hif
      rw [if_neg hif] at h0
      by_cases e : j = k
      · subst e
        rw [Bool.and_eq_true, decide_eq_true_eq, Bool.or_eq_true, decide_eq_true_eq, decide_eq_true_eq] at hif
        omega
      · exact grTo_min hg k (by omega) h0 j (by omega) hn
theorem prAt_zero {Sets : List (List Int)} {Costs r : List Int} {x : Nat} : ∀ i, i ≤ r.length → covB Sets (r.take i) x = false → prAt Sets Costs r i x = 0
  | 0, _, _ => rfl
  | i + 1, hi, h => by
    have e : r.take (i + 1) = r.take i ++ [r.getD i 0] := by rw [List.take_add_one, List.getElem?_eq_getElem (show i < r.length by omega), getD_get (show i < r.length by omega)]; rfl
    rw [e, covB_app, Bool.or_eq_false_iff] at h
    simp only [prAt]
    rw [h.2, Bool.and_false, if_neg (by simp)]
    exact prAt_zero i (by omega) h.1
theorem new_count {Size : Int} {Sets : List (List Int)} {Costs r : List Int} (hg : goodSys Size Sets Costs = true) {j : Nat} (hj : j < Sets.length) :
    newN Sets r j = sumTo (fun x => if (!(covB Sets r x) && (Sets.getD j []).contains (x : Int)) = true then 1 else 0) Size.toNat := by
  unfold newN
  rw [newOf_filter, ← members_count]
  congr 2
  refine asc_ext ((asc_rising (gs_set hg hj)).filter _) (asc_members _ _) fun x => ?_
  rw [List.mem_filter, mem_members]
  constructor
  · rintro ⟨h1, h2⟩
    have h3 := set_memS hg hj x h1
    refine ⟨h3.1, h3.2, ?_⟩
    have ex : ((x.toNat : Nat) : Int) = x := by omega
    rw [Bool.and_eq_true, ex, List.contains_iff_mem]
    refine ⟨?_, h1⟩
    have e : covB Sets r x.toNat = (covL Sets r r.length).contains x := by
      rw [Bool.eq_iff_iff, covB_iff2, List.contains_iff_mem, ex]
    rw [e]; exact h2
  · rintro ⟨h1, h2, h3⟩
    have ex : ((x.toNat : Nat) : Int) = x := by omega
    rw [Bool.and_eq_true, ex, List.contains_iff_mem] at h3
    have e : covB Sets r x.toNat = (covL Sets r r.length).contains x := by
      rw [Bool.eq_iff_iff, covB_iff2, List.contains_iff_mem, ex]
    rw [e] at h3
    exact ⟨h3.2, h3.1⟩
theorem take_snoc {r : List Int} {i : Nat} (hi : i < r.length) : r.take (i + 1) = r.take i ++ [r.getD i 0] := by
  rw [List.take_add_one, List.getElem?_eq_getElem hi, getD_get hi]; rfl
/-- The prices' sum is that of the sets' costs, scaled. -/
theorem pr_sum {Size : Int} {Sets : List (List Int)} {Costs r : List Int} (hg : goodSys Size Sets Costs = true) (ho : GrOk Sets r) : ∀ i, i ≤ r.length → sumTo (prAt Sets Costs r i) Size.toNat = 840 * lsum (fun y => Costs.getD y.toNat 0) (r.take i)
  | 0, _ => by
    have : sumTo (prAt Sets Costs r 0) Size.toNat = sumTo (fun _ => 0) Size.toNat := rfl
    rw [this, sumTo_zero]; simp [lsum]
  | i + 1, hi => by
    have hin := ho.inR _ (getD_mem (d := 0) (show i < r.length by omega))
    have h1 : sumTo (prAt Sets Costs r (i + 1)) Size.toNat = sumTo (fun x => prAt Sets Costs r i x + prV Sets Costs r i * (if (!(covB Sets (r.take i) x) && (Sets.getD (r.getD i 0).toNat []).contains (x : Int)) = true then 1 else 0)) Size.toNat := by
      refine sumTo_cong fun x _ => ?_
      simp only [prAt]
      by_cases hc : (!(covB Sets (r.take i) x) && (Sets.getD (r.getD i 0).toNat []).contains (x : Int)) = true
      · rw [if_pos hc, if_pos hc]
        rw [Bool.and_eq_true, Bool.not_eq_true'] at hc
        rw [prAt_zero i (by omega) hc.1]; omega
      · rw [if_neg hc, if_neg hc]; omega
    rw [h1, sumTo_add, sumTo_mul, pr_sum hg ho i (by omega), ← new_count hg (show (r.getD i 0).toNat < Sets.length by omega), take_snoc (by omega), lsum_app, lsum_cons, lsum_nil]
    have hn := new_one hg ho (show i < r.length by omega)
    unfold prV
    revert hn
    generalize newN Sets (r.take i) (r.getD i 0).toNat = n
    generalize Costs.getD (r.getD i 0).toNat 0 = c
    intro hn
    have e : 840 / n * c * n = 840 * c := by
      have : n = 1 ∨ n = 2 ∨ n = 3 ∨ n = 4 ∨ n = 5 ∨ n = 6 ∨ n = 7 ∨ n = 8 := by omega
      rcases this with rfl | rfl | rfl | rfl | rfl | rfl | rfl | rfl <;> omega
    rw [e]; omega
theorem price_le {n u cb cj : Int} (hn : 1 ≤ n ∧ n ≤ 8) (hu : 1 ≤ u ∧ u ≤ 8) (h : cb * u ≤ cj * n) : 840 / n * cb ≤ 840 / u * cj := by
  have a : n = 1 ∨ n = 2 ∨ n = 3 ∨ n = 4 ∨ n = 5 ∨ n = 6 ∨ n = 7 ∨ n = 8 := by omega
  have b : u = 1 ∨ u = 2 ∨ u = 3 ∨ u = 4 ∨ u = 5 ∨ u = 6 ∨ u = 7 ∨ u = 8 := by omega
  rcases a with rfl | rfl | rfl | rfl | rfl | rfl | rfl | rfl <;> rcases b with rfl | rfl | rfl | rfl | rfl | rfl | rfl | rfl <;> omega
theorem harm_step : ∀ u : Nat, u ≤ 8 → ∀ d : Nat, d ≤ u → 0 < u → (d : Int) * (840 / (u : Int)) ≤ harmSum u - harmSum (u - d) := by decide
/-- A set's prices are no more than its harmonic share. -/
theorem pr_share {Size : Int} {Sets : List (List Int)} {Costs r : List Int} (hg : goodSys Size Sets Costs = true) (ho : GrOk Sets r) (hb : GrBy Sets Costs r) {j : Nat} (hj : j < Sets.length) : ∀ i, i ≤ r.length →
    sumTo (fun x => if (Sets.getD j []).contains (x : Int) = true then prAt Sets Costs r i x else 0) Size.toNat + harmSum (newN Sets (r.take i) j).toNat * Costs.getD j 0 ≤ harmSum (Sets.getD j []).length * Costs.getD j 0
  | 0, _ => by
    have gf := gs_facts hg
    have e0 : sumTo (fun x => if (Sets.getD j []).contains (x : Int) = true then prAt Sets Costs r 0 x else 0) Size.toNat = sumTo (fun _ => 0) Size.toNat := sumTo_cong fun x _ => by simp [prAt]
    have e1 : (newN Sets (r.take 0) j).toNat = (Sets.getD j []).length := by
      unfold newN
      rw [newOf_filter]
      simp only [List.take_zero, List.length_nil, covL, foldTo, List.contains_nil, Bool.not_false]
      rw [Int.toNat_natCast, List.filter_eq_self.2 (fun _ _ => rfl)]
    rw [e0, sumTo_zero, e1]; omega
  | i + 1, hi => by
    have gf := gs_facts hg
    have ih := pr_share hg ho hb hj i (by omega)
    have hin := ho.inR _ (getD_mem (d := 0) (show i < r.length by omega))
    have hn := new_one hg ho (show i < r.length by omega)
    have u8 := new_le8 hg (covL Sets (r.take i) (r.take i).length) hj
    have c1 := gs_cost hg (k := j) (by omega)
    -- how many of the set are new
    have hU : newN Sets (r.take i) j = newN Sets (r.take (i + 1)) j + sumTo (fun x => if ((Sets.getD j []).contains (x : Int) && (!(covB Sets (r.take i) x) && (Sets.getD (r.getD i 0).toNat []).contains (x : Int))) = true then 1 else 0) Size.toNat := by
      rw [new_count hg hj, new_count hg hj, ← sumTo_add]
      refine sumTo_cong fun x _ => ?_
      rw [take_snoc (by omega), covB_app]
      cases covB Sets (r.take i) x <;> cases (Sets.getD j []).contains (x : Int) <;> cases (Sets.getD (r.getD i 0).toNat []).contains (x : Int) <;> rfl
    have hS : sumTo (fun x => if (Sets.getD j []).contains (x : Int) = true then prAt Sets Costs r (i + 1) x else 0) Size.toNat = sumTo (fun x => if (Sets.getD j []).contains (x : Int) = true then prAt Sets Costs r i x else 0) Size.toNat
        + prV Sets Costs r i * sumTo (fun x => if ((Sets.getD j []).contains (x : Int) && (!(covB Sets (r.take i) x) && (Sets.getD (r.getD i 0).toNat []).contains (x : Int))) = true then 1 else 0) Size.toNat := by
      rw [← sumTo_mul, ← sumTo_add]
      refine sumTo_cong fun x _ => ?_
      simp only [prAt]
      cases hs : (Sets.getD j []).contains (x : Int)
      · simp
      · rw [Bool.true_and]
        by_cases hc : (!(covB Sets (r.take i) x) && (Sets.getD (r.getD i 0).toNat []).contains (x : Int)) = true
        · rw [if_pos hc, if_pos hc]
          rw [Bool.and_eq_true, Bool.not_eq_true'] at hc
          rw [prAt_zero i (by omega) hc.1]; simp
        · rw [if_neg hc, if_neg hc]; simp
    have hD0 := (sumTo_bound (f := fun x => if ((Sets.getD j []).contains (x : Int) && (!(covB Sets (r.take i) x) && (Sets.getD (r.getD i 0).toNat []).contains (x : Int))) = true then 1 else 0) (m := 1) Size.toNat fun k _ => by split <;> omega).1
    have w8 := new_le8 hg (covL Sets (r.take (i + 1)) (r.take (i + 1)).length) hj
    rw [hS]
    have hgr := hb i (by omega)
    have hmin := grTo_min hg (out := r.take i) Sets.length (Nat.le_refl _) (by rw [← hgr]; omega) j hj
    rw [← hgr] at hmin
    have nU : newN Sets (r.take i) j = newOf (Sets.getD j []) (covL Sets (r.take i) (r.take i).length) := rfl
    have nW : newN Sets (r.take (i + 1)) j = newOf (Sets.getD j []) (covL Sets (r.take (i + 1)) (r.take (i + 1)).length) := rfl
    rw [← nU] at u8
    rw [← nW] at w8
    unfold prV
    revert hU hD0 ih hmin hn u8 w8 c1
    generalize sumTo (fun x => if ((Sets.getD j []).contains (x : Int) && (!(covB Sets (r.take i) x) && (Sets.getD (r.getD i 0).toNat []).contains (x : Int))) = true then 1 else 0) Size.toNat = d
    generalize newN Sets (r.take i) j = u
    generalize newN Sets (r.take (i + 1)) j = w
    generalize newN Sets (r.take i) (r.getD i 0).toNat = n
    generalize Costs.getD (r.getD i 0).toNat 0 = cb
    generalize Costs.getD j 0 = cj
    generalize harmSum (Sets.getD j []).length * cj = top
    generalize sumTo (fun x => if (Sets.getD j []).contains (x : Int) = true then prAt Sets Costs r i x else 0) Size.toNat = s
    intro ih hn u8 c1 hU hD0 w8 hmin
    by_cases hz : d = 0
    · have : w = u := by omega
      rw [hz, this, Int.mul_zero]; omega
    · have hp := price_le (cb := cb) (cj := cj) hn (show 1 ≤ u ∧ u ≤ 8 by omega) (hmin (by omega))
      have hh := harm_step u.toNat (by omega) d.toNat (by omega) (by omega)
      rw [show ((d.toNat : Nat) : Int) = d by omega, show ((u.toNat : Nat) : Int) = u by omega, show u.toNat - d.toNat = w.toNat by omega] at hh
      have h1 : 840 / n * cb * d ≤ 840 / u * cj * d := Int.mul_le_mul_of_nonneg_right hp hD0
      have h2 : d * (840 / u) * cj ≤ (harmSum u.toNat - harmSum w.toNat) * cj := Int.mul_le_mul_of_nonneg_right hh (by omega)
      have h3 : 840 / u * cj * d = d * (840 / u) * cj := by ac_rfl
      rw [Int.sub_mul] at h2
      omega
def srtF (list out : List Int) (i : Nat) : List Int := if list.contains ((i : Int) - 1) = true then out ++ [(i : Int) - 1] else out
def srtTo (list : List Int) (k : Nat) : List Int := foldTo (srtF list) [] k
def srt (list : List Int) : List Int := srtTo list 1002
theorem srtTo_succ (list : List Int) (k : Nat) : srtTo list (k + 1) = if list.contains ((k : Int) - 1) = true then srtTo list k ++ [(k : Int) - 1] else srtTo list k := rfl
theorem srtTo_len (list : List Int) : ∀ k, (srtTo list k).length ≤ k
  | 0 => Nat.le_refl _
  | k + 1 => by
    have := srtTo_len list k
    rw [srtTo_succ]
    split
    · rw [List.length_append, List.length_singleton]; omega
    · omega
theorem srt_eq {list : List Int} (h : ∀ y ∈ list, 0 ≤ y) : ∀ k, srtTo list (k + 1) = members (fun x => list.contains (x : Int)) k
  | 0 => by
    rw [srtTo_succ, if_neg]
    · rfl
    · intro hc
      have := h _ (List.contains_iff_mem.1 hc)
      omega
  | k + 1 => by
    have e : (((k + 1 : Nat) : Int) - 1) = (k : Int) := by omega
    rw [srtTo_succ, srt_eq h k, members_succ, e]
    by_cases hc : list.contains (k : Int) = true
    · rw [if_pos hc, if_pos hc]
    · rw [if_neg hc, if_neg hc, List.append_nil]
theorem mem_srt {list : List Int} (h : ∀ y ∈ list, 0 ≤ y ∧ y ≤ 1000) (x : Int) : x ∈ srt list ↔ x ∈ list := by
  unfold srt
  rw [srt_eq (fun y hy => (h y hy).1), mem_members]
  constructor
  · rintro ⟨h1, h2, h3⟩
    rw [show ((x.toNat : Nat) : Int) = x by omega] at h3
    exact List.contains_iff_mem.1 h3
  · intro hx
    have := h x hx
    refine ⟨this.1, by omega, ?_⟩
    rw [show ((x.toNat : Nat) : Int) = x by omega]
    exact List.contains_iff_mem.2 hx
theorem asc_srt {list : List Int} (h : ∀ y ∈ list, 0 ≤ y) : Asc (srt list) := by
  unfold srt
  rw [srt_eq h]; exact asc_members _ _
theorem one_sum {f : Nat → Int} {j : Nat} : ∀ n, j < n → sumTo (fun x => if x = j then f x else 0) n = f j
  | 0, h => by omega
  | n + 1, h => by
    rw [sumTo_succ]
    by_cases e : n = j
    · subst e
      rw [if_pos rfl]
      have : sumTo (fun x => if x = n then f x else 0) n = sumTo (fun _ => 0) n := sumTo_cong fun k hk => if_neg (by omega)
      rw [this, sumTo_zero]; omega
    · rw [if_neg e, one_sum n (by omega)]; omega
theorem nodup_sum {f : Int → Int} {m : Nat} : ∀ {r : List Int}, r.Nodup → (∀ y ∈ r, 0 ≤ y ∧ y < (m : Int)) → lsum f r = sumTo (fun x => if r.contains (x : Int) = true then f (x : Int) else 0) m
  | [], _, _ => by
    have : sumTo (fun x => if ([] : List Int).contains (x : Int) = true then f (x : Int) else 0) m = sumTo (fun _ => 0) m := sumTo_cong fun x _ => rfl
    rw [this, sumTo_zero]; rfl
  | y :: r, hn, hb => by
    rw [List.nodup_cons] at hn
    have hy := hb y List.mem_cons_self
    rw [lsum_cons, nodup_sum hn.2 fun z hz => hb z (List.mem_cons_of_mem _ hz)]
    have e1 := one_sum (f := fun x => f (x : Int)) (j := y.toNat) m (by omega)
    rw [show ((y.toNat : Nat) : Int) = y by omega] at e1
    rw [← e1, ← sumTo_add]
    refine sumTo_cong fun x _ => ?_
    have ec : (y :: r).contains (x : Int) = (decide (x = y.toNat) || r.contains (x : Int)) := by
      rw [Bool.eq_iff_iff, Bool.or_eq_true, List.contains_iff_mem, List.mem_cons, List.contains_iff_mem, decide_eq_true_eq]
      constructor
      · rintro (h | h)
        · exact .inl (by omega)
        · exact .inr h
      · rintro (h | h)
        · exact .inl (by omega)
        · exact .inr h
    rw [ec]
    by_cases e : x = y.toNat
    · have hnc : r.contains (x : Int) = false := by
        rw [Bool.eq_false_iff, Ne, List.contains_iff_mem, e, show ((y.toNat : Nat) : Int) = y by omega]
        exact hn.1
      rw [if_pos e, decide_eq_true e, hnc]; simp
    · rw [if_neg e, decide_eq_false e, Bool.false_or, Int.zero_add]
theorem srt_sum {f : Int → Int} {r : List Int} (hn : r.Nodup) (hb : ∀ y ∈ r, 0 ≤ y ∧ y ≤ 1000) : lsum f (srt r) = lsum f r := by
  unfold srt
  rw [srt_eq fun y hy => (hb y hy).1, members_sum, nodup_sum hn (m := 1001) fun y hy => by have := hb y hy; omega]
theorem covB_mem {Sets : List (List Int)} {a b : List Int} (h : ∀ y, y ∈ a ↔ y ∈ b) (x : Nat) : covB Sets a x = covB Sets b x := by
  unfold covB
  rw [Bool.eq_iff_iff, List.any_eq_true, List.any_eq_true]
  exact ⟨fun ⟨y, h1, h2⟩ => ⟨y, (h y).1 h1, h2⟩, fun ⟨y, h1, h2⟩ => ⟨y, (h y).2 h1, h2⟩⟩
theorem coverB_mem {Size : Int} {Sets : List (List Int)} {a b : List Int} (h : ∀ y, y ∈ a ↔ y ∈ b) : coverB Size Sets a = coverB Size Sets b := allTo_congr fun x _ => covB_mem h x
theorem grOk_nodup {Sets : List (List Int)} {r : List Int} (h : GrOk Sets r) : r.Nodup := by
  refine List.pairwise_iff_getElem.2 fun p q hp hq hpq e => ?_
  have h1 := h.pos q hq
  obtain ⟨x, hx, hnx⟩ := new_pos h1
  refine hnx ((mem_covL _).2 ⟨p, by rw [List.length_take]; omega, ?_⟩)
  have e2 : (r.take q).getD p 0 = r.getD q 0 := by
    rw [getD_get (show p < (r.take q).length by rw [List.length_take]; omega), List.getElem_take, getD_get hq, e]
  rw [e2]; exact hx
theorem lsum_nonneg {f : Int → Int} {l : List Int} (h : ∀ x ∈ l, 0 ≤ f x) : 0 ≤ lsum f l := by
  have := lsum_le (f := fun _ => 0) (g := f) h
  have e : lsum (fun _ => 0) l = 0 := by
    have := lsum_mul 0 (fun _ => 0) l
    simp at this
    exact this
  omega
theorem harm_mono : ∀ a : Nat, a ≤ 8 → ∀ b : Nat, b ≤ a → harmSum b ≤ harmSum a := by decide
theorem harm_eq {n : Nat} (h : n ≤ 8) : harm (n : Int) = harmSum n := by unfold harm; rw [if_pos (by omega), Int.toNat_natCast]
theorem gr_srt {Size : Int} {Sets : List (List Int)} {Costs : List Int} (hg : goodSys Size Sets Costs = true) (ha : coverB Size Sets (allN Sets.length) = true) :
    rising (srt (grO Size Sets Costs)) 0 ((Sets.length : Int) - 1) = true ∧ coverB Size Sets (srt (grO Size Sets Costs)) = true ∧ costOf Costs (srt (grO Size Sets Costs)) = costOf Costs (grO Size Sets Costs) := by
  have gf := gs_facts hg
  have ok := grO_ok (Costs := Costs) hg
  have hb : ∀ y ∈ grO Size Sets Costs, 0 ≤ y ∧ y ≤ 1000 := fun y hy => by have := ok.inR y hy; omega
  refine ⟨rising_asc (asc_srt fun y hy => (hb y hy).1) fun x hx => ?_, ?_, ?_⟩
  · have := ok.inR x ((mem_srt hb x).1 hx); omega
  · rw [coverB_mem (mem_srt hb)]; exact grO_full hg ha
  · rw [cost_lsum, cost_lsum, srt_sum (grOk_nodup ok) hb]
theorem gp_get {Size : Int} {Sets : List (List Int)} {Costs r : List Int} {i : Nat} {x : Nat} (hx : x < Size.toNat) : (prL Size Sets Costs r i).getD x 0 = prAt Sets Costs r i x := tabTo_get hx
theorem gr_prices {Size : Int} {Sets : List (List Int)} {Costs : List Int} (hg : goodSys Size Sets Costs = true) (ha : coverB Size Sets (allN Sets.length) = true) :
    sumTo (fun x => (gpL Size Sets Costs).getD x 0) Size.toNat = 840 * costOf Costs (grO Size Sets Costs) ∧
    (∀ j, j < Sets.length → priced (Sets.getD j []) (gpL Size Sets Costs) ≤ harmSum (Sets.getD j []).length * Costs.getD j 0) ∧ ∀ x : Nat, x < Size.toNat → 0 ≤ (gpL Size Sets Costs).getD x 0 := by
  have gf := gs_facts hg
  have ok := grO_ok (Costs := Costs) hg
  have by' := grO_by Size Sets Costs
  have eg : gpL Size Sets Costs = prL Size Sets Costs (grO Size Sets Costs) (grO Size Sets Costs).length := by unfold gpL; rw [hg, ha]; rfl
  rw [eg]
  refine ⟨?_, fun j hj => ?_, fun x hx => ?_⟩
  · have h := pr_sum hg ok _ (Nat.le_refl _)
    rw [List.take_length, ← cost_lsum] at h
    rw [← h]
    exact sumTo_cong fun x hx => gp_get hx
  · have h := pr_share hg ok by' hj _ (Nat.le_refl _)
    have e : priced (Sets.getD j []) (prL Size Sets Costs (grO Size Sets Costs) (grO Size Sets Costs).length) = sumTo (fun x => if (Sets.getD j []).contains (x : Int) = true then prAt Sets Costs (grO Size Sets Costs) (grO Size Sets Costs).length x else 0) Size.toNat := by
      rw [priced_lsum, set_sum hg hj]
      refine sumTo_cong fun x hx => ?_
      simp only [Int.toNat_natCast]
      rw [gp_get hx]
    rw [e]
    have h0 : 0 ≤ harmSum (newN Sets ((grO Size Sets Costs).take (grO Size Sets Costs).length) j).toNat * Costs.getD j 0 := by
      have u8 := new_le8 hg (covL Sets ((grO Size Sets Costs).take (grO Size Sets Costs).length) ((grO Size Sets Costs).take (grO Size Sets Costs).length).length) hj
      have c1 := gs_cost hg (k := j) (by omega)
      exact Int.mul_nonneg (by have := harm_mono (newN Sets ((grO Size Sets Costs).take (grO Size Sets Costs).length) j).toNat (by unfold newN; omega) 0 (by omega); simpa [harmSum] using this) (by omega)
    omega
  · rw [gp_get hx]
    have key : ∀ i, i ≤ (grO Size Sets Costs).length → 0 ≤ prAt Sets Costs (grO Size Sets Costs) i x := by
      intro i
      induction i with
      | zero => intro _; exact Int.le_refl _
      | succ i ih =>
        intro hi
        simp only [prAt]
        split
        · have hin := ok.inR _ (getD_mem (d := 0) (show i < (grO Size Sets Costs).length by omega))
          exact (pr_bound (n := newN Sets ((grO Size Sets Costs).take i) ((grO Size Sets Costs).getD i 0).toNat) (new_one hg ok (by omega)).1 (gs_cost hg (k := ((grO Size Sets Costs).getD i 0).toNat) (by omega))).1
        · exact ih (by omega)
    exact key _ (Nat.le_refl _)
/-- The greedy cover's cost, within its harmonic share of any cover's. -/
theorem gr_bound {Size : Int} {Sets : List (List Int)} {Costs c : List Int} (hg : goodSys Size Sets Costs = true) (ha : coverB Size Sets (allN Sets.length) = true) (hc : InR Sets c) (hv : coverB Size Sets c = true) {most : Nat} (hm8 : most ≤ 8)
    (hm : ∀ j, j < Sets.length → (Sets.getD j []).length ≤ most) : 840 * costOf Costs (grO Size Sets Costs) ≤ harmSum most * costOf Costs c := by
  have gf := gs_facts hg
  obtain ⟨p1, p2, p3⟩ := gr_prices hg ha
  have h := dual_cover hg (f := fun y => (gpL Size Sets Costs).getD y.toNat 0) (fun x hx => by simpa using p3 x hx) hc hv
  simp only [Int.toNat_natCast] at h
  rw [p1] at h
  refine Int.le_trans h ?_
  rw [cost_lsum, ← lsum_mul]
  refine lsum_le fun i hi => ?_
  have hin := hc i hi
  rw [← priced_lsum]
  refine Int.le_trans (p2 i.toNat (by omega)) ?_
  have c1 := gs_cost hg (k := i.toNat) (by omega)
  exact Int.mul_le_mul_of_nonneg_right (harm_mono most hm8 _ (hm i.toNat (by omega))) (by omega)
def choO (code : List Nat) (c : Cur) (m : Nat) : List Int := members (fun k => (pickV code c 256).toNat.testBit k) (min (m : Int) 8).toNat
def choE (code : List Nat) (c : Cur) (m : Nat) : List Int := if pickV code (pickC code c 256) 20 = 0 then choO code c m ++ [([-1, 0, (m : Int)] : List Int).getD (pickV code (pickC code (pickC code c 256) 20) 3).toNat 0] else choO code c m
def choC (code : List Nat) (c : Cur) : Cur := if pickV code (pickC code c 256) 20 = 0 then pickC code (pickC code (pickC code c 256) 20) 3 else pickC code (pickC code c 256) 20
theorem choO_len (code : List Nat) (c : Cur) (m : Nat) : (choO code c m).length ≤ 8 := by
  have h := members_len_le (fun k => (pickV code c 256).toNat.testBit k) (min (m : Int) 8).toNat
  unfold choO
  omega
def s_l1Cur_choice_C (f : FuncId) (ds : List D) : Orc := bif Nat.beq f 165 then s_l1Least_orc ds else .no
def s_l1Cur_choice_A (u : Value) (code : List Nat) (c : Cur) (Size : Int) (Sets : List (List Int)) (Costs : List Int) : Ann := .two (.none) (.two (.mark [(6, .call none (.one (.own 3 (.ints (members (fun k => (pickV code c 256).toNat.testBit k) (min (Sets.length : Int) 8).toNat)))))] [(5, .cell [.int .i64 ((pickC code c 256).pos), .int .u64 ((pickC code c 256).seed)] (.one (.d (.int .i64 (pickV code c 256)))))]) (.two (.two (.mark [] [(1, .cell [.int .i64 ((pickC code (pickC code c 256) 20).pos), .int .u64 ((pickC code (pickC code c 256) 20).seed)] (.one (.d (.bool (pickV code (pickC code c 256) 20 == 0)))))]) (.two (.mark [] [(6, .cell [.int .i64 ((pickC code (pickC code (pickC code c 256) 20) (([(-1), 0, (Sets.length : Int)]).length : Int)).pos), .int .u64 ((pickC code (pickC code (pickC code c 256) 20) (([(-1), 0, (Sets.length : Int)]).length : Int)).seed)] (.one (.d (.int .i64 (([(-1), 0, (Sets.length : Int)]).getD (pickV code (pickC code (pickC code c 256) 20) (([(-1), 0, (Sets.length : Int)]).length : Int)).toNat 0)))))]) (.none))) (.none)))
def s_l1Cur_choice_P (u : Value) (code : List Nat) (c : Cur) (Size : Int) (Sets : List (List Int)) (Costs : List Int) : Prop :=
  (PC Try.prog 165 [.int .i64 (Sets.length : Int), .int .i64 8] (.one (.d (.int .i64 (min (Sets.length : Int) 8))))) ∧ (PK Try.prog 107 98 (.sl (.bytes code)) [.int .i64 c.pos, .int .u64 c.seed] [.int .i64 ((pickC code c 256).pos), .int .u64 ((pickC code c 256).seed)] [.int .i64 256] (.one (.d (.int .i64 (pickV code c 256))))) ∧ (PC Try.prog 164 [.int .i64 (min (Sets.length : Int) 8), .int .i64 (pickV code c 256)] (.one (.own 3 (.ints (members (fun k => (pickV code c 256).toNat.testBit k) (min (Sets.length : Int) 8).toNat))))) ∧ (PK Try.prog 108 98 (.sl (.bytes code)) [.int .i64 ((pickC code c 256).pos), .int .u64 ((pickC code c 256).seed)] [.int .i64 ((pickC code (pickC code c 256) 20).pos), .int .u64 ((pickC code (pickC code c 256) 20).seed)] [.int .i64 20] (.one (.d (.bool (pickV code (pickC code c 256) 20 == 0))))) ∧ (((pickV code (pickC code c 256) 20 == 0) = true → ((3 : Nat) = 3) ∧ (PK Try.prog 106 98 (.sl (.bytes code)) [.int .i64 ((pickC code (pickC code c 256) 20).pos), .int .u64 ((pickC code (pickC code c 256) 20).seed)] [.int .i64 ((pickC code (pickC code (pickC code c 256) 20) (([(-1), 0, (Sets.length : Int)]).length : Int)).pos), .int .u64 ((pickC code (pickC code (pickC code c 256) 20) (([(-1), 0, (Sets.length : Int)]).length : Int)).seed)] [.sl (.ints ([(-1), 0, (Sets.length : Int)]))] (.one (.d (.int .i64 (([(-1), 0, (Sets.length : Int)]).getD (pickV code (pickC code (pickC code c 256) 20) (([(-1), 0, (Sets.length : Int)]).length : Int)).toNat 0))))) ∧ ((members (fun k => (pickV code c 256).toNat.testBit k) (min (Sets.length : Int) 8).toNat).length = (members (fun k => (pickV code c 256).toNat.testBit k) (min (Sets.length : Int) 8).toNat).length) ∧ ((1 : Nat) = 1) ∧ (((members (fun k => (pickV code c 256).toNat.testBit k) (min (Sets.length : Int) 8).toNat).length + 1) * 8 ≤ 140737488355328) ∧ (((.lit u (.sl (.bytes code)) : D) = .lit u (.sl (.bytes code))) ∧ ((pickC code (pickC code (pickC code c 256) 20) (([(-1), 0, (Sets.length : Int)]).length : Int)).pos = (choC code c).pos) ∧ ((pickC code (pickC code (pickC code c 256) 20) (([(-1), 0, (Sets.length : Int)]).length : Int)).seed = (choC code c).seed) ∧ (((members (fun k => (pickV code c 256).toNat.testBit k) (min (Sets.length : Int) 8).toNat).length + 1) = (members (fun k => (pickV code c 256).toNat.testBit k) (min (Sets.length : Int) 8).toNat ++ [(([(-1), 0, (Sets.length : Int)]).getD (pickV code (pickC code (pickC code c 256) 20) (([(-1), 0, (Sets.length : Int)]).length : Int)).toNat 0)]).length) ∧ (((members (fun k => (pickV code c 256).toNat.testBit k) (min (Sets.length : Int) 8).toNat ++ [(([(-1), 0, (Sets.length : Int)]).getD (pickV code (pickC code (pickC code c 256) 20) (([(-1), 0, (Sets.length : Int)]).length : Int)).toNat 0)]) : List Int) = choE code c Sets.length))) ∧ ((pickV code (pickC code c 256) 20 == 0) = false → (((.lit u (.sl (.bytes code)) : D) = .lit u (.sl (.bytes code))) ∧ ((pickC code (pickC code c 256) 20).pos = (choC code c).pos) ∧ ((pickC code (pickC code c 256) 20).seed = (choC code c).seed) ∧ ((members (fun k => (pickV code c 256).toNat.testBit k) (min (Sets.length : Int) 8).toNat).length = (members (fun k => (pickV code c 256).toNat.testBit k) (min (Sets.length : Int) 8).toNat).length) ∧ ((members (fun k => (pickV code c 256).toNat.testBit k) (min (Sets.length : Int) 8).toNat : List Int) = choE code c Sets.length))))
theorem s_l1Cur_choice_vc (u : Value) (code : List Nat) (c : Cur) (Size : Int) (Sets : List (List Int)) (Costs : List Int) (hb : ∀ x9 ∈ code, x9 < 256) (hc : okC c 2000000)  : s_l1Cur_choice_P u code c Size Sets Costs := by
  unfold s_l1Cur_choice_P
  refine ⟨s_l1Least_pc (Sets.length : Int) 8, ?_, ?_, ?_, ?_, ?_⟩
  ·refine s_l1Cur_pick_pk code c 256 ?_ ?_
   ·exact hb
   ·exact okC_le (by repeat (first | assumption | apply ok_cond | apply ok_pick | apply ok_next | exact okC0)) (by omega)
  ·refine s_l2Bits_own_pc (min (Sets.length : Int) 8) (pickV code c 256) ?_ ?_
   ·omega
   ·have v := pickV_in code c (n := 256) (by omega)
    omega
  ·refine s_l1Cur_one_pk code (pickC code c 256) 20 ?_ ?_
   ·exact hb
   ·exact okC_le (by repeat (first | assumption | apply ok_cond | apply ok_pick | apply ok_next | exact okC0)) (by omega)
  ·intro b1
   try simp only [nrmT] at b1
   refine ⟨rfl, ?_, rfl, rfl, ?_, rfl, ?_, ?_, ?_, ?_⟩
   ·refine s_l1Cur_among_pk code (pickC code (pickC code c 256) 20) ([(-1), 0, (Sets.length : Int)]) ?_ ?_ ?_
    ·exact hb
    ·exact okC_le (by repeat (first | assumption | apply ok_cond | apply ok_pick | apply ok_next | exact okC0)) (by omega)
    ·simp
   ·have h := choO_len code c Sets.length
    show ((choO code c Sets.length).length + 1) * 8 ≤ _
    omega
   ·unfold choC
    first | (rw [if_pos b1]; done) | (rw [if_pos b1]; rfl) | (rw [if_neg b1]; done) | (rw [if_neg b1]; rfl)
   ·unfold choC
    first | (rw [if_pos b1]; done) | (rw [if_pos b1]; rfl) | (rw [if_neg b1]; done) | (rw [if_neg b1]; rfl)
   ·(simp_all; done)
   ·unfold choE
    first | (rw [if_pos b1]; rfl) | (rw [if_neg b1]; rfl)
  ·intro b2
   try simp only [nrmT] at b2
   refine ⟨rfl, ?_, ?_, rfl, ?_⟩
   ·unfold choC
    first | (rw [if_pos b2]; done) | (rw [if_pos b2]; rfl) | (rw [if_neg b2]; done) | (rw [if_neg b2]; rfl)
   ·unfold choC
    first | (rw [if_pos b2]; done) | (rw [if_pos b2]; rfl) | (rw [if_neg b2]; done) | (rw [if_neg b2]; rfl)
   ·unfold choE
    first | (rw [if_pos b2]; rfl) | (rw [if_neg b2]; rfl)
theorem s_l1Cur_choice_pk (code : List Nat) (c : Cur) (Size : Int) (Sets : List (List Int)) (Costs : List Int) (hb : ∀ x9 ∈ code, x9 < 256) (hc : okC c 2000000) : PK Try.prog 225 98 (.sl (.bytes code)) [.int .i64 c.pos, .int .u64 c.seed] [.int .i64 (choC code c).pos, .int .u64 (choC code c).seed] [.agg [.int .i64 Size, .sl (.rows Sets), .sl (.ints Costs)]] (.one (.own 3 (.ints (choE code c Sets.length)))) :=
  pk_by (Q := fun u => s_l1Cur_choice_P u code c Size Sets Costs) (by kernel_rfl) Try.func225 @Try.call225 (by kernel_rfl) s_l1Cur_choice_C (fun u => s_l1Cur_choice_A u code c Size Sets Costs) (by kernel_rfl) (fun u => s_l1Cur_choice_vc u code c Size Sets Costs hb hc) (fun u => by kernel_rfl)
abbrev s_DrawCoveredBy_JR2 (code : List Nat) (c1 : Cur) (Z : Int) (S : List (List Int)) (K : List Int) : Prop := (okC c1 1001000)
abbrev s_DrawCoveredBy_Q (code : List Nat) (Z : Int) (S : List (List Int)) (K : List Int) (E : List Int) : Prop := True
def s_DrawCoveredBy_X (code : List Nat) : Ex := ex4 0 (fun (Z : Int) (S : List (List Int)) (K : List Int) (E : List Int) => s_DrawCoveredBy_Q code Z S K E) (fun (Z : Int) (S : List (List Int)) (K : List Int) (E : List Int) => []) (fun (Z : Int) (S : List (List Int)) (K : List Int) (E : List Int) => .tup [.d (.agg [.int .i64 Z, .sl (.rows S), .sl (.ints K)]), .d (.sl (.ints E))])
def s_DrawCoveredBy_C (f : FuncId) (ds : List D) : Orc := .no
def s_DrawCoveredBy_A (code : List Nat) : Ann := .two (.none) (.two (.none) (.cut (.exr (.ex [] 1 (s_l1Cur_system_X code cur0) (fun g => (fun (Zr2 : Int) (Sr2 : List (List Int)) (Kr2 : List Int) (czr2 : Cur) => .ms [] []) (g.1) (g.2.1) (g.2.2.1) (g.2.2.2)))) (cut4 (fun (c1 : Cur) (Z : Int) (S : List (List Int)) (K : List Int) => s_DrawCoveredBy_JR2 code c1 Z S K) (fun (c1 : Cur) (Z : Int) (S : List (List Int)) (K : List Int) => [(2, .ptr 2 0), (4, .ptr 8 0), (5, .ptr 5 0)]) (fun (c1 : Cur) (Z : Int) (S : List (List Int)) (K : List Int) => [(2, .box 36 [.d true (.int .i64 0), .d true (.nil), .d true (.nil)]), (8, .box 98 [.d false (.sl (.bytes code)), .d true (.int .i64 c1.pos), .d true (.int .u64 c1.seed)]), (5, .box 36 [.d true (.int .i64 Z), .d true (.sl (.rows S)), .d true (.sl (.ints K))])])) (fun g => (fun (c1 : Cur) (Z : Int) (S : List (List Int)) (K : List Int) => .two (.reg [(3, .cell [.int .i64 ((choC code c1).pos), .int .u64 ((choC code c1).seed)] (.one (.own 3 (.ints (choE code c1 S.length)))))]) (.none)) (g.1) (g.2.1) (g.2.2.1) (g.2.2.2))))
def s_DrawCoveredBy_P (code : List Nat) : Prop :=
  (((PKE Try.prog 163 98 (.sl (.bytes code)) [.int .i64 0, .int .u64 0] [] (s_l1Cur_system_X code cur0)) ∧ (∀ Zr2 : Int, ∀ Sr2 : List (List Int), ∀ Kr2 : List Int, ∀ czr2 : Cur, s_l1Cur_system_Q code cur0 Zr2 Sr2 Kr2 czr2 → ((true = true) ∧ (∃ c1' : Cur, ∃ Z' : Int, ∃ S' : List (List Int), ∃ K' : List Int, (s_DrawCoveredBy_JR2 code c1' Z' S' K') ∧ ((0 : Int) = 0) ∧ (code = code) ∧ (czr2.pos = c1'.pos) ∧ (czr2.seed = c1'.seed) ∧ (Zr2 = Z') ∧ (Sr2 = S') ∧ (Kr2 = K'))))) ∧ (∀ c1 : Cur, ∀ Z : Int, ∀ S : List (List Int), ∀ K : List Int, (s_DrawCoveredBy_JR2 code c1 Z S K) → (true = true) ∧ (PK Try.prog 225 98 (.sl (.bytes code)) [.int .i64 c1.pos, .int .u64 c1.seed] [.int .i64 ((choC code c1).pos), .int .u64 ((choC code c1).seed)] [.agg [.int .i64 Z, .sl (.rows S), .sl (.ints K)]] (.one (.own 3 (.ints (choE code c1 S.length))))) ∧ (∃ Z' : Int, ∃ S' : List (List Int), ∃ K' : List Int, ∃ E' : List Int, (s_DrawCoveredBy_Q code Z' S' K' E') ∧ ((.agg [.int .i64 Z, .sl (.rows S), .sl (.ints K)] : D) = .agg [.int .i64 Z', .sl (.rows S'), .sl (.ints K')]) ∧ ((choE code c1 S.length).length = (choE code c1 S.length).length) ∧ ((choE code c1 S.length : List Int) = E'))))
theorem s_DrawCoveredBy_vc (code : List Nat) (hb : ∀ x9 ∈ code, x9 < 256) (w_code : (code.length : Int) ≤ 9223372036854775807) : s_DrawCoveredBy_P code := by
  unfold s_DrawCoveredBy_P
  refine ⟨?_, ?_⟩
  ·refine ⟨?_, ?_⟩
   ·refine s_l1Cur_system_pke code cur0 ?_ ?_
    ·exact hb
    ·exact okC_le (by repeat (first | assumption | apply ok_cond | apply ok_pick | apply ok_next | exact okC0)) (by omega)
   ·intro Zr2 Sr2 Kr2 czr2 hQ9
    have q1r2 := hQ9
    refine ⟨rfl, ?_⟩
    ·refine ⟨czr2, Zr2, Sr2, Kr2, ?_⟩
     refine ⟨?_, rfl, rfl, rfl, rfl, rfl, rfl, rfl⟩
     ·unfold s_DrawCoveredBy_JR2
      assumption
  ·intro c1 Z S K hJ
   have q1 := hJ
   refine ⟨rfl, ?_, ?_⟩
   ·refine s_l1Cur_choice_pk code c1 Z S K ?_ ?_
    ·exact hb
    ·exact okC_le (by repeat (first | assumption | apply ok_cond | apply ok_pick | apply ok_next | exact okC0)) (by omega)
   ·refine ⟨Z, S, K, choE code c1 S.length, ?_⟩
    refine ⟨?_, rfl, rfl, rfl⟩
    ·trivial
theorem s_DrawCoveredBy_pe (code : List Nat) (hb : ∀ x9 ∈ code, x9 < 256) : PE Try.prog 184 [.sl (.bytes code)] (s_DrawCoveredBy_X code) :=
  pe_wf @Try.call184 fun hw => pe_by (by kernel_rfl) Try.func184 @Try.call184 (by kernel_rfl) s_DrawCoveredBy_C (s_DrawCoveredBy_A code) (by kernel_rfl) (s_DrawCoveredBy_vc code hb hw.1) (by kernel_rfl)
abbrev s_DrawIsCover_Q (code : List Nat) (Z : Int) (S : List (List Int)) (K : List Int) (E : List Int) : Prop := True
def s_DrawIsCover_X (code : List Nat) : Ex := ex4 0 (fun (Z : Int) (S : List (List Int)) (K : List Int) (E : List Int) => s_DrawIsCover_Q code Z S K E) (fun (Z : Int) (S : List (List Int)) (K : List Int) (E : List Int) => []) (fun (Z : Int) (S : List (List Int)) (K : List Int) (E : List Int) => .tup [.d (.agg [.int .i64 Z, .sl (.rows S), .sl (.ints K)]), .d (.sl (.ints E))])
def s_DrawIsCover_C (f : FuncId) (ds : List D) : Orc := .no
def s_DrawIsCover_A (code : List Nat) : Ann := .two (.none) (.two (.exr (.ex [] 1 (s_DrawCoveredBy_X code) (fun g => (fun (Zr1 : Int) (Sr1 : List (List Int)) (Kr1 : List Int) (Er1 : List Int) => .ms [] []) (g.1) (g.2.1) (g.2.2.1) (g.2.2.2)))) (.none))
def s_DrawIsCover_P (code : List Nat) : Prop :=
  (PE Try.prog 184 [.sl (.bytes code)] (s_DrawCoveredBy_X code)) ∧ (∀ Zr1 : Int, ∀ Sr1 : List (List Int), ∀ Kr1 : List Int, ∀ Er1 : List Int, s_DrawCoveredBy_Q code Zr1 Sr1 Kr1 Er1 → ((true = true) ∧ (∃ Z' : Int, ∃ S' : List (List Int), ∃ K' : List Int, ∃ E' : List Int, (s_DrawIsCover_Q code Z' S' K' E') ∧ ((.agg [.int .i64 Zr1, .sl (.rows Sr1), .sl (.ints Kr1)] : D) = .agg [.int .i64 Z', .sl (.rows S'), .sl (.ints K')]) ∧ ((Er1 : List Int) = E'))))
theorem s_DrawIsCover_vc (code : List Nat) (hb : ∀ x9 ∈ code, x9 < 256) (w_code : (code.length : Int) ≤ 9223372036854775807) : s_DrawIsCover_P code := by
  unfold s_DrawIsCover_P
  refine ⟨?_, ?_⟩
  ·refine s_DrawCoveredBy_pe code ?_
   ·exact hb
  ·intro Zr1 Sr1 Kr1 Er1 hQ9
   refine ⟨rfl, ?_⟩
   ·refine ⟨Zr1, Sr1, Kr1, Er1, ?_⟩
    refine ⟨?_, rfl, rfl⟩
    ·trivial
theorem s_DrawIsCover_pe (code : List Nat) (hb : ∀ x9 ∈ code, x9 < 256) : PE Try.prog 96 [.sl (.bytes code)] (s_DrawIsCover_X code) :=
  pe_wf @Try.call96 fun hw => pe_by (by kernel_rfl) Try.func96 @Try.call96 (by kernel_rfl) s_DrawIsCover_C (s_DrawIsCover_A code) (by kernel_rfl) (s_DrawIsCover_vc code hb hw.1) (by kernel_rfl)
abbrev l_rSorted_JJ0 (list : List Int) (out : List Int) (x : Int) : Prop := (-1 ≤ x) ∧ (x ≤ 1001) ∧ (out = srtTo list (x + 1).toNat)
abbrev l_rSorted_mJ0 (list : List Int) (out : List Int) (x : Int) : Nat := (1001 - x).toNat
def l_rSorted_C (f : FuncId) (ds : List D) : Orc := bif Nat.beq f 83 then l_rHas_orc ds else .no
def l_rSorted_A (list : List Int) : Ann := .two (.none) (.two (.none) (.two (.two (.none) (.loop (cut2 (fun (out : List Int) (x : Int) => l_rSorted_JJ0 list out x) (fun (out : List Int) (x : Int) => [(0, .d false (.sl (.ints list))), (3, .own 1000000 out.length), (4, .d true (.int .i64 x))]) (fun (out : List Int) (x : Int) => [(1000000, .arr true 3 (.ints out))])) (fun g => l_rSorted_mJ0 list g.1 g.2) (fun _ => .none))) (.none)))
def l_rSorted_P (list : List Int) : Prop :=
  ((∃ out' : List Int, ∃ x' : Int, (l_rSorted_JJ0 list out' x') ∧ (list = list) ∧ ((0 : Nat) = out'.length) ∧ (((-1) : Int) = x') ∧ ([] = out')) ∧ (∀ out : List Int, ∀ x : Int, (l_rSorted_JJ0 list out x) → (((decide (x ≤ 1000)) = true → (PC Try.prog 83 [.sl (.ints list), .int .i64 x] (.one (.d (.bool (list.contains x))))) ∧ (((list.contains x) = true → (out.length = out.length) ∧ ((1 : Nat) = 1) ∧ ((out.length + 1) * 8 ≤ 140737488355328) ∧ (-9223372036854775808 ≤ (x + 1) ∧ (x + 1) ≤ 9223372036854775807) ∧ (∃ out' : List Int, ∃ x' : Int, (l_rSorted_JJ0 list out' x') ∧ (l_rSorted_mJ0 list out' x' < l_rSorted_mJ0 list out x) ∧ (list = list) ∧ ((out.length + 1) = out'.length) ∧ ((x + 1) = x') ∧ ((out ++ [x]) = out'))) ∧ ((list.contains x) = false → (-9223372036854775808 ≤ (x + 1) ∧ (x + 1) ≤ 9223372036854775807) ∧ (∃ out' : List Int, ∃ x' : Int, (l_rSorted_JJ0 list out' x') ∧ (l_rSorted_mJ0 list out' x' < l_rSorted_mJ0 list out x) ∧ (list = list) ∧ (out.length = out'.length) ∧ ((x + 1) = x') ∧ (out = out'))))) ∧ ((decide (x ≤ 1000)) = false → ((out.length = out.length) ∧ ((out : List Int) = srt list))))))
theorem l_rSorted_vc (list : List Int)  (w_list : (list.length : Int) ≤ 9223372036854775807) : l_rSorted_P list := by
  unfold l_rSorted_P
  refine ⟨?_, ?_⟩
  ·refine ⟨([]), (-1), ?_⟩
   refine ⟨?_, rfl, rfl, rfl, ?_⟩
   ·refine ⟨?_, ?_, ?_⟩
    ·omega
    ·omega
    ·rfl
   ·rfl
  ·intro out x hJ
   obtain ⟨h1, h2, h3⟩ := hJ
   refine ⟨?_, ?_⟩
   ·intro b1
    try simp only [nrmT] at b1
    refine ⟨l_rHas_pc list x, ?_, ?_⟩
    ·intro b2
     try simp only [nrmT] at b2
     refine ⟨rfl, rfl, ?_, ?_, ?_⟩
     ·have h := srtTo_len list (x + 1).toNat
      rw [← h3] at h
      omega
     ·omega
     ·refine ⟨(out ++ [x]), (x + 1), ?_⟩
      refine ⟨?_, ?_, rfl, ?_, rfl, rfl⟩
      ·refine ⟨?_, ?_, ?_⟩
       ·omega
       ·omega
       ·rw [show (x + 1 + 1).toNat = (x + 1).toNat + 1 by omega, srtTo_succ, ← h3, show (((x + 1).toNat : Nat) : Int) - 1 = x by omega, if_pos b2]
      ·first | (show _ < _; omega) | (simp only [l_rSorted_mJ0]; omega) | (simp only [l_rSorted_mJ0] at *; simp at *; omega)
      ·simp
    ·intro b3
     try simp only [nrmT] at b3
     refine ⟨?_, ?_⟩
     ·omega
     ·refine ⟨out, (x + 1), ?_⟩
      refine ⟨?_, ?_, rfl, rfl, rfl, rfl⟩
      ·refine ⟨?_, ?_, ?_⟩
       ·omega
       ·omega
       ·rw [show (x + 1 + 1).toNat = (x + 1).toNat + 1 by omega, srtTo_succ, ← h3, show (((x + 1).toNat : Nat) : Int) - 1 = x by omega, if_neg (by rw [b3]; decide)]
      ·first | (show _ < _; omega) | (simp only [l_rSorted_mJ0]; omega) | (simp only [l_rSorted_mJ0] at *; simp at *; omega)
   ·intro b4
    try simp only [nrmT] at b4
    refine ⟨rfl, ?_⟩
    ·rw [h3, show (x + 1).toNat = 1002 by omega]; rfl
theorem l_rSorted_pc (list : List Int)  : PC Try.prog 105 [.sl (.ints list)] (.one (.own 3 (.ints (srt list)))) :=
  pc_wf @Try.call105 fun hw => pc_by (by kernel_rfl) Try.func105 @Try.call105 (by kernel_rfl) l_rSorted_C (l_rSorted_A list) (by kernel_rfl) (l_rSorted_vc list hw.1) (by kernel_rfl)
def l_rSorted_orc : List D → Orc := orcN [some .ints] fun ds => match ds with
  | [.sl (.ints list)] => some (.one (.own 3 (.ints (srt list))))
  | _ => none
theorem lsum_take {l : List Int} {i : Int} (h0 : 0 ≤ i) (h : i < (l.length : Int)) : lsum (fun y => y) (l.take (i + 1).toNat) = lsum (fun y => y) (l.take i.toNat) + l.getD i.toNat 0 := by
  rw [take_step (d := 0) h0 h, lsum_app]; simp [lsum]
theorem lsum_upto {l : List Int} (h : ∀ y ∈ l, 0 ≤ y ∧ y ≤ 1000000) : 0 ≤ lsum (fun y => y) l ∧ lsum (fun y => y) l ≤ 1000000 * (l.length : Int) := by
  induction l with
  | nil => simp [lsum]
  | cons x r ih =>
    have h1 := h x List.mem_cons_self
    have h2 := ih fun y hy => h y (List.mem_cons_of_mem _ hy)
    rw [lsum_cons, List.length_cons]
    omega
abbrev l_rSum_JJ0 (list : List Int) (sum : Int) (i : Int) : Prop := (0 ≤ i) ∧ (i ≤ (list.length : Int)) ∧ (sum = lsum (fun y => y) (list.take i.toNat))
abbrev l_rSum_mJ0 (list : List Int) (sum : Int) (i : Int) : Nat := (list.length - i).toNat
def l_rSum_C (f : FuncId) (ds : List D) : Orc := .no
def l_rSum_A (list : List Int) : Ann := .two (.none) (.two (.none) (.two (.two (.none) (.loop (cut2 (fun (sum : Int) (i : Int) => l_rSum_JJ0 list sum i) (fun (sum : Int) (i : Int) => [(0, .d false (.sl (.ints list))), (3, .d true (.int .i64 sum)), (4, .d true (.int .i64 i))]) (fun (sum : Int) (i : Int) => [])) (fun g => l_rSum_mJ0 list g.1 g.2) (fun _ => .none))) (.none)))
def l_rSum_P (list : List Int) : Prop :=
  ((∃ sum' : Int, ∃ i' : Int, (l_rSum_JJ0 list sum' i') ∧ (list = list) ∧ ((0 : Int) = sum') ∧ ((0 : Int) = i')) ∧ (∀ sum : Int, ∀ i : Int, (l_rSum_JJ0 list sum i) → (((decide (i < (list.length : Int))) = true → ((0 : Int) ≤ i) ∧ ((i : Int) < list.length) ∧ (i.toNat < list.length) ∧ (-9223372036854775808 ≤ (sum + (list.getD i.toNat 0)) ∧ (sum + (list.getD i.toNat 0)) ≤ 9223372036854775807) ∧ (-9223372036854775808 ≤ (i + 1) ∧ (i + 1) ≤ 9223372036854775807) ∧ (∃ sum' : Int, ∃ i' : Int, (l_rSum_JJ0 list sum' i') ∧ (l_rSum_mJ0 list sum' i' < l_rSum_mJ0 list sum i) ∧ (list = list) ∧ ((sum + (list.getD i.toNat 0)) = sum') ∧ ((i + 1) = i'))) ∧ ((decide (i < (list.length : Int))) = false → ((sum = (lsum (fun y => y) list)))))))
theorem l_rSum_vc (list : List Int) (hl : list.length ≤ 8) (hy : ∀ y ∈ list, 0 ≤ y ∧ y ≤ 1000000) (w_list : (list.length : Int) ≤ 9223372036854775807) : l_rSum_P list := by
  unfold l_rSum_P
  have hy9 := hy
  refine ⟨?_, ?_⟩
  ·refine ⟨0, 0, ?_⟩
   refine ⟨?_, rfl, rfl, rfl⟩
   ·refine ⟨?_, ?_, ?_⟩
    ·omega
    ·omega
    ·simp [lsum]
  ·intro sum i hJ
   obtain ⟨h1, h2, h3⟩ := hJ
   refine ⟨?_, ?_⟩
   ·intro b1
    try simp only [nrmT] at b1
    refine ⟨?_, ?_, ?_, ?_, ?_, ?_⟩
    ·omega
    ·omega
    ·omega
    ·have h4 := lsum_upto (l := list.take i.toNat) fun y hy => hy9 y (List.mem_of_mem_take hy)
     rw [← h3, List.length_take] at h4
     have h5 := hy9 _ (getD_memI (d := 0) h1 (by omega))
     omega
    ·omega
    ·refine ⟨(sum + (list.getD i.toNat 0)), (i + 1), ?_⟩
     refine ⟨?_, ?_, rfl, rfl, rfl⟩
     ·refine ⟨?_, ?_, ?_⟩
      ·omega
      ·omega
      ·rw [lsum_take h1 (by omega), h3]
     ·first | (show _ < _; omega) | (simp only [l_rSum_mJ0]; omega) | (simp only [l_rSum_mJ0] at *; simp at *; omega)
   ·intro b2
    try simp only [nrmT] at b2
    rw [h3, take_all (by omega)]
theorem l_rSum_pc (list : List Int) (hl : list.length ≤ 8) (hy : ∀ y ∈ list, 0 ≤ y ∧ y ≤ 1000000) : PC Try.prog 95 [.sl (.ints list)] (.one (.d (.int .i64 (lsum (fun y => y) list)))) :=
  pc_wf @Try.call95 fun hw => pc_by (by kernel_rfl) Try.func95 @Try.call95 (by kernel_rfl) l_rSum_C (l_rSum_A list) (by kernel_rfl) (l_rSum_vc list hl hy hw.1) (by kernel_rfl)
def l_rSum_orc : List D → Orc := orcN [some .ints] fun ds => match ds with
  | [.sl (.ints list)] => some (.one (.d (.int .i64 (lsum (fun y => y) list))))
  | _ => none
theorem cv_two {Size : Int} {Sets : List (List Int)} {Costs c : List Int} (h : (goodSys Size Sets Costs && rising c 0 ((Sets.length : Int) - 1)) = true) : (((covBy Size Sets Costs c).length : Int) == Size) = coverB Size Sets c := by
  have h2 := h
  rw [Bool.and_eq_true] at h2
  have gf := gs_facts h2.1
  have e : covBy Size Sets Costs c = members (covB Sets c) Size.toNat := by unfold covBy; rw [if_pos h]
  rw [e, Bool.eq_iff_iff, beq_iff_eq]
  unfold coverB
  rw [← members_full]
  omega
theorem cv_min {Size : Int} {Sets : List (List Int)} {Costs c : List Int} (hg : goodSys Size Sets Costs = true) (hr : rising c 0 ((Sets.length : Int) - 1) = true) (hv : coverB Size Sets c = true) :
    lcOk Size Sets Costs = true ∧ costOf Costs (lcL Size Sets Costs) ≤ costOf Costs c := by
  have hm := rising_chs hr
  have hk : lcOk Size Sets Costs = true := by unfold lcOk; rw [hg, cover_all (chs_inR hm) hv]; rfl
  refine ⟨hk, ?_⟩
  unfold lcL
  rw [if_pos hk]
  exact leastL_min (v := costOf Costs) (List.mem_filter.2 ⟨hm, hv⟩)
theorem cost_small {Size : Int} {Sets : List (List Int)} {Costs c : List Int} (hg : goodSys Size Sets Costs = true) (hr : rising c 0 ((Sets.length : Int) - 1) = true) : 0 ≤ costOf Costs c ∧ costOf Costs c ≤ 792 := by
  have gf := gs_facts hg
  have h1 := sumTo_bound (f := costAt Costs c) c.length fun k hk => costAt_bound hg hr hk
  have h2 := rising_len hr (by omega)
  unfold costOf
  omega
theorem cv_facts {Size : Int} {Sets : List (List Int)} {Costs : List Int} (hk : lcOk Size Sets Costs = true) :
    goodSys Size Sets Costs = true ∧ rising (lcL Size Sets Costs) 0 ((Sets.length : Int) - 1) = true ∧ coverB Size Sets (lcL Size Sets Costs) = true ∧ rising (srt (gcvL Size Sets Costs)) 0 ((Sets.length : Int) - 1) = true ∧ coverB Size Sets (srt (gcvL Size Sets Costs)) = true ∧
    costOf Costs (lcL Size Sets Costs) ≤ costOf Costs (srt (gcvL Size Sets Costs)) ∧ lsum (fun y => y) (gpL Size Sets Costs) = 840 * costOf Costs (srt (gcvL Size Sets Costs)) ∧ (gpL Size Sets Costs).length = Size.toNat ∧
    (∀ y ∈ gpL Size Sets Costs, 0 ≤ y ∧ y ≤ 1000000) ∧ (∀ j, j < Sets.length → lsum (fun y => (gpL Size Sets Costs).getD y.toNat 0) (Sets.getD j []) ≤ harmSum (Sets.getD j []).length * Costs.getD j 0) ∧
    ∀ most : Nat, most ≤ 8 → (∀ j, j < Sets.length → (Sets.getD j []).length ≤ most) → 840 * costOf Costs (srt (gcvL Size Sets Costs)) ≤ harmSum most * costOf Costs (lcL Size Sets Costs) := by
  have hk2 := hk
  unfold lcOk at hk2
  rw [Bool.and_eq_true] at hk2
  obtain ⟨hg, ha⟩ := hk2
  have gf := gs_facts hg
  have eg : gcvL Size Sets Costs = grO Size Sets Costs := by unfold gcvL; rw [if_pos hg]
  have el : lcL Size Sets Costs = lcS Size Sets Costs := by unfold lcL; rw [if_pos hk]
  have ep : gpL Size Sets Costs = prL Size Sets Costs (grO Size Sets Costs) (grO Size Sets Costs).length := by unfold gpL; rw [hg, ha]; rfl
  obtain ⟨s1, s2, s3⟩ := gr_srt hg ha
  obtain ⟨p1, p2, p3⟩ := gr_prices hg ha
  have hm := leastL_mem (v := costOf Costs) (lc_pos (Size := Size) ha)
  obtain ⟨m1, m2⟩ := List.mem_filter.1 hm
  have r1 : rising (lcL Size Sets Costs) 0 ((Sets.length : Int) - 1) = true := by rw [el]; exact chs_rising m1
  have v1 : coverB Size Sets (lcL Size Sets Costs) = true := by rw [el]; exact m2
  have hl : (gpL Size Sets Costs).length = Size.toNat := by rw [ep, prL_len]
  have ok := grO_ok (Costs := Costs) hg
  rw [eg]
  refine ⟨hg, r1, v1, s1, s2, (cv_min hg s1 s2).2, ?_, hl, fun y hy => ?_, fun j hj => ?_, fun most h8 hmost => ?_⟩
  · rw [s3, ← p1, ← sumTo_lsum, hl]
  · obtain ⟨x, hx, rfl⟩ := List.mem_iff_getElem.1 hy
    have h0 := p3 x (by omega)
    rw [getD_get hx] at h0
    refine ⟨h0, ?_⟩
    have key : ∀ i, i ≤ (grO Size Sets Costs).length → prAt Sets Costs (grO Size Sets Costs) i x ≤ 1000000 := by
      intro i
      induction i with
      | zero => intro _; show (0 : Int) ≤ _; omega
      | succ i ih =>
        intro hi
        simp only [prAt]
        split
        · have hin := ok.inR _ (getD_mem (d := 0) (show i < (grO Size Sets Costs).length by omega))
          have := (pr_bound (n := newN Sets ((grO Size Sets Costs).take i) ((grO Size Sets Costs).getD i 0).toNat) (new_one hg ok (by omega)).1 (gs_cost hg (k := ((grO Size Sets Costs).getD i 0).toNat) (by omega))).2
          unfold prV
          omega
        · exact ih (by omega)
    have h9 := key _ (Nat.le_refl _)
    rw [← gp_get (Size := Size) (show x < Size.toNat by omega), ← ep, getD_get hx] at h9
    exact h9
  · have := p2 j hj
    rw [priced_lsum] at this
    exact this
  · rw [s3]
    exact gr_bound hg ha (fun y hy => by have := rising_mem r1 y hy; omega) v1 h8 hmost
abbrev l_FnCovers_JJ0 (code : List Nat) (E : List Int) (Z : Int) (S : List (List Int)) (K : List Int) (most : Int) (i : Int) : Prop := (lcOk Z S K = true) ∧ (0 ≤ i) ∧ (i ≤ (S.length : Int)) ∧ (0 ≤ most ∧ most ≤ 8) ∧ (∀ j, j < i.toNat → ((S.getD j []).length : Int) ≤ most)
abbrev l_FnCovers_mJ0 (code : List Nat) (E : List Int) (Z : Int) (S : List (List Int)) (K : List Int) (most : Int) (i : Int) : Nat := (S.length - i).toNat
abbrev l_FnCovers_JJ1 (code : List Nat) (E : List Int) (Z : Int) (S : List (List Int)) (K : List Int) (most : Int) (i : Int) (sum : Int) (k : Int) : Prop := (0 ≤ k) ∧ (k ≤ ((S.getD i.toNat []).length : Int)) ∧ (sum = lsum (fun y => (gpL Z S K).getD y.toNat 0) ((S.getD i.toNat []).take k.toNat))
abbrev l_FnCovers_mJ1 (code : List Nat) (E : List Int) (Z : Int) (S : List (List Int)) (K : List Int) (most : Int) (i : Int) (sum : Int) (k : Int) : Nat := ((S.getD i.toNat []).length - k).toNat
abbrev l_FnCovers_JR3 (code : List Nat) (E : List Int) (Z : Int) (S : List (List Int)) (K : List Int) : Prop := True
def l_FnCovers_C (f : FuncId) (ds : List D) : Orc := bif Nat.beq f 14 then l_rBig_orc ds else bif Nat.beq f 94 then i_IsCover_orc ds else bif Nat.beq f 97 then s_IsCover_orc ds else bif Nat.beq f 98 then i_CoveredBy_orc ds else bif Nat.beq f 99 then s_CoveredBy_orc ds else bif Nat.beq f 18 then l_rInts_orc ds else bif Nat.beq f 93 then i_CostOf_orc ds else bif Nat.beq f 100 then s_CostOf_orc ds else bif Nat.beq f 82 then i_LeastCover_orc ds else bif Nat.beq f 89 then s_LeastCover_orc ds else bif Nat.beq f 101 then i_GreedyCover_orc ds else bif Nat.beq f 102 then s_GreedyCover_orc ds else bif Nat.beq f 103 then i_GreedyPrices_orc ds else bif Nat.beq f 104 then s_GreedyPrices_orc ds else bif Nat.beq f 105 then l_rSorted_orc ds else bif Nat.beq f 95 then l_rSum_orc ds else bif Nat.beq f 91 then i_HarmonicOf_orc ds else bif Nat.beq f 92 then s_HarmonicOf_orc ds else .no
def l_FnCovers_A (code : List Nat) : Ann := .two (.none) (.two (.none) (.cut (.exr (.ex [] 1 (s_DrawIsCover_X code) (fun g => (fun (Zr3 : Int) (Sr3 : List (List Int)) (Kr3 : List Int) (Er3 : List Int) => .ms [] []) (g.1) (g.2.1) (g.2.2.1) (g.2.2.2)))) (cut4 (fun (E : List Int) (Z : Int) (S : List (List Int)) (K : List Int) => l_FnCovers_JR3 code E Z S K) (fun (E : List Int) (Z : Int) (S : List (List Int)) (K : List Int) => [(3, .ptr 3 0), (4, .d true (.sl (.ints E)))]) (fun (E : List Int) (Z : Int) (S : List (List Int)) (K : List Int) => [(3, .box 36 [.d true (.int .i64 Z), .d true (.sl (.rows S)), .d true (.sl (.ints K))])])) (fun g => (fun (E : List Int) (Z : Int) (S : List (List Int)) (K : List Int) => .two (.none) (.two (.none) (.two (.none) (.two (.none) (.two (.none) (.two (.none) (.two (.none) (.two (.none) (.two (.none) (.two (.none) (.two (.none) (.two (.none) (.two (.none) (.two (.none) (.two (.none) (.two (.none) (.two (.none) (.two (.none) (.two (.none) (.two (.two (.none) (.loop (cut2 (fun (most : Int) (i : Int) => l_FnCovers_JJ0 code E Z S K most i) (fun (most : Int) (i : Int) => [(3, .ptr 3 0), (25, .own 168 ((gpL Z S K).length)), (29, .d true (.int .i64 (if goodSys Z S K && rising (lcL Z S K) 0 ((S.length : Int) - 1) then costOf K (lcL Z S K) else 0))), (31, .d true (.int .i64 (if goodSys Z S K && rising (srt (gcvL Z S K)) 0 ((S.length : Int) - 1) then costOf K (srt (gcvL Z S K)) else 0))), (35, .d true (.int .i64 most)), (36, .d true (.int .i64 i))]) (fun (most : Int) (i : Int) => [(3, .box 36 [.d true (.int .i64 Z), .d true (.sl (.rows S)), .d true (.sl (.ints K))]), (168, .arr true 3 (.ints (gpL Z S K)))])) (fun g => l_FnCovers_mJ0 code E Z S K g.1 g.2) (fun g => (fun (most : Int) (i : Int) => .two (.none) (.two (.two (.none) (.two (.two (.none) (.loop (cut2 (fun (sum : Int) (k : Int) => l_FnCovers_JJ1 code E Z S K most i sum k) (fun (sum : Int) (k : Int) => [(3, .ptr 3 0), (25, .own 168 ((gpL Z S K).length)), (29, .d true (.int .i64 (if goodSys Z S K && rising (lcL Z S K) 0 ((S.length : Int) - 1) then costOf K (lcL Z S K) else 0))), (31, .d true (.int .i64 (if goodSys Z S K && rising (srt (gcvL Z S K)) 0 ((S.length : Int) - 1) then costOf K (srt (gcvL Z S K)) else 0))), (35, .d true (.int .i64 most)), (36, .d true (.int .i64 i)), (37, .d true (.int .i64 sum)), (38, .d true (.int .i64 k))]) (fun (sum : Int) (k : Int) => [(3, .box 36 [.d true (.int .i64 Z), .d true (.sl (.rows S)), .d true (.sl (.ints K))]), (168, .arr true 3 (.ints (gpL Z S K)))])) (fun g => l_FnCovers_mJ1 code E Z S K most i g.1 g.2) (fun _ => .none))) (.none))) (.none))) (g.1) (g.2)))) (.none))))))))))))))))))))) (g.1) (g.2.1) (g.2.2.1) (g.2.2.2))))
def l_FnCovers_e4 (Z : Int) (S : List (List Int)) (K : List Int) : Bool := (cond ((goodSys Z S K && coverB Z S (allN S.length)) != (goodSys Z S K && coverB Z S (allN S.length))) true ((goodSys Z S K && coverB Z S (allN S.length)) != (lcOk Z S K)))
def l_FnCovers_e6 (E : List Int) (Z : Int) (S : List (List Int)) (K : List Int) : Bool := (cond ((goodSys Z S K && rising E 0 ((S.length : Int) - 1)) != (goodSys Z S K && rising E 0 ((S.length : Int) - 1))) true ((goodSys Z S K && rising E 0 ((S.length : Int) - 1)) != (goodSys Z S K && rising E 0 ((S.length : Int) - 1))))
def l_FnCovers_e7 (E : List Int) (Z : Int) (S : List (List Int)) (K : List Int) : Bool := (cond (goodSys Z S K && rising E 0 ((S.length : Int) - 1)) (((goodSys Z S K && rising E 0 ((S.length : Int) - 1)) && coverB Z S E) != ((((covBy Z S K E).length) : Int) == Z)) false)
def l_FnCovers_e8 (E : List Int) (Z : Int) (S : List (List Int)) (K : List Int) : Bool := (cond ((if goodSys Z S K && rising E 0 ((S.length : Int) - 1) then costOf K E else 0) != (if goodSys Z S K && rising E 0 ((S.length : Int) - 1) then costOf K E else 0)) true ((goodSys Z S K && rising E 0 ((S.length : Int) - 1)) != (goodSys Z S K && rising E 0 ((S.length : Int) - 1))))
def l_FnCovers_e9 (S : List (List Int)) (i : Int) : Bool := (cond (!(decide (0 ≤ (((S.getD i.toNat []).length) : Int) ∧ (((S.getD i.toNat []).length) : Int) ≤ 8))) true (!(decide (0 ≤ (((S.getD i.toNat []).length) : Int) ∧ (((S.getD i.toNat []).length) : Int) ≤ 8))))
def l_FnCovers_e2 (S : List (List Int)) (i : Int) : Bool := (cond (l_FnCovers_e9 S i) true ((harm (((S.getD i.toNat []).length) : Int)) != (harm (((S.getD i.toNat []).length) : Int))))
def l_FnCovers_e11 (Z : Int) (S : List (List Int)) (K : List Int) : Bool := (cond (!(goodSys Z S K && rising (lcL Z S K) 0 ((S.length : Int) - 1))) true (!(goodSys Z S K && rising (srt (gcvL Z S K)) 0 ((S.length : Int) - 1))))
def l_FnCovers_e5 (Z : Int) (S : List (List Int)) (K : List Int) : Bool := (cond (l_FnCovers_e11 Z S K) true (!(goodSys Z S K && rising (srt (gcvL Z S K)) 0 ((S.length : Int) - 1))))
def l_FnCovers_e10 (Z : Int) (S : List (List Int)) (K : List Int) : Bool := (cond (l_FnCovers_e5 Z S K) true (!((goodSys Z S K && rising (srt (gcvL Z S K)) 0 ((S.length : Int) - 1)) && coverB Z S (srt (gcvL Z S K)))))
def l_FnCovers_e1 (Z : Int) (S : List (List Int)) (K : List Int) : Bool := (cond (l_FnCovers_e10 Z S K) true (decide ((if goodSys Z S K && rising (lcL Z S K) 0 ((S.length : Int) - 1) then costOf K (lcL Z S K) else 0) > (if goodSys Z S K && rising (srt (gcvL Z S K)) 0 ((S.length : Int) - 1) then costOf K (srt (gcvL Z S K)) else 0))))
def l_FnCovers_e3 (E : List Int) (Z : Int) (S : List (List Int)) (K : List Int) : Bool := (cond (l_FnCovers_e1 Z S K) true (cond ((goodSys Z S K && rising E 0 ((S.length : Int) - 1)) && coverB Z S E) (decide ((if goodSys Z S K && rising E 0 ((S.length : Int) - 1) then costOf K E else 0) < (if goodSys Z S K && rising (lcL Z S K) 0 ((S.length : Int) - 1) then costOf K (lcL Z S K) else 0))) false))
def l_FnCovers_e12 (E : List Int) (Z : Int) (S : List (List Int)) (K : List Int) : Bool := (cond (((goodSys Z S K && rising E 0 ((S.length : Int) - 1)) && coverB Z S E) != ((goodSys Z S K && rising E 0 ((S.length : Int) - 1)) && coverB Z S E)) true ((goodSys Z S K && rising E 0 ((S.length : Int) - 1)) != (goodSys Z S K && rising E 0 ((S.length : Int) - 1))))
def l_FnCovers_e13 (E : List Int) (Z : Int) (S : List (List Int)) (K : List Int) : Bool := (cond (l_FnCovers_e3 E Z S K) true ((lsum (fun y => y) (gpL Z S K)) != (840 * (if goodSys Z S K && rising (srt (gcvL Z S K)) 0 ((S.length : Int) - 1) then costOf K (srt (gcvL Z S K)) else 0))))
set_option maxRecDepth 100000 in
def l_FnCovers_P (code : List Nat) : Prop :=
  (PC Try.prog 14 [.sl (.bytes code)] (.one (.d (.bool (decide ((code.length : Int) > 65536)))))) ∧ (((decide ((code.length : Int) > 65536)) = true → ((true = true))) ∧ ((decide ((code.length : Int) > 65536)) = false → (((PE Try.prog 96 [.sl (.bytes code)] (s_DrawIsCover_X code)) ∧ (∀ Zr3 : Int, ∀ Sr3 : List (List Int), ∀ Kr3 : List Int, ∀ Er3 : List Int, s_DrawIsCover_Q code Zr3 Sr3 Kr3 Er3 → ((true = true) ∧ (∃ E' : List Int, ∃ Z' : Int, ∃ S' : List (List Int), ∃ K' : List Int, (l_FnCovers_JR3 code E' Z' S' K') ∧ (Er3 = E') ∧ (Zr3 = Z') ∧ (Sr3 = S') ∧ (Kr3 = K'))))) ∧ (∀ E : List Int, ∀ Z : Int, ∀ S : List (List Int), ∀ K : List Int, (l_FnCovers_JR3 code E Z S K) → (PC Try.prog 94 [.agg [.int .i64 Z, .sl (.rows S), .sl (.ints K)], .sl (.ints E)] (.tup [.d (.bool ((goodSys Z S K && rising E 0 ((S.length : Int) - 1)) && coverB Z S E)), .d (.bool (goodSys Z S K && rising E 0 ((S.length : Int) - 1)))])) ∧ (PC Try.prog 97 [.agg [.int .i64 Z, .sl (.rows S), .sl (.ints K)], .sl (.ints E)] (.tup [.d (.bool ((goodSys Z S K && rising E 0 ((S.length : Int) - 1)) && coverB Z S E)), .d (.bool (goodSys Z S K && rising E 0 ((S.length : Int) - 1)))])) ∧ ((!(((goodSys Z S K && rising E 0 ((S.length : Int) - 1)) && coverB Z S E) != ((goodSys Z S K && rising E 0 ((S.length : Int) - 1)) && coverB Z S E))) = true → (!(((goodSys Z S K && rising E 0 ((S.length : Int) - 1)) && coverB Z S E) != ((goodSys Z S K && rising E 0 ((S.length : Int) - 1)) && coverB Z S E))) = true) ∧ ((!(((goodSys Z S K && rising E 0 ((S.length : Int) - 1)) && coverB Z S E) != ((goodSys Z S K && rising E 0 ((S.length : Int) - 1)) && coverB Z S E))) = true → (!(((goodSys Z S K && rising E 0 ((S.length : Int) - 1)) && coverB Z S E) != ((goodSys Z S K && rising E 0 ((S.length : Int) - 1)) && coverB Z S E))) = true) ∧ (true = true) ∧ (((((goodSys Z S K && rising E 0 ((S.length : Int) - 1)) && coverB Z S E) != ((goodSys Z S K && rising E 0 ((S.length : Int) - 1)) && coverB Z S E)) = true → true = true)) ∧ (((((goodSys Z S K && rising E 0 ((S.length : Int) - 1)) && coverB Z S E) != ((goodSys Z S K && rising E 0 ((S.length : Int) - 1)) && coverB Z S E)) = false → (!(((goodSys Z S K && rising E 0 ((S.length : Int) - 1)) && coverB Z S E) != ((goodSys Z S K && rising E 0 ((S.length : Int) - 1)) && coverB Z S E))) = true)) ∧ (((l_FnCovers_e12 E Z S K) = true → ((false = true))) ∧ ((l_FnCovers_e12 E Z S K) = false → (PC Try.prog 98 [.agg [.int .i64 Z, .sl (.rows S), .sl (.ints K)], .sl (.ints E)] (.tup [.own 3 (.ints (covBy Z S K E)), .d (.bool (goodSys Z S K && rising E 0 ((S.length : Int) - 1)))])) ∧ (PC Try.prog 99 [.agg [.int .i64 Z, .sl (.rows S), .sl (.ints K)], .sl (.ints E)] (.tup [.d (.sl (.ints (covBy Z S K E))), .d (.bool (goodSys Z S K && rising E 0 ((S.length : Int) - 1)))])) ∧ ((!((goodSys Z S K && rising E 0 ((S.length : Int) - 1)) != (goodSys Z S K && rising E 0 ((S.length : Int) - 1)))) = true → (!((goodSys Z S K && rising E 0 ((S.length : Int) - 1)) != (goodSys Z S K && rising E 0 ((S.length : Int) - 1)))) = true) ∧ ((!((goodSys Z S K && rising E 0 ((S.length : Int) - 1)) != (goodSys Z S K && rising E 0 ((S.length : Int) - 1)))) = true → (!((goodSys Z S K && rising E 0 ((S.length : Int) - 1)) != (goodSys Z S K && rising E 0 ((S.length : Int) - 1)))) = true) ∧ (true = true) ∧ ((((goodSys Z S K && rising E 0 ((S.length : Int) - 1)) != (goodSys Z S K && rising E 0 ((S.length : Int) - 1))) = true → true = true)) ∧ ((((goodSys Z S K && rising E 0 ((S.length : Int) - 1)) != (goodSys Z S K && rising E 0 ((S.length : Int) - 1))) = false → (!((goodSys Z S K && rising E 0 ((S.length : Int) - 1)) != (goodSys Z S K && rising E 0 ((S.length : Int) - 1)))) = true)) ∧ ((!(l_FnCovers_e6 E Z S K)) = true → (!(l_FnCovers_e6 E Z S K)) = true) ∧ ((!(l_FnCovers_e6 E Z S K)) = true → (!(l_FnCovers_e6 E Z S K)) = true) ∧ (((!(l_FnCovers_e6 E Z S K)) = true → (covBy Z S K E).length = (covBy Z S K E).length)) ∧ ((!(l_FnCovers_e6 E Z S K)) = true → PC Try.prog 18 [.sl (.ints (covBy Z S K E)), .sl (.ints (covBy Z S K E))] (.one (.d (.bool ((covBy Z S K E) == (covBy Z S K E)))))) ∧ ((!(l_FnCovers_e6 E Z S K)) = true → (!(l_FnCovers_e6 E Z S K)) = true) ∧ (true = true) ∧ (((l_FnCovers_e6 E Z S K) = true → true = true)) ∧ (((l_FnCovers_e6 E Z S K) = false → (!(l_FnCovers_e6 E Z S K)) = true)) ∧ (((cond (l_FnCovers_e6 E Z S K) true (!((covBy Z S K E) == (covBy Z S K E)))) = true → ((false = true))) ∧ ((cond (l_FnCovers_e6 E Z S K) true (!((covBy Z S K E) == (covBy Z S K E)))) = false → (PC Try.prog 93 [.agg [.int .i64 Z, .sl (.rows S), .sl (.ints K)], .sl (.ints E)] (.tup [.d (.int .i64 (if goodSys Z S K && rising E 0 ((S.length : Int) - 1) then costOf K E else 0)), .d (.bool (goodSys Z S K && rising E 0 ((S.length : Int) - 1)))])) ∧ (PC Try.prog 100 [.agg [.int .i64 Z, .sl (.rows S), .sl (.ints K)], .sl (.ints E)] (.tup [.d (.int .i64 (if goodSys Z S K && rising E 0 ((S.length : Int) - 1) then costOf K E else 0)), .d (.bool (goodSys Z S K && rising E 0 ((S.length : Int) - 1)))])) ∧ ((!((if goodSys Z S K && rising E 0 ((S.length : Int) - 1) then costOf K E else 0) != (if goodSys Z S K && rising E 0 ((S.length : Int) - 1) then costOf K E else 0))) = true → (!((if goodSys Z S K && rising E 0 ((S.length : Int) - 1) then costOf K E else 0) != (if goodSys Z S K && rising E 0 ((S.length : Int) - 1) then costOf K E else 0))) = true) ∧ ((!((if goodSys Z S K && rising E 0 ((S.length : Int) - 1) then costOf K E else 0) != (if goodSys Z S K && rising E 0 ((S.length : Int) - 1) then costOf K E else 0))) = true → (!((if goodSys Z S K && rising E 0 ((S.length : Int) - 1) then costOf K E else 0) != (if goodSys Z S K && rising E 0 ((S.length : Int) - 1) then costOf K E else 0))) = true) ∧ (true = true) ∧ ((((if goodSys Z S K && rising E 0 ((S.length : Int) - 1) then costOf K E else 0) != (if goodSys Z S K && rising E 0 ((S.length : Int) - 1) then costOf K E else 0)) = true → true = true)) ∧ ((((if goodSys Z S K && rising E 0 ((S.length : Int) - 1) then costOf K E else 0) != (if goodSys Z S K && rising E 0 ((S.length : Int) - 1) then costOf K E else 0)) = false → (!((if goodSys Z S K && rising E 0 ((S.length : Int) - 1) then costOf K E else 0) != (if goodSys Z S K && rising E 0 ((S.length : Int) - 1) then costOf K E else 0))) = true)) ∧ ((!(l_FnCovers_e8 E Z S K)) = true → (!(l_FnCovers_e8 E Z S K)) = true) ∧ ((!(l_FnCovers_e8 E Z S K)) = true → (!(l_FnCovers_e8 E Z S K)) = true) ∧ (true = true) ∧ (((l_FnCovers_e8 E Z S K) = true → true = true)) ∧ (((l_FnCovers_e8 E Z S K) = false → (!(l_FnCovers_e8 E Z S K)) = true)) ∧ (((cond (l_FnCovers_e8 E Z S K) true ((goodSys Z S K && rising E 0 ((S.length : Int) - 1)) != (goodSys Z S K && rising E 0 ((S.length : Int) - 1)))) = true → ((false = true))) ∧ ((cond (l_FnCovers_e8 E Z S K) true ((goodSys Z S K && rising E 0 ((S.length : Int) - 1)) != (goodSys Z S K && rising E 0 ((S.length : Int) - 1)))) = false → (PC Try.prog 82 [.agg [.int .i64 Z, .sl (.rows S), .sl (.ints K)]] (.tup [.d (.sl (.ints (lcL Z S K))), .d (.bool (lcOk Z S K))])) ∧ (PC Try.prog 89 [.agg [.int .i64 Z, .sl (.rows S), .sl (.ints K)]] (.tup [.d (.sl (.ints (lcL Z S K))), .d (.bool (lcOk Z S K))])) ∧ ((!((lcOk Z S K) != (lcOk Z S K))) = true → (!((lcOk Z S K) != (lcOk Z S K))) = true) ∧ ((!((lcOk Z S K) != (lcOk Z S K))) = true → (!((lcOk Z S K) != (lcOk Z S K))) = true) ∧ ((!((lcOk Z S K) != (lcOk Z S K))) = true → PC Try.prog 18 [.sl (.ints (lcL Z S K)), .sl (.ints (lcL Z S K))] (.one (.d (.bool ((lcL Z S K) == (lcL Z S K)))))) ∧ ((!((lcOk Z S K) != (lcOk Z S K))) = true → (!((lcOk Z S K) != (lcOk Z S K))) = true) ∧ (true = true) ∧ ((((lcOk Z S K) != (lcOk Z S K)) = true → true = true)) ∧ ((((lcOk Z S K) != (lcOk Z S K)) = false → (!((lcOk Z S K) != (lcOk Z S K))) = true)) ∧ (((cond ((lcOk Z S K) != (lcOk Z S K)) true (!((lcL Z S K) == (lcL Z S K)))) = true → ((false = true))) ∧ ((cond ((lcOk Z S K) != (lcOk Z S K)) true (!((lcL Z S K) == (lcL Z S K)))) = false → (PC Try.prog 101 [.agg [.int .i64 Z, .sl (.rows S), .sl (.ints K)]] (.tup [.own 3 (.ints (gcvL Z S K)), .d (.bool (goodSys Z S K && coverB Z S (allN S.length)))])) ∧ (PC Try.prog 102 [.agg [.int .i64 Z, .sl (.rows S), .sl (.ints K)]] (.tup [.d (.sl (.ints (gcvL Z S K))), .d (.bool (goodSys Z S K && coverB Z S (allN S.length)))])) ∧ ((!((goodSys Z S K && coverB Z S (allN S.length)) != (goodSys Z S K && coverB Z S (allN S.length)))) = true → (!((goodSys Z S K && coverB Z S (allN S.length)) != (goodSys Z S K && coverB Z S (allN S.length)))) = true) ∧ ((!((goodSys Z S K && coverB Z S (allN S.length)) != (goodSys Z S K && coverB Z S (allN S.length)))) = true → (!((goodSys Z S K && coverB Z S (allN S.length)) != (goodSys Z S K && coverB Z S (allN S.length)))) = true) ∧ (true = true) ∧ ((((goodSys Z S K && coverB Z S (allN S.length)) != (goodSys Z S K && coverB Z S (allN S.length))) = true → true = true)) ∧ ((((goodSys Z S K && coverB Z S (allN S.length)) != (goodSys Z S K && coverB Z S (allN S.length))) = false → (!((goodSys Z S K && coverB Z S (allN S.length)) != (goodSys Z S K && coverB Z S (allN S.length)))) = true)) ∧ ((!(l_FnCovers_e4 Z S K)) = true → (!(l_FnCovers_e4 Z S K)) = true) ∧ ((!(l_FnCovers_e4 Z S K)) = true → (!(l_FnCovers_e4 Z S K)) = true) ∧ (((!(l_FnCovers_e4 Z S K)) = true → (gcvL Z S K).length = (gcvL Z S K).length)) ∧ ((!(l_FnCovers_e4 Z S K)) = true → PC Try.prog 18 [.sl (.ints (gcvL Z S K)), .sl (.ints (gcvL Z S K))] (.one (.d (.bool ((gcvL Z S K) == (gcvL Z S K)))))) ∧ ((!(l_FnCovers_e4 Z S K)) = true → (!(l_FnCovers_e4 Z S K)) = true) ∧ (true = true) ∧ (((l_FnCovers_e4 Z S K) = true → true = true)) ∧ (((l_FnCovers_e4 Z S K) = false → (!(l_FnCovers_e4 Z S K)) = true)) ∧ (((cond (l_FnCovers_e4 Z S K) true (!((gcvL Z S K) == (gcvL Z S K)))) = true → ((false = true))) ∧ ((cond (l_FnCovers_e4 Z S K) true (!((gcvL Z S K) == (gcvL Z S K)))) = false → (PC Try.prog 103 [.agg [.int .i64 Z, .sl (.rows S), .sl (.ints K)]] (.tup [.own 3 (.ints (gpL Z S K)), .d (.bool (goodSys Z S K && coverB Z S (allN S.length)))])) ∧ (PC Try.prog 104 [.agg [.int .i64 Z, .sl (.rows S), .sl (.ints K)]] (.tup [.d (.sl (.ints (gpL Z S K))), .d (.bool (goodSys Z S K && coverB Z S (allN S.length)))])) ∧ ((!((goodSys Z S K && coverB Z S (allN S.length)) != (goodSys Z S K && coverB Z S (allN S.length)))) = true → (!((goodSys Z S K && coverB Z S (allN S.length)) != (goodSys Z S K && coverB Z S (allN S.length)))) = true) ∧ ((!((goodSys Z S K && coverB Z S (allN S.length)) != (goodSys Z S K && coverB Z S (allN S.length)))) = true → (!((goodSys Z S K && coverB Z S (allN S.length)) != (goodSys Z S K && coverB Z S (allN S.length)))) = true) ∧ (true = true) ∧ ((((goodSys Z S K && coverB Z S (allN S.length)) != (goodSys Z S K && coverB Z S (allN S.length))) = true → true = true)) ∧ ((((goodSys Z S K && coverB Z S (allN S.length)) != (goodSys Z S K && coverB Z S (allN S.length))) = false → (!((goodSys Z S K && coverB Z S (allN S.length)) != (goodSys Z S K && coverB Z S (allN S.length)))) = true)) ∧ ((!(l_FnCovers_e4 Z S K)) = true → (!(l_FnCovers_e4 Z S K)) = true) ∧ ((!(l_FnCovers_e4 Z S K)) = true → (!(l_FnCovers_e4 Z S K)) = true) ∧ (((!(l_FnCovers_e4 Z S K)) = true → (gpL Z S K).length = (gpL Z S K).length)) ∧ ((!(l_FnCovers_e4 Z S K)) = true → PC Try.prog 18 [.sl (.ints (gpL Z S K)), .sl (.ints (gpL Z S K))] (.one (.d (.bool ((gpL Z S K) == (gpL Z S K)))))) ∧ ((!(l_FnCovers_e4 Z S K)) = true → (!(l_FnCovers_e4 Z S K)) = true) ∧ (true = true) ∧ (((l_FnCovers_e4 Z S K) = true → true = true)) ∧ (((l_FnCovers_e4 Z S K) = false → (!(l_FnCovers_e4 Z S K)) = true)) ∧ (((cond (l_FnCovers_e4 Z S K) true (!((gpL Z S K) == (gpL Z S K)))) = true → ((false = true))) ∧ ((cond (l_FnCovers_e4 Z S K) true (!((gpL Z S K) == (gpL Z S K)))) = false → ((goodSys Z S K && rising E 0 ((S.length : Int) - 1)) = true → (goodSys Z S K && rising E 0 ((S.length : Int) - 1)) = true) ∧ ((goodSys Z S K && rising E 0 ((S.length : Int) - 1)) = true → (goodSys Z S K && rising E 0 ((S.length : Int) - 1)) = true) ∧ ((goodSys Z S K && rising E 0 ((S.length : Int) - 1)) = true → (goodSys Z S K && rising E 0 ((S.length : Int) - 1)) = true) ∧ ((goodSys Z S K && rising E 0 ((S.length : Int) - 1)) = true → (goodSys Z S K && rising E 0 ((S.length : Int) - 1)) = true) ∧ ((goodSys Z S K && rising E 0 ((S.length : Int) - 1)) = true → (goodSys Z S K && rising E 0 ((S.length : Int) - 1)) = true) ∧ ((goodSys Z S K && rising E 0 ((S.length : Int) - 1)) = true → (goodSys Z S K && rising E 0 ((S.length : Int) - 1)) = true) ∧ (true = true) ∧ (((goodSys Z S K && rising E 0 ((S.length : Int) - 1)) = true → (goodSys Z S K && rising E 0 ((S.length : Int) - 1)) = true)) ∧ (((goodSys Z S K && rising E 0 ((S.length : Int) - 1)) = false → true = true)) ∧ ((!(l_FnCovers_e7 E Z S K)) = true → (!(l_FnCovers_e7 E Z S K)) = true) ∧ (((!(l_FnCovers_e7 E Z S K)) && ((goodSys Z S K && rising E 0 ((S.length : Int) - 1)) && coverB Z S E)) = true → ((!(l_FnCovers_e7 E Z S K)) && ((goodSys Z S K && rising E 0 ((S.length : Int) - 1)) && coverB Z S E)) = true) ∧ (((!(l_FnCovers_e7 E Z S K)) = true → (!(l_FnCovers_e7 E Z S K)) = true)) ∧ (((!(l_FnCovers_e7 E Z S K)) = true → ((goodSys Z S K && rising E 0 ((S.length : Int) - 1)) && coverB Z S E) = true → ((!(l_FnCovers_e7 E Z S K)) && ((goodSys Z S K && rising E 0 ((S.length : Int) - 1)) && coverB Z S E)) = true)) ∧ (((!(l_FnCovers_e7 E Z S K)) = true → ((goodSys Z S K && rising E 0 ((S.length : Int) - 1)) && coverB Z S E) = false → true = true)) ∧ (true = true) ∧ (((l_FnCovers_e7 E Z S K) = true → true = true)) ∧ (((l_FnCovers_e7 E Z S K) = false → (!(l_FnCovers_e7 E Z S K)) = true)) ∧ (((cond (l_FnCovers_e7 E Z S K) true (cond ((goodSys Z S K && rising E 0 ((S.length : Int) - 1)) && coverB Z S E) (!(lcOk Z S K)) false)) = true → ((false = true))) ∧ ((cond (l_FnCovers_e7 E Z S K) true (cond ((goodSys Z S K && rising E 0 ((S.length : Int) - 1)) && coverB Z S E) (!(lcOk Z S K)) false)) = false → (((!(lcOk Z S K)) = true → ((true = true))) ∧ ((!(lcOk Z S K)) = false → (PC Try.prog 93 [.agg [.int .i64 Z, .sl (.rows S), .sl (.ints K)], .sl (.ints (lcL Z S K))] (.tup [.d (.int .i64 (if goodSys Z S K && rising (lcL Z S K) 0 ((S.length : Int) - 1) then costOf K (lcL Z S K) else 0)), .d (.bool (goodSys Z S K && rising (lcL Z S K) 0 ((S.length : Int) - 1)))])) ∧ (true = true) ∧ ((gcvL Z S K).length = (gcvL Z S K).length) ∧ (PC Try.prog 105 [.sl (.ints (gcvL Z S K))] (.one (.own 3 (.ints (srt (gcvL Z S K)))))) ∧ ((srt (gcvL Z S K)).length = (srt (gcvL Z S K)).length) ∧ (PC Try.prog 93 [.agg [.int .i64 Z, .sl (.rows S), .sl (.ints K)], .sl (.ints (srt (gcvL Z S K)))] (.tup [.d (.int .i64 (if goodSys Z S K && rising (srt (gcvL Z S K)) 0 ((S.length : Int) - 1) then costOf K (srt (gcvL Z S K)) else 0)), .d (.bool (goodSys Z S K && rising (srt (gcvL Z S K)) 0 ((S.length : Int) - 1)))])) ∧ (true = true) ∧ ((gcvL Z S K).length = (gcvL Z S K).length) ∧ (PC Try.prog 105 [.sl (.ints (gcvL Z S K))] (.one (.own 3 (.ints (srt (gcvL Z S K)))))) ∧ ((srt (gcvL Z S K)).length = (srt (gcvL Z S K)).length) ∧ (PC Try.prog 94 [.agg [.int .i64 Z, .sl (.rows S), .sl (.ints K)], .sl (.ints (srt (gcvL Z S K)))] (.tup [.d (.bool ((goodSys Z S K && rising (srt (gcvL Z S K)) 0 ((S.length : Int) - 1)) && coverB Z S (srt (gcvL Z S K)))), .d (.bool (goodSys Z S K && rising (srt (gcvL Z S K)) 0 ((S.length : Int) - 1)))])) ∧ ((!(!(goodSys Z S K && rising (lcL Z S K) 0 ((S.length : Int) - 1)))) = true → (!(!(goodSys Z S K && rising (lcL Z S K) 0 ((S.length : Int) - 1)))) = true) ∧ (true = true) ∧ (((!(goodSys Z S K && rising (lcL Z S K) 0 ((S.length : Int) - 1))) = true → true = true)) ∧ (((!(goodSys Z S K && rising (lcL Z S K) 0 ((S.length : Int) - 1))) = false → (!(!(goodSys Z S K && rising (lcL Z S K) 0 ((S.length : Int) - 1)))) = true)) ∧ ((!(l_FnCovers_e11 Z S K)) = true → (!(l_FnCovers_e11 Z S K)) = true) ∧ (true = true) ∧ (((l_FnCovers_e11 Z S K) = true → true = true)) ∧ (((l_FnCovers_e11 Z S K) = false → (!(l_FnCovers_e11 Z S K)) = true)) ∧ ((!(l_FnCovers_e5 Z S K)) = true → (!(l_FnCovers_e5 Z S K)) = true) ∧ (true = true) ∧ (((l_FnCovers_e5 Z S K) = true → true = true)) ∧ (((l_FnCovers_e5 Z S K) = false → (!(l_FnCovers_e5 Z S K)) = true)) ∧ ((!(l_FnCovers_e10 Z S K)) = true → (!(l_FnCovers_e10 Z S K)) = true) ∧ ((!(l_FnCovers_e10 Z S K)) = true → (!(l_FnCovers_e10 Z S K)) = true) ∧ (true = true) ∧ (((l_FnCovers_e10 Z S K) = true → true = true)) ∧ (((l_FnCovers_e10 Z S K) = false → (!(l_FnCovers_e10 Z S K)) = true)) ∧ ((!(l_FnCovers_e1 Z S K)) = true → (!(l_FnCovers_e1 Z S K)) = true) ∧ (((!(l_FnCovers_e1 Z S K)) && ((goodSys Z S K && rising E 0 ((S.length : Int) - 1)) && coverB Z S E)) = true → ((!(l_FnCovers_e1 Z S K)) && ((goodSys Z S K && rising E 0 ((S.length : Int) - 1)) && coverB Z S E)) = true) ∧ (((!(l_FnCovers_e1 Z S K)) && ((goodSys Z S K && rising E 0 ((S.length : Int) - 1)) && coverB Z S E)) = true → ((!(l_FnCovers_e1 Z S K)) && ((goodSys Z S K && rising E 0 ((S.length : Int) - 1)) && coverB Z S E)) = true) ∧ (((!(l_FnCovers_e1 Z S K)) = true → (!(l_FnCovers_e1 Z S K)) = true)) ∧ (((!(l_FnCovers_e1 Z S K)) = true → ((goodSys Z S K && rising E 0 ((S.length : Int) - 1)) && coverB Z S E) = true → ((!(l_FnCovers_e1 Z S K)) && ((goodSys Z S K && rising E 0 ((S.length : Int) - 1)) && coverB Z S E)) = true)) ∧ (((!(l_FnCovers_e1 Z S K)) = true → ((goodSys Z S K && rising E 0 ((S.length : Int) - 1)) && coverB Z S E) = false → true = true)) ∧ (true = true) ∧ (((l_FnCovers_e1 Z S K) = true → true = true)) ∧ (((l_FnCovers_e1 Z S K) = false → (!(l_FnCovers_e1 Z S K)) = true)) ∧ ((!(l_FnCovers_e3 E Z S K)) = true → (!(l_FnCovers_e3 E Z S K)) = true) ∧ (((!(l_FnCovers_e3 E Z S K)) = true → (gpL Z S K).length = (gpL Z S K).length)) ∧ ((!(l_FnCovers_e3 E Z S K)) = true → PC Try.prog 95 [.sl (.ints (gpL Z S K))] (.one (.d (.int .i64 (lsum (fun y => y) (gpL Z S K)))))) ∧ ((!(l_FnCovers_e3 E Z S K)) = true → (!(l_FnCovers_e3 E Z S K)) = true) ∧ (((!(l_FnCovers_e3 E Z S K)) = true → -9223372036854775808 ≤ (840 * (if goodSys Z S K && rising (srt (gcvL Z S K)) 0 ((S.length : Int) - 1) then costOf K (srt (gcvL Z S K)) else 0)) ∧ (840 * (if goodSys Z S K && rising (srt (gcvL Z S K)) 0 ((S.length : Int) - 1) then costOf K (srt (gcvL Z S K)) else 0)) ≤ 9223372036854775807)) ∧ ((!(l_FnCovers_e3 E Z S K)) = true → (!(l_FnCovers_e3 E Z S K)) = true) ∧ ((!(l_FnCovers_e3 E Z S K)) = true → (!(l_FnCovers_e3 E Z S K)) = true) ∧ (true = true) ∧ (((l_FnCovers_e3 E Z S K) = true → true = true)) ∧ (((l_FnCovers_e3 E Z S K) = false → (!(l_FnCovers_e3 E Z S K)) = true)) ∧ (((l_FnCovers_e13 E Z S K) = true → ((false = true))) ∧ ((l_FnCovers_e13 E Z S K) = false → ((∃ most' : Int, ∃ i' : Int, (l_FnCovers_JJ0 code E Z S K most' i') ∧ ((gpL Z S K).length = (gpL Z S K).length) ∧ ((if goodSys Z S K && rising (lcL Z S K) 0 ((S.length : Int) - 1) then costOf K (lcL Z S K) else 0) = (if goodSys Z S K && rising (lcL Z S K) 0 ((S.length : Int) - 1) then costOf K (lcL Z S K) else 0)) ∧ ((if goodSys Z S K && rising (srt (gcvL Z S K)) 0 ((S.length : Int) - 1) then costOf K (srt (gcvL Z S K)) else 0) = (if goodSys Z S K && rising (srt (gcvL Z S K)) 0 ((S.length : Int) - 1) then costOf K (srt (gcvL Z S K)) else 0)) ∧ ((0 : Int) = most') ∧ ((0 : Int) = i') ∧ (Z = Z) ∧ (S = S) ∧ (K = K) ∧ (gpL Z S K = gpL Z S K)) ∧ (∀ most : Int, ∀ i : Int, (l_FnCovers_JJ0 code E Z S K most i) → (((decide (i < (S.length : Int))) = true → ((∃ sum' : Int, ∃ k' : Int, (l_FnCovers_JJ1 code E Z S K most i sum' k') ∧ ((gpL Z S K).length = (gpL Z S K).length) ∧ ((if goodSys Z S K && rising (lcL Z S K) 0 ((S.length : Int) - 1) then costOf K (lcL Z S K) else 0) = (if goodSys Z S K && rising (lcL Z S K) 0 ((S.length : Int) - 1) then costOf K (lcL Z S K) else 0)) ∧ ((if goodSys Z S K && rising (srt (gcvL Z S K)) 0 ((S.length : Int) - 1) then costOf K (srt (gcvL Z S K)) else 0) = (if goodSys Z S K && rising (srt (gcvL Z S K)) 0 ((S.length : Int) - 1) then costOf K (srt (gcvL Z S K)) else 0)) ∧ (most = most) ∧ (i = i) ∧ ((0 : Int) = sum') ∧ ((0 : Int) = k') ∧ (Z = Z) ∧ (S = S) ∧ (K = K) ∧ (gpL Z S K = gpL Z S K)) ∧ (∀ sum : Int, ∀ k : Int, (l_FnCovers_JJ1 code E Z S K most i sum k) → ((0 : Int) ≤ i) ∧ ((i : Int) < S.length) ∧ (i.toNat < S.length) ∧ (((decide (k < (((S.getD i.toNat []).length) : Int))) = true → ((0 : Int) ≤ i) ∧ ((i : Int) < S.length) ∧ (i.toNat < S.length) ∧ ((0 : Int) ≤ k) ∧ ((k : Int) < (S.getD i.toNat []).length) ∧ (k.toNat < (S.getD i.toNat []).length) ∧ ((0 : Int) ≤ ((S.getD i.toNat []).getD k.toNat 0)) ∧ ((((S.getD i.toNat []).getD k.toNat 0) : Int) < (((gpL Z S K).length) : Int)) ∧ (((S.getD i.toNat []).getD k.toNat 0).toNat < (gpL Z S K).length) ∧ (-9223372036854775808 ≤ (sum + ((gpL Z S K).getD (((S.getD i.toNat []).getD k.toNat 0).toNat) 0)) ∧ (sum + ((gpL Z S K).getD (((S.getD i.toNat []).getD k.toNat 0).toNat) 0)) ≤ 9223372036854775807) ∧ (-9223372036854775808 ≤ (k + 1) ∧ (k + 1) ≤ 9223372036854775807) ∧ (∃ sum' : Int, ∃ k' : Int, (l_FnCovers_JJ1 code E Z S K most i sum' k') ∧ (l_FnCovers_mJ1 code E Z S K most i sum' k' < l_FnCovers_mJ1 code E Z S K most i sum k) ∧ ((gpL Z S K).length = (gpL Z S K).length) ∧ ((if goodSys Z S K && rising (lcL Z S K) 0 ((S.length : Int) - 1) then costOf K (lcL Z S K) else 0) = (if goodSys Z S K && rising (lcL Z S K) 0 ((S.length : Int) - 1) then costOf K (lcL Z S K) else 0)) ∧ ((if goodSys Z S K && rising (srt (gcvL Z S K)) 0 ((S.length : Int) - 1) then costOf K (srt (gcvL Z S K)) else 0) = (if goodSys Z S K && rising (srt (gcvL Z S K)) 0 ((S.length : Int) - 1) then costOf K (srt (gcvL Z S K)) else 0)) ∧ (most = most) ∧ (i = i) ∧ ((sum + ((gpL Z S K).getD (((S.getD i.toNat []).getD k.toNat 0).toNat) 0)) = sum') ∧ ((k + 1) = k') ∧ (Z = Z) ∧ (S = S) ∧ (K = K) ∧ (gpL Z S K = gpL Z S K))) ∧ ((decide (k < (((S.getD i.toNat []).length) : Int))) = false → ((0 : Int) ≤ i) ∧ ((i : Int) < S.length) ∧ (i.toNat < S.length) ∧ (PC Try.prog 91 [.int .i64 (((S.getD i.toNat []).length) : Int)] (.tup [.d (.int .i64 (harm (((S.getD i.toNat []).length) : Int))), .d (.bool (decide (0 ≤ (((S.getD i.toNat []).length) : Int) ∧ (((S.getD i.toNat []).length) : Int) ≤ 8)))])) ∧ ((0 : Int) ≤ i) ∧ ((i : Int) < S.length) ∧ (i.toNat < S.length) ∧ (PC Try.prog 92 [.int .i64 (((S.getD i.toNat []).length) : Int)] (.tup [.d (.int .i64 (harm (((S.getD i.toNat []).length) : Int))), .d (.bool (decide (0 ≤ (((S.getD i.toNat []).length) : Int) ∧ (((S.getD i.toNat []).length) : Int) ≤ 8)))])) ∧ ((!(!(decide (0 ≤ (((S.getD i.toNat []).length) : Int) ∧ (((S.getD i.toNat []).length) : Int) ≤ 8)))) = true → (!(!(decide (0 ≤ (((S.getD i.toNat []).length) : Int) ∧ (((S.getD i.toNat []).length) : Int) ≤ 8)))) = true) ∧ (true = true) ∧ (((!(decide (0 ≤ (((S.getD i.toNat []).length) : Int) ∧ (((S.getD i.toNat []).length) : Int) ≤ 8))) = true → true = true)) ∧ (((!(decide (0 ≤ (((S.getD i.toNat []).length) : Int) ∧ (((S.getD i.toNat []).length) : Int) ≤ 8))) = false → (!(!(decide (0 ≤ (((S.getD i.toNat []).length) : Int) ∧ (((S.getD i.toNat []).length) : Int) ≤ 8)))) = true)) ∧ ((!(l_FnCovers_e9 S i)) = true → (!(l_FnCovers_e9 S i)) = true) ∧ ((!(l_FnCovers_e9 S i)) = true → (!(l_FnCovers_e9 S i)) = true) ∧ (true = true) ∧ (((l_FnCovers_e9 S i) = true → true = true)) ∧ (((l_FnCovers_e9 S i) = false → (!(l_FnCovers_e9 S i)) = true)) ∧ ((!(l_FnCovers_e2 S i)) = true → (!(l_FnCovers_e2 S i)) = true) ∧ ((!(l_FnCovers_e2 S i)) = true → (!(l_FnCovers_e2 S i)) = true) ∧ ((!(l_FnCovers_e2 S i)) = true → (!(l_FnCovers_e2 S i)) = true) ∧ (((!(l_FnCovers_e2 S i)) = true → (0 : Int) ≤ i)) ∧ (((!(l_FnCovers_e2 S i)) = true → (i : Int) < K.length)) ∧ ((!(l_FnCovers_e2 S i)) = true → (!(l_FnCovers_e2 S i)) = true) ∧ (((!(l_FnCovers_e2 S i)) = true → i.toNat < K.length)) ∧ ((!(l_FnCovers_e2 S i)) = true → (!(l_FnCovers_e2 S i)) = true) ∧ ((!(l_FnCovers_e2 S i)) = true → (!(l_FnCovers_e2 S i)) = true) ∧ (((!(l_FnCovers_e2 S i)) = true → -9223372036854775808 ≤ ((harm (((S.getD i.toNat []).length) : Int)) * (K.getD i.toNat 0)) ∧ ((harm (((S.getD i.toNat []).length) : Int)) * (K.getD i.toNat 0)) ≤ 9223372036854775807)) ∧ ((!(l_FnCovers_e2 S i)) = true → (!(l_FnCovers_e2 S i)) = true) ∧ ((!(l_FnCovers_e2 S i)) = true → (!(l_FnCovers_e2 S i)) = true) ∧ (true = true) ∧ (((l_FnCovers_e2 S i) = true → true = true)) ∧ (((l_FnCovers_e2 S i) = false → (!(l_FnCovers_e2 S i)) = true)) ∧ (((cond (l_FnCovers_e2 S i) true (decide (sum > ((harm (((S.getD i.toNat []).length) : Int)) * (K.getD i.toNat 0))))) = true → ((false = true))) ∧ ((cond (l_FnCovers_e2 S i) true (decide (sum > ((harm (((S.getD i.toNat []).length) : Int)) * (K.getD i.toNat 0))))) = false → ((0 : Int) ≤ i) ∧ ((i : Int) < S.length) ∧ (i.toNat < S.length) ∧ (((decide ((((S.getD i.toNat []).length) : Int) > most)) = true → ((0 : Int) ≤ i) ∧ ((i : Int) < S.length) ∧ (i.toNat < S.length) ∧ (-9223372036854775808 ≤ (i + 1) ∧ (i + 1) ≤ 9223372036854775807) ∧ (∃ most' : Int, ∃ i' : Int, (l_FnCovers_JJ0 code E Z S K most' i') ∧ (l_FnCovers_mJ0 code E Z S K most' i' < l_FnCovers_mJ0 code E Z S K most i) ∧ ((gpL Z S K).length = (gpL Z S K).length) ∧ ((if goodSys Z S K && rising (lcL Z S K) 0 ((S.length : Int) - 1) then costOf K (lcL Z S K) else 0) = (if goodSys Z S K && rising (lcL Z S K) 0 ((S.length : Int) - 1) then costOf K (lcL Z S K) else 0)) ∧ ((if goodSys Z S K && rising (srt (gcvL Z S K)) 0 ((S.length : Int) - 1) then costOf K (srt (gcvL Z S K)) else 0) = (if goodSys Z S K && rising (srt (gcvL Z S K)) 0 ((S.length : Int) - 1) then costOf K (srt (gcvL Z S K)) else 0)) ∧ ((((S.getD i.toNat []).length) : Int) = most') ∧ ((i + 1) = i') ∧ (Z = Z) ∧ (S = S) ∧ (K = K) ∧ (gpL Z S K = gpL Z S K))) ∧ ((decide ((((S.getD i.toNat []).length) : Int) > most)) = false → (-9223372036854775808 ≤ (i + 1) ∧ (i + 1) ≤ 9223372036854775807) ∧ (∃ most' : Int, ∃ i' : Int, (l_FnCovers_JJ0 code E Z S K most' i') ∧ (l_FnCovers_mJ0 code E Z S K most' i' < l_FnCovers_mJ0 code E Z S K most i) ∧ ((gpL Z S K).length = (gpL Z S K).length) ∧ ((if goodSys Z S K && rising (lcL Z S K) 0 ((S.length : Int) - 1) then costOf K (lcL Z S K) else 0) = (if goodSys Z S K && rising (lcL Z S K) 0 ((S.length : Int) - 1) then costOf K (lcL Z S K) else 0)) ∧ ((if goodSys Z S K && rising (srt (gcvL Z S K)) 0 ((S.length : Int) - 1) then costOf K (srt (gcvL Z S K)) else 0) = (if goodSys Z S K && rising (srt (gcvL Z S K)) 0 ((S.length : Int) - 1) then costOf K (srt (gcvL Z S K)) else 0)) ∧ (most = most') ∧ ((i + 1) = i') ∧ (Z = Z) ∧ (S = S) ∧ (K = K) ∧ (gpL Z S K = gpL Z S K))))))))))) ∧ ((decide (i < (S.length : Int))) = false → (PC Try.prog 91 [.int .i64 most] (.tup [.d (.int .i64 (harm most)), .d (.bool (decide (0 ≤ most ∧ most ≤ 8)))])) ∧ ((decide (0 ≤ most ∧ most ≤ 8)) = true → (decide (0 ≤ most ∧ most ≤ 8)) = true) ∧ (((decide (0 ≤ most ∧ most ≤ 8)) = true → -9223372036854775808 ≤ (840 * (if goodSys Z S K && rising (srt (gcvL Z S K)) 0 ((S.length : Int) - 1) then costOf K (srt (gcvL Z S K)) else 0)) ∧ (840 * (if goodSys Z S K && rising (srt (gcvL Z S K)) 0 ((S.length : Int) - 1) then costOf K (srt (gcvL Z S K)) else 0)) ≤ 9223372036854775807)) ∧ ((decide (0 ≤ most ∧ most ≤ 8)) = true → (decide (0 ≤ most ∧ most ≤ 8)) = true) ∧ ((decide (0 ≤ most ∧ most ≤ 8)) = true → (decide (0 ≤ most ∧ most ≤ 8)) = true) ∧ (((decide (0 ≤ most ∧ most ≤ 8)) = true → -9223372036854775808 ≤ ((harm most) * (if goodSys Z S K && rising (lcL Z S K) 0 ((S.length : Int) - 1) then costOf K (lcL Z S K) else 0)) ∧ ((harm most) * (if goodSys Z S K && rising (lcL Z S K) 0 ((S.length : Int) - 1) then costOf K (lcL Z S K) else 0)) ≤ 9223372036854775807)) ∧ ((decide (0 ≤ most ∧ most ≤ 8)) = true → (decide (0 ≤ most ∧ most ≤ 8)) = true) ∧ ((decide (0 ≤ most ∧ most ≤ 8)) = true → (decide (0 ≤ most ∧ most ≤ 8)) = true) ∧ (true = true) ∧ (((decide (0 ≤ most ∧ most ≤ 8)) = true → (decide (0 ≤ most ∧ most ≤ 8)) = true)) ∧ (((decide (0 ≤ most ∧ most ≤ 8)) = false → true = true)) ∧ (((cond (decide (0 ≤ most ∧ most ≤ 8)) (decide ((840 * (if goodSys Z S K && rising (srt (gcvL Z S K)) 0 ((S.length : Int) - 1) then costOf K (srt (gcvL Z S K)) else 0)) ≤ ((harm most) * (if goodSys Z S K && rising (lcL Z S K) 0 ((S.length : Int) - 1) then costOf K (lcL Z S K) else 0)))) false) = true))))))))))))))))))))))))))))
set_option maxRecDepth 100000 in
theorem l_FnCovers_vc (code : List Nat) (hb : ∀ x9 ∈ code, x9 < 256) (w_code : (code.length : Int) ≤ 9223372036854775807) : l_FnCovers_P code := by
  unfold l_FnCovers_P l_FnCovers_e13 l_FnCovers_e12 l_FnCovers_e3 l_FnCovers_e1 l_FnCovers_e10 l_FnCovers_e5 l_FnCovers_e11 l_FnCovers_e2 l_FnCovers_e9 l_FnCovers_e8 l_FnCovers_e7 l_FnCovers_e6 l_FnCovers_e4
  refine ⟨l_rBig_pc code, ?_, ?_⟩
  ·intro b1
   try simp only [nrmT] at b1
   exact rfl
  ·intro b2
   try simp only [nrmT] at b2
   refine ⟨?_, ?_⟩
   ·refine ⟨?_, ?_⟩
    ·refine s_DrawIsCover_pe code ?_
     ·exact hb
    ·intro Zr3 Sr3 Kr3 Er3 hQ9
     refine ⟨rfl, ?_⟩
     ·refine ⟨Er3, Zr3, Sr3, Kr3, ?_⟩
      refine ⟨?_, rfl, rfl, rfl, rfl⟩
      ·trivial
   ·intro E Z S K hJ
    refine ⟨i_IsCover_pc Z S K E, s_IsCover_pc Z S K E, id, id, rfl, fun _ => rfl, ?_, ?_, ?_⟩
    ·intro h; rw [h]; rfl
    ·intro b3
     simp at b3
    ·intro b4
     refine ⟨i_CoveredBy_pc Z S K E, s_CoveredBy_pc Z S K E, id, id, rfl, fun _ => rfl, ?_, id, id, fun _ => rfl, fun _ => l_rInts_pc (covBy Z S K E) (covBy Z S K E), id, rfl, fun _ => rfl, ?_, ?_, ?_⟩
     ·intro h; rw [h]; rfl
     ·intro h; rw [h]; rfl
     ·intro b5
      simp at b5
     ·intro b6
      refine ⟨i_CostOf_pc Z S K E, s_CostOf_pc Z S K E, id, id, rfl, fun _ => rfl, ?_, id, id, rfl, fun _ => rfl, ?_, ?_, ?_⟩
      ·intro h; rw [h]; rfl
      ·intro h; rw [h]; rfl
      ·intro b7
       simp at b7
      ·intro b8
       refine ⟨i_LeastCover_pc Z S K, s_LeastCover_pc Z S K, id, id, fun _ => l_rInts_pc (lcL Z S K) (lcL Z S K), id, rfl, fun _ => rfl, ?_, ?_, ?_⟩
       ·intro h; rw [h]; rfl
       ·intro b9
        simp at b9
       ·intro b10
        refine ⟨i_GreedyCover_pc Z S K, s_GreedyCover_pc Z S K, id, id, rfl, fun _ => rfl, ?_, id, id, fun _ => rfl, fun _ => l_rInts_pc (gcvL Z S K) (gcvL Z S K), id, rfl, fun _ => rfl, ?_, ?_, ?_⟩
        ·intro h; rw [h]; rfl
        ·intro h; rw [h]; rfl
        ·intro b11
         have e9 : lcOk Z S K = (goodSys Z S K && coverB Z S (allN S.length)) := rfl
         rw [e9] at b11
         simp at b11
        ·intro b12
         refine ⟨i_GreedyPrices_pc Z S K, s_GreedyPrices_pc Z S K, id, id, rfl, fun _ => rfl, ?_, id, id, fun _ => rfl, fun _ => l_rInts_pc (gpL Z S K) (gpL Z S K), id, rfl, fun _ => rfl, ?_, ?_, ?_⟩
         ·intro h; rw [h]; rfl
         ·intro h; rw [h]; rfl
         ·intro b13
          have e9 : lcOk Z S K = (goodSys Z S K && coverB Z S (allN S.length)) := rfl
          rw [e9] at b13
          simp at b13
         ·intro b14
          refine ⟨id, id, id, id, id, id, rfl, id, fun _ => rfl, id, id, id, ?_, fun _ _ => rfl, rfl, fun _ => rfl, ?_, ?_, ?_⟩
          ·intro h1 h2; rw [h1, h2]; rfl
          ·intro h; rw [h]; rfl
          ·intro b15
           exfalso
           cases hgr : (goodSys Z S K && rising E 0 ((S.length : Int) - 1)) with
           | false => rw [hgr] at b15; simp at b15
           | true =>
             rw [hgr, cv_two hgr] at b15
             cases hcv : coverB Z S E with
             | false => rw [hcv] at b15; simp at b15
             | true =>
               have hgr2 := hgr
               rw [Bool.and_eq_true] at hgr2
               rw [hcv, (cv_min hgr2.1 hgr2.2 hcv).1] at b15
               simp at b15
          ·intro b16
           refine ⟨?_, ?_⟩
           ·intro b17
            try simp only [nrmT] at b17
            exact rfl
           ·intro b18
            try simp only [nrmT] at b18
            refine ⟨i_CostOf_pc Z S K (lcL Z S K), rfl, rfl, l_rSorted_pc (gcvL Z S K), rfl, i_CostOf_pc Z S K (srt (gcvL Z S K)), rfl, rfl, l_rSorted_pc (gcvL Z S K), rfl, i_IsCover_pc Z S K (srt (gcvL Z S K)), id, rfl, fun _ => rfl, ?_, id, rfl, fun _ => rfl, ?_, id, rfl, fun _ => rfl, ?_, id, id, rfl, fun _ => rfl, ?_, id, id, id, id, ?_, fun _ _ => rfl, rfl, fun _ => rfl, ?_, id, fun _ => rfl, ?_, id, ?_, id, id, rfl, fun _ => rfl, ?_, ?_, ?_⟩
            ·intro h; rw [h]; rfl
            ·intro h; rw [h]; rfl
            ·intro h; rw [h]; rfl
            ·intro h; rw [h]; rfl
            ·intro h1 h2; rw [h1, h2]; rfl
            ·intro h; rw [h]; rfl
            ·intro hg
             refine l_rSum_pc (gpL Z S K) ?_ ?_
             ·obtain ⟨g1, g2, g3, g4, g5, g6, g7, g8, g9, g10, g11⟩ := cv_facts (by simpa using b18)
              have gf := gs_facts g1
              have n1 := cost_small g1 g4
              have n2 := cost_small g1 g2
              omega
             ·obtain ⟨g1, g2, g3, g4, g5, g6, g7, g8, g9, g10, g11⟩ := cv_facts (by simpa using b18)
              have gf := gs_facts g1
              have n1 := cost_small g1 g4
              have n2 := cost_small g1 g2
              exact g9
            ·intro _
             obtain ⟨g1, g2, g3, g4, g5, g6, g7, g8, g9, g10, g11⟩ := cv_facts (by simpa using b18)
             have gf := gs_facts g1
             have n1 := cost_small g1 g4
             have n2 := cost_small g1 g2
             rw [g1, g4, Bool.true_and, if_pos rfl]
             omega
            ·intro h; rw [h]; rfl
            ·intro b19
             exfalso
             obtain ⟨g1, g2, g3, g4, g5, g6, g7, g8, g9, g10, g11⟩ := cv_facts (by simpa using b18)
             have gf := gs_facts g1
             have n1 := cost_small g1 g4
             have n2 := cost_small g1 g2
             rw [g1, g2, g4, g5, g7] at b19
             simp only [Bool.true_and, Bool.and_true, if_true, Bool.not_true, cond_false, cond_true, bne_self_eq_false] at b19
             cases hgr : (rising E 0 ((S.length : Int) - 1) && coverB Z S E) with
             | false =>
               rw [hgr] at b19
               simp at b19
               omega
             | true =>
               have hgr2 := hgr
               rw [Bool.and_eq_true] at hgr2
               have := (cv_min g1 hgr2.1 hgr2.2).2
               rw [hgr, hgr2.1] at b19
               simp at b19
               omega
            ·intro b20
             refine ⟨?_, ?_⟩
             ·refine ⟨0, 0, ?_⟩
              refine ⟨?_, rfl, rfl, rfl, rfl, rfl, rfl, rfl, rfl, rfl⟩
              ·refine ⟨?_, ?_, ?_, ?_, ?_⟩
               ·simpa using b18
               ·omega
               ·omega
               ·omega
               ·intro j hj; omega
             ·intro most i hJ
              obtain ⟨hk, h1, h2, h3, h4⟩ := hJ
              refine ⟨?_, ?_⟩
              ·intro b21
               try simp only [nrmT] at b21
               refine ⟨?_, ?_⟩
               ·refine ⟨0, 0, ?_⟩
                refine ⟨?_, rfl, rfl, rfl, rfl, rfl, rfl, rfl, rfl, rfl, rfl, rfl⟩
                ·refine ⟨?_, ?_, ?_⟩
                 ·omega
                 ·omega
                 ·simp [lsum]
               ·intro sum k hJ
                obtain ⟨h5, h6, h7⟩ := hJ
                refine ⟨?_, ?_, ?_, ?_, ?_⟩
                ·omega
                ·omega
                ·omega
                ·intro b22
                 try simp only [nrmT] at b22
                 refine ⟨?_, ?_, ?_, ?_, ?_, ?_, ?_, ?_, ?_, ?_, ?_, ?_⟩
                 ·omega
                 ·omega
                 ·omega
                 ·omega
                 ·omega
                 ·omega
                 ·obtain ⟨g1, g2, g3, g4, g5, g6, g7, g8, g9, g10, g11⟩ := cv_facts hk
                  have gf := gs_facts g1
                  have n1 := cost_small g1 g4
                  have n2 := cost_small g1 g2
                  have hr := gs_set g1 (k := i.toNat) (by omega)
                  have sl := rising_len hr (by omega)
                  have sm := fun (n : Nat) (hn : n < (S.getD i.toNat []).length) => rising_at hr n hn
                  have hc1 := gs_cost g1 (k := i.toNat) (by omega)
                  have := sm k.toNat (by omega)
                  omega
                 ·obtain ⟨g1, g2, g3, g4, g5, g6, g7, g8, g9, g10, g11⟩ := cv_facts hk
                  have gf := gs_facts g1
                  have n1 := cost_small g1 g4
                  have n2 := cost_small g1 g2
                  have hr := gs_set g1 (k := i.toNat) (by omega)
                  have sl := rising_len hr (by omega)
                  have sm := fun (n : Nat) (hn : n < (S.getD i.toNat []).length) => rising_at hr n hn
                  have hc1 := gs_cost g1 (k := i.toNat) (by omega)
                  have := sm k.toNat (by omega)
                  omega
                 ·obtain ⟨g1, g2, g3, g4, g5, g6, g7, g8, g9, g10, g11⟩ := cv_facts hk
                  have gf := gs_facts g1
                  have n1 := cost_small g1 g4
                  have n2 := cost_small g1 g2
                  have hr := gs_set g1 (k := i.toNat) (by omega)
                  have sl := rising_len hr (by omega)
                  have sm := fun (n : Nat) (hn : n < (S.getD i.toNat []).length) => rising_at hr n hn
                  have hc1 := gs_cost g1 (k := i.toNat) (by omega)
                  have := sm k.toNat (by omega)
                  omega
                 ·obtain ⟨g1, g2, g3, g4, g5, g6, g7, g8, g9, g10, g11⟩ := cv_facts hk
                  have gf := gs_facts g1
                  have n1 := cost_small g1 g4
                  have n2 := cost_small g1 g2
                  have hr := gs_set g1 (k := i.toNat) (by omega)
                  have sl := rising_len hr (by omega)
                  have sm := fun (n : Nat) (hn : n < (S.getD i.toNat []).length) => rising_at hr n hn
                  have hc1 := gs_cost g1 (k := i.toNat) (by omega)
                  have h9 := lsum_le (l := (S.getD i.toNat []).take k.toNat) (f := fun y => (gpL Z S K).getD y.toNat 0) (g := fun _ => 1000000) fun y hy => by
                    have h1 := set_memS g1 (show i.toNat < S.length by omega) y (List.mem_of_mem_take hy)
                    exact (g9 _ (getD_mem (d := 0) (show y.toNat < (gpL Z S K).length by omega))).2
                  have h10 := lsum_nonneg (l := (S.getD i.toNat []).take k.toNat) (f := fun y => (gpL Z S K).getD y.toNat 0) fun y hy => by
                    have h1 := set_memS g1 (show i.toNat < S.length by omega) y (List.mem_of_mem_take hy)
                    exact (g9 _ (getD_mem (d := 0) (show y.toNat < (gpL Z S K).length by omega))).1
                  have h11 := set_memS g1 (show i.toNat < S.length by omega) _ (getD_mem (d := 0) (show k.toNat < (S.getD i.toNat []).length by omega))
                  have h12 := g9 _ (getD_mem (d := 0) (show ((S.getD i.toNat []).getD k.toNat 0).toNat < (gpL Z S K).length by omega))
                  have h13 : lsum (fun _ => 1000000) ((S.getD i.toNat []).take k.toNat) = 1000000 * (((S.getD i.toNat []).take k.toNat).length : Int) := by
                    generalize (S.getD i.toNat []).take k.toNat = l
                    induction l with
                    | nil => rfl
                    | cons x r ih => rw [lsum_cons, ih, List.length_cons]; omega
                  rw [h13, ← h7] at h9
                  rw [← h7] at h10
                  rw [List.length_take] at h9
                  omega
                 ·obtain ⟨g1, g2, g3, g4, g5, g6, g7, g8, g9, g10, g11⟩ := cv_facts hk
                  have gf := gs_facts g1
                  have n1 := cost_small g1 g4
                  have n2 := cost_small g1 g2
                  have hr := gs_set g1 (k := i.toNat) (by omega)
                  have sl := rising_len hr (by omega)
                  have sm := fun (n : Nat) (hn : n < (S.getD i.toNat []).length) => rising_at hr n hn
                  have hc1 := gs_cost g1 (k := i.toNat) (by omega)
                  omega
                 ·refine ⟨(sum + ((gpL Z S K).getD (((S.getD i.toNat []).getD k.toNat 0).toNat) 0)), (k + 1), ?_⟩
                  refine ⟨?_, ?_, rfl, rfl, rfl, rfl, rfl, rfl, rfl, rfl, rfl, rfl, rfl⟩
                  ·refine ⟨?_, ?_, ?_⟩
                   ·omega
                   ·omega
                   ·rw [take_step (d := 0) h5 (by omega), lsum_app, h7]; simp [lsum]
                  ·first | (show _ < _; omega) | (simp only [l_FnCovers_mJ1]; omega) | (simp only [l_FnCovers_mJ1] at *; simp at *; omega)
                ·intro b23
                 try simp only [nrmT] at b23
                 refine ⟨?_, ?_, ?_, i_HarmonicOf_pc (((S.getD i.toNat []).length) : Int), ?_, ?_, ?_, s_HarmonicOf_pc (((S.getD i.toNat []).length) : Int), id, rfl, fun _ => rfl, ?_, id, id, rfl, fun _ => rfl, ?_, id, id, id, ?_, ?_, id, ?_, id, id, ?_, id, id, rfl, fun _ => rfl, ?_, ?_, ?_⟩
                 ·omega
                 ·omega
                 ·omega
                 ·omega
                 ·omega
                 ·omega
                 ·(simp_all; done)
                 ·(simp_all; done)
                 ·intro _
                  obtain ⟨g1, g2, g3, g4, g5, g6, g7, g8, g9, g10, g11⟩ := cv_facts hk
                  have gf := gs_facts g1
                  have n1 := cost_small g1 g4
                  have n2 := cost_small g1 g2
                  omega
                 ·intro _
                  obtain ⟨g1, g2, g3, g4, g5, g6, g7, g8, g9, g10, g11⟩ := cv_facts hk
                  have gf := gs_facts g1
                  have n1 := cost_small g1 g4
                  have n2 := cost_small g1 g2
                  omega
                 ·intro _
                  obtain ⟨g1, g2, g3, g4, g5, g6, g7, g8, g9, g10, g11⟩ := cv_facts hk
                  have gf := gs_facts g1
                  have n1 := cost_small g1 g4
                  have n2 := cost_small g1 g2
                  omega
                 ·intro _
                  obtain ⟨g1, g2, g3, g4, g5, g6, g7, g8, g9, g10, g11⟩ := cv_facts hk
                  have gf := gs_facts g1
                  have n1 := cost_small g1 g4
                  have n2 := cost_small g1 g2
                  have hr := gs_set g1 (k := i.toNat) (by omega)
                  have sl := rising_len hr (by omega)
                  have sm := fun (n : Nat) (hn : n < (S.getD i.toNat []).length) => rising_at hr n hn
                  have hc1 := gs_cost g1 (k := i.toNat) (by omega)
                  have e := harm_eq (n := (S.getD i.toNat []).length) (by omega)
                  rw [e]
                  have hb8 := harmSum_bound (S.getD i.toNat []).length
                  have p0 := Int.mul_nonneg hb8.1 (show 0 ≤ K.getD i.toNat 0 by omega)
                  have p1 : harmSum (S.getD i.toNat []).length * K.getD i.toNat 0 ≤ 6720 * 99 := Int.mul_le_mul (by omega) hc1.2 (by omega) (by omega)
                  omega
                 ·(simp_all; done)
                 ·intro b24
                  exfalso
                  obtain ⟨g1, g2, g3, g4, g5, g6, g7, g8, g9, g10, g11⟩ := cv_facts hk
                  have gf := gs_facts g1
                  have n1 := cost_small g1 g4
                  have n2 := cost_small g1 g2
                  have hr := gs_set g1 (k := i.toNat) (by omega)
                  have sl := rising_len hr (by omega)
                  have sm := fun (n : Nat) (hn : n < (S.getD i.toNat []).length) => rising_at hr n hn
                  have hc1 := gs_cost g1 (k := i.toNat) (by omega)
                  have h9 := g10 i.toNat (by omega)
                  have e : sum = lsum (fun y => (gpL Z S K).getD y.toNat 0) (S.getD i.toNat []) := by rw [h7, take_all (by omega)]
                  have e2 := harm_eq (n := (S.getD i.toNat []).length) (by omega)
                  rw [e2, e, decide_eq_true (show 0 ≤ ((S.getD i.toNat []).length : Int) ∧ ((S.getD i.toNat []).length : Int) ≤ 8 by omega)] at b24
                  simp only [Bool.not_true, cond_false, cond_true, bne_self_eq_false, decide_eq_true_eq] at b24
                  omega
                 ·intro b25
                  refine ⟨?_, ?_, ?_, ?_, ?_⟩
                  ·omega
                  ·omega
                  ·omega
                  ·intro b26
                   try simp only [nrmT] at b26
                   refine ⟨?_, ?_, ?_, ?_, ?_⟩
                   ·omega
                   ·omega
                   ·omega
                   ·obtain ⟨g1, g2, g3, g4, g5, g6, g7, g8, g9, g10, g11⟩ := cv_facts hk
                    have gf := gs_facts g1
                    have n1 := cost_small g1 g4
                    have n2 := cost_small g1 g2
                    have hr := gs_set g1 (k := i.toNat) (by omega)
                    have sl := rising_len hr (by omega)
                    have sm := fun (n : Nat) (hn : n < (S.getD i.toNat []).length) => rising_at hr n hn
                    have hc1 := gs_cost g1 (k := i.toNat) (by omega)
                    omega
                   ·refine ⟨(((S.getD i.toNat []).length) : Int), (i + 1), ?_⟩
                    refine ⟨?_, ?_, rfl, rfl, rfl, rfl, rfl, rfl, rfl, rfl, rfl⟩
                    ·refine ⟨?_, ?_, ?_, ?_, ?_⟩
                     ·simpa using b18
                     ·omega
                     ·omega
                     ·obtain ⟨g1, g2, g3, g4, g5, g6, g7, g8, g9, g10, g11⟩ := cv_facts hk
                      have gf := gs_facts g1
                      have n1 := cost_small g1 g4
                      have n2 := cost_small g1 g2
                      have hr := gs_set g1 (k := i.toNat) (by omega)
                      have sl := rising_len hr (by omega)
                      have sm := fun (n : Nat) (hn : n < (S.getD i.toNat []).length) => rising_at hr n hn
                      have hc1 := gs_cost g1 (k := i.toNat) (by omega)
                      omega
                     ·intro j hj
                      by_cases e : j = i.toNat
                      · first | (rw [e]; omega) | (rw [e]; exact Int.le_refl _)
                      · have := h4 j (by omega)
                        omega
                    ·first | (show _ < _; omega) | (simp only [l_FnCovers_mJ0]; omega) | (simp only [l_FnCovers_mJ0] at *; simp at *; omega)
                  ·intro b27
                   try simp only [nrmT] at b27
                   refine ⟨?_, ?_⟩
                   ·obtain ⟨g1, g2, g3, g4, g5, g6, g7, g8, g9, g10, g11⟩ := cv_facts hk
                    have gf := gs_facts g1
                    have n1 := cost_small g1 g4
                    have n2 := cost_small g1 g2
                    have hr := gs_set g1 (k := i.toNat) (by omega)
                    have sl := rising_len hr (by omega)
                    have sm := fun (n : Nat) (hn : n < (S.getD i.toNat []).length) => rising_at hr n hn
                    have hc1 := gs_cost g1 (k := i.toNat) (by omega)
                    omega
                   ·refine ⟨most, (i + 1), ?_⟩
                    refine ⟨?_, ?_, rfl, rfl, rfl, rfl, rfl, rfl, rfl, rfl, rfl⟩
                    ·refine ⟨?_, ?_, ?_, ?_, ?_⟩
                     ·simpa using b18
                     ·omega
                     ·omega
                     ·omega
                     ·intro j hj
                      by_cases e : j = i.toNat
                      · first | (rw [e]; omega) | (rw [e]; exact Int.le_refl _)
                      · have := h4 j (by omega)
                        omega
                    ·first | (show _ < _; omega) | (simp only [l_FnCovers_mJ0]; omega) | (simp only [l_FnCovers_mJ0] at *; simp at *; omega)
              ·intro b28
               try simp only [nrmT] at b28
               refine ⟨i_HarmonicOf_pc most, id, ?_, id, id, ?_, id, id, rfl, id, fun _ => rfl, ?_⟩
               ·intro _
                obtain ⟨g1, g2, g3, g4, g5, g6, g7, g8, g9, g10, g11⟩ := cv_facts hk
                have gf := gs_facts g1
                have n1 := cost_small g1 g4
                have n2 := cost_small g1 g2
                rw [g1, g4, Bool.true_and, if_pos rfl]
                omega
               ·intro _
                obtain ⟨g1, g2, g3, g4, g5, g6, g7, g8, g9, g10, g11⟩ := cv_facts hk
                have gf := gs_facts g1
                have n1 := cost_small g1 g4
                have n2 := cost_small g1 g2
                rw [g1, g2, Bool.true_and, if_pos rfl]
                have e := harm_eq (n := most.toNat) (by omega)
                rw [show ((most.toNat : Nat) : Int) = most by omega] at e
                rw [e]
                have hb8 := harmSum_bound most.toNat
                have p0 := Int.mul_nonneg hb8.1 n2.1
                have p1 : harmSum most.toNat * costOf K (lcL Z S K) ≤ 6720 * 792 := Int.mul_le_mul (by omega) n2.2 n2.1 (by omega)
                omega
               ·obtain ⟨g1, g2, g3, g4, g5, g6, g7, g8, g9, g10, g11⟩ := cv_facts hk
                have gf := gs_facts g1
                have n1 := cost_small g1 g4
                have n2 := cost_small g1 g2
                rw [g1, g2, g4, Bool.true_and, if_pos rfl, if_pos rfl]
                have e := harm_eq (n := most.toNat) (by omega)
                rw [show ((most.toNat : Nat) : Int) = most by omega] at e
                rw [e, decide_eq_true h3]
                have h9 := g11 most.toNat (by omega) fun j hj => by have := h4 j (by omega); omega
                simp
                omega
theorem l_FnCovers_pc (code : List Nat) (hb : ∀ x9 ∈ code, x9 < 256) : PC Try.prog 13 [.sl (.bytes code)] (.one (.d (.bool true))) :=
  pc_wf @Try.call13 fun hw => pc_by (by kernel_rfl) Try.func13 @Try.call13 (by kernel_rfl) l_FnCovers_C (l_FnCovers_A code) (by kernel_rfl) (l_FnCovers_vc code hb hw.1) (by kernel_rfl)
end Go.Proofs.Ytomnmacmlhkceaa
