/- Contracts of the functions that the law reaches. -/
import Derived.Test.YtomnmacmlhkceaaKCoverPrices2
import Derived.KernelRfl
set_option linter.unusedVariables false
set_option linter.unusedSimpArgs false
namespace Go.Proofs.Ytomnmacmlhkceaa
open Go

theorem s_l6Greedy_own_vc (Size : Int) (Sets : List (List Int)) (Costs : List Int) (hg : goodSys Size Sets Costs = true) (ha : coverB Size Sets (allN Sets.length) = true) (w_Sets : (Sets.length : Int) ≤ 9223372036854775807) (v_Sets : ∀ x9 ∈ Sets, (x9.length : Int) ≤ 9223372036854775807) (w_Costs : (Costs.length : Int) ≤ 9223372036854775807) : s_l6Greedy_own_P Size Sets Costs := by
  unfold s_l6Greedy_own_P
  have gf := gs_facts hg
  refine ⟨rfl, rfl, ?_, ?_, ?_, ?_⟩
  ·omega
  ·omega
  ·refine ⟨([]), ([]), (List.replicate Size.toNat (0 : Int)), ?_⟩
   refine ⟨?_, rfl, ?_, ?_, ?_, rfl, rfl, rfl, rfl⟩
   ·refine ⟨?_, ?_, ?_, ?_⟩
    ·exact grOk_nil Sets
    ·rfl
    ·exact (prL_zero _ _ _ _).symm
    ·rfl
   ·rfl
   ·simp
   ·rfl
  ·intro out covered prices hJ
   obtain ⟨h2, h3, h4, hc⟩ := hJ
   refine ⟨?_, ?_⟩
   ·intro b1
    try simp only [nrmT] at b1
    refine ⟨?_, ?_, ?_, ?_, s_l6New_pc (Sets.getD ((grC Sets Costs covered Sets.length).toNat) []) covered, ?_, ?_⟩
    ·refine s_l6Next_pc Size Sets Costs covered ?_
     ·omega
    ·have eB : grC Sets Costs covered Sets.length = grTo Sets Costs out Sets.length := by rw [hc]; rfl
     have hnf : ¬ coverB Size Sets out = true := fun e => by
       have := (cnt_full hg h2.inR).2 e
       unfold cnt at this
       rw [← hc] at this
       omega
     have gn := gr_next (Costs := Costs) hg ha hnf
     have gi := (grTo_facts Sets Costs out Sets.length).1
     have gp := (grTo_facts Sets Costs out Sets.length).2.1 gn
     have hn1 : newN Sets out (grTo Sets Costs out Sets.length).toNat = newOf (Sets.getD (grTo Sets Costs out Sets.length).toNat []) (covL Sets out out.length) := rfl
     have hrs := gs_set hg (k := (grTo Sets Costs out Sets.length).toNat) (by omega)
     have sl := rising_len hrs (by omega)
     rw [eB]; omega
    ·have eB : grC Sets Costs covered Sets.length = grTo Sets Costs out Sets.length := by rw [hc]; rfl
     have hnf : ¬ coverB Size Sets out = true := fun e => by
       have := (cnt_full hg h2.inR).2 e
       unfold cnt at this
       rw [← hc] at this
       omega
     have gn := gr_next (Costs := Costs) hg ha hnf
     have gi := (grTo_facts Sets Costs out Sets.length).1
     have gp := (grTo_facts Sets Costs out Sets.length).2.1 gn
     have hn1 : newN Sets out (grTo Sets Costs out Sets.length).toNat = newOf (Sets.getD (grTo Sets Costs out Sets.length).toNat []) (covL Sets out out.length) := rfl
     have hrs := gs_set hg (k := (grTo Sets Costs out Sets.length).toNat) (by omega)
     have sl := rising_len hrs (by omega)
     rw [eB]; omega
    ·have eB : grC Sets Costs covered Sets.length = grTo Sets Costs out Sets.length := by rw [hc]; rfl
     have hnf : ¬ coverB Size Sets out = true := fun e => by
       have := (cnt_full hg h2.inR).2 e
       unfold cnt at this
       rw [← hc] at this
       omega
     have gn := gr_next (Costs := Costs) hg ha hnf
     have gi := (grTo_facts Sets Costs out Sets.length).1
     have gp := (grTo_facts Sets Costs out Sets.length).2.1 gn
     have hn1 : newN Sets out (grTo Sets Costs out Sets.length).toNat = newOf (Sets.getD (grTo Sets Costs out Sets.length).toNat []) (covL Sets out out.length) := rfl
     have hrs := gs_set hg (k := (grTo Sets Costs out Sets.length).toNat) (by omega)
     have sl := rising_len hrs (by omega)
     rw [eB]; omega
    ·refine ⟨covered, prices, 0, ?_⟩
     refine ⟨?_, rfl, rfl, rfl, rfl, rfl, rfl, rfl, rfl, rfl, rfl, rfl⟩
     ·refine ⟨?_, ?_, ?_, ?_⟩
      ·omega
      ·omega
      ·rfl
      ·rfl
    ·intro cov1 pr1 k hJ
     obtain ⟨k1, k2, k3, k4⟩ := hJ
     refine ⟨?_, ?_, ?_, ?_, ?_⟩
     ·have eB : grC Sets Costs covered Sets.length = grTo Sets Costs out Sets.length := by rw [hc]; rfl
      have hnf : ¬ coverB Size Sets out = true := fun e => by
        have := (cnt_full hg h2.inR).2 e
        unfold cnt at this
        rw [← hc] at this
        omega
      have gn := gr_next (Costs := Costs) hg ha hnf
      have gi := (grTo_facts Sets Costs out Sets.length).1
      have gp := (grTo_facts Sets Costs out Sets.length).2.1 gn
      have hn1 : newN Sets out (grTo Sets Costs out Sets.length).toNat = newOf (Sets.getD (grTo Sets Costs out Sets.length).toNat []) (covL Sets out out.length) := rfl
      have hrs := gs_set hg (k := (grTo Sets Costs out Sets.length).toNat) (by omega)
      have sl := rising_len hrs (by omega)
      rw [eB]; omega
     ·have eB : grC Sets Costs covered Sets.length = grTo Sets Costs out Sets.length := by rw [hc]; rfl
      have hnf : ¬ coverB Size Sets out = true := fun e => by
        have := (cnt_full hg h2.inR).2 e
        unfold cnt at this
        rw [← hc] at this
        omega
      have gn := gr_next (Costs := Costs) hg ha hnf
      have gi := (grTo_facts Sets Costs out Sets.length).1
      have gp := (grTo_facts Sets Costs out Sets.length).2.1 gn
      have hn1 : newN Sets out (grTo Sets Costs out Sets.length).toNat = newOf (Sets.getD (grTo Sets Costs out Sets.length).toNat []) (covL Sets out out.length) := rfl
      have hrs := gs_set hg (k := (grTo Sets Costs out Sets.length).toNat) (by omega)
      have sl := rising_len hrs (by omega)
      rw [eB]; omega
     ·have eB : grC Sets Costs covered Sets.length = grTo Sets Costs out Sets.length := by rw [hc]; rfl
      have hnf : ¬ coverB Size Sets out = true := fun e => by
        have := (cnt_full hg h2.inR).2 e
        unfold cnt at this
        rw [← hc] at this
        omega
      have gn := gr_next (Costs := Costs) hg ha hnf
      have gi := (grTo_facts Sets Costs out Sets.length).1
      have gp := (grTo_facts Sets Costs out Sets.length).2.1 gn
      have hn1 : newN Sets out (grTo Sets Costs out Sets.length).toNat = newOf (Sets.getD (grTo Sets Costs out Sets.length).toNat []) (covL Sets out out.length) := rfl
      have hrs := gs_set hg (k := (grTo Sets Costs out Sets.length).toNat) (by omega)
      have sl := rising_len hrs (by omega)
      rw [eB]; omega
     ·intro b2
      try simp only [nrmT] at b2
      refine ⟨?_, ?_, ?_, ?_, ?_, ?_, s_l1Has_pc cov1 ((Sets.getD ((grC Sets Costs covered Sets.length).toNat) []).getD k.toNat 0), ?_, ?_⟩
      ·have eB : grC Sets Costs covered Sets.length = grTo Sets Costs out Sets.length := by rw [hc]; rfl
       have hnf : ¬ coverB Size Sets out = true := fun e => by
         have := (cnt_full hg h2.inR).2 e
         unfold cnt at this
         rw [← hc] at this
         omega
       have gn := gr_next (Costs := Costs) hg ha hnf
       have gi := (grTo_facts Sets Costs out Sets.length).1
       have gp := (grTo_facts Sets Costs out Sets.length).2.1 gn
       have hn1 : newN Sets out (grTo Sets Costs out Sets.length).toNat = newOf (Sets.getD (grTo Sets Costs out Sets.length).toNat []) (covL Sets out out.length) := rfl
       have hrs := gs_set hg (k := (grTo Sets Costs out Sets.length).toNat) (by omega)
       have sl := rising_len hrs (by omega)
       rw [eB]; omega
      ·have eB : grC Sets Costs covered Sets.length = grTo Sets Costs out Sets.length := by rw [hc]; rfl
       have hnf : ¬ coverB Size Sets out = true := fun e => by
         have := (cnt_full hg h2.inR).2 e
         unfold cnt at this
         rw [← hc] at this
         omega
       have gn := gr_next (Costs := Costs) hg ha hnf
       have gi := (grTo_facts Sets Costs out Sets.length).1
       have gp := (grTo_facts Sets Costs out Sets.length).2.1 gn
       have hn1 : newN Sets out (grTo Sets Costs out Sets.length).toNat = newOf (Sets.getD (grTo Sets Costs out Sets.length).toNat []) (covL Sets out out.length) := rfl
       have hrs := gs_set hg (k := (grTo Sets Costs out Sets.length).toNat) (by omega)
       have sl := rising_len hrs (by omega)
       rw [eB]; omega
      ·have eB : grC Sets Costs covered Sets.length = grTo Sets Costs out Sets.length := by rw [hc]; rfl
       have hnf : ¬ coverB Size Sets out = true := fun e => by
         have := (cnt_full hg h2.inR).2 e
         unfold cnt at this
         rw [← hc] at this
         omega
       have gn := gr_next (Costs := Costs) hg ha hnf
       have gi := (grTo_facts Sets Costs out Sets.length).1
       have gp := (grTo_facts Sets Costs out Sets.length).2.1 gn
       have hn1 : newN Sets out (grTo Sets Costs out Sets.length).toNat = newOf (Sets.getD (grTo Sets Costs out Sets.length).toNat []) (covL Sets out out.length) := rfl
       have hrs := gs_set hg (k := (grTo Sets Costs out Sets.length).toNat) (by omega)
       have sl := rising_len hrs (by omega)
       rw [eB]; omega
      ·omega
      ·omega
      ·omega
      ·intro b3
       try simp only [nrmT] at b3
       refine ⟨?_, rfl, ?_, ?_, ?_, ?_, ?_, ?_, ?_, ?_, ?_, ?_, ?_⟩
       ·refine s_l1Put_pc cov1 ((Sets.getD ((grC Sets Costs covered Sets.length).toNat) []).getD k.toNat 0) ?_
        ·have eB : grC Sets Costs covered Sets.length = grTo Sets Costs out Sets.length := by rw [hc]; rfl
         have hnf : ¬ coverB Size Sets out = true := fun e => by
           have := (cnt_full hg h2.inR).2 e
           unfold cnt at this
           rw [← hc] at this
           omega
         have gn := gr_next (Costs := Costs) hg ha hnf
         have gi := (grTo_facts Sets Costs out Sets.length).1
         have gp := (grTo_facts Sets Costs out Sets.length).2.1 gn
         have hn1 : newN Sets out (grTo Sets Costs out Sets.length).toNat = newOf (Sets.getD (grTo Sets Costs out Sets.length).toNat []) (covL Sets out out.length) := rfl
         have hrs := gs_set hg (k := (grTo Sets Costs out Sets.length).toNat) (by omega)
         have sl := rising_len hrs (by omega)
         rw [eB] at k2 k3
         rw [k3]
         have := putAll_len (l := covered) (set := Sets.getD (grTo Sets Costs out Sets.length).toNat []) k.toNat
         have h11 := cnt_le hg h2.inR
         unfold cnt at h11
         rw [← hc] at h11
         omega
       ·omega
       ·have eB : grC Sets Costs covered Sets.length = grTo Sets Costs out Sets.length := by rw [hc]; rfl
        have hnf : ¬ coverB Size Sets out = true := fun e => by
          have := (cnt_full hg h2.inR).2 e
          unfold cnt at this
          rw [← hc] at this
          omega
        have gn := gr_next (Costs := Costs) hg ha hnf
        have gi := (grTo_facts Sets Costs out Sets.length).1
        have gp := (grTo_facts Sets Costs out Sets.length).2.1 gn
        have hn1 : newN Sets out (grTo Sets Costs out Sets.length).toNat = newOf (Sets.getD (grTo Sets Costs out Sets.length).toNat []) (covL Sets out out.length) := rfl
        have hrs := gs_set hg (k := (grTo Sets Costs out Sets.length).toNat) (by omega)
        have sl := rising_len hrs (by omega)
        rw [eB, hc, ← hn1]; omega
       ·have eB : grC Sets Costs covered Sets.length = grTo Sets Costs out Sets.length := by rw [hc]; rfl
        have hnf : ¬ coverB Size Sets out = true := fun e => by
          have := (cnt_full hg h2.inR).2 e
          unfold cnt at this
          rw [← hc] at this
          omega
        have gn := gr_next (Costs := Costs) hg ha hnf
        have gi := (grTo_facts Sets Costs out Sets.length).1
        have gp := (grTo_facts Sets Costs out Sets.length).2.1 gn
        have hn1 : newN Sets out (grTo Sets Costs out Sets.length).toNat = newOf (Sets.getD (grTo Sets Costs out Sets.length).toNat []) (covL Sets out out.length) := rfl
        have hrs := gs_set hg (k := (grTo Sets Costs out Sets.length).toNat) (by omega)
        have sl := rising_len hrs (by omega)
        rw [eB]; omega
       ·have eB : grC Sets Costs covered Sets.length = grTo Sets Costs out Sets.length := by rw [hc]; rfl
        have hnf : ¬ coverB Size Sets out = true := fun e => by
          have := (cnt_full hg h2.inR).2 e
          unfold cnt at this
          rw [← hc] at this
          omega
        have gn := gr_next (Costs := Costs) hg ha hnf
        have gi := (grTo_facts Sets Costs out Sets.length).1
        have gp := (grTo_facts Sets Costs out Sets.length).2.1 gn
        have hn1 : newN Sets out (grTo Sets Costs out Sets.length).toNat = newOf (Sets.getD (grTo Sets Costs out Sets.length).toNat []) (covL Sets out out.length) := rfl
        have hrs := gs_set hg (k := (grTo Sets Costs out Sets.length).toNat) (by omega)
        have sl := rising_len hrs (by omega)
        rw [eB]; omega
       ·have eB : grC Sets Costs covered Sets.length = grTo Sets Costs out Sets.length := by rw [hc]; rfl
        have hnf : ¬ coverB Size Sets out = true := fun e => by
          have := (cnt_full hg h2.inR).2 e
          unfold cnt at this
          rw [← hc] at this
          omega
        have gn := gr_next (Costs := Costs) hg ha hnf
        have gi := (grTo_facts Sets Costs out Sets.length).1
        have gp := (grTo_facts Sets Costs out Sets.length).2.1 gn
        have hn1 : newN Sets out (grTo Sets Costs out Sets.length).toNat = newOf (Sets.getD (grTo Sets Costs out Sets.length).toNat []) (covL Sets out out.length) := rfl
        have hrs := gs_set hg (k := (grTo Sets Costs out Sets.length).toNat) (by omega)
        have sl := rising_len hrs (by omega)
        rw [eB]; omega
       ·have eB : grC Sets Costs covered Sets.length = grTo Sets Costs out Sets.length := by rw [hc]; rfl
        have hnf : ¬ coverB Size Sets out = true := fun e => by
          have := (cnt_full hg h2.inR).2 e
          unfold cnt at this
          rw [← hc] at this
          omega
        have gn := gr_next (Costs := Costs) hg ha hnf
        have gi := (grTo_facts Sets Costs out Sets.length).1
        have gp := (grTo_facts Sets Costs out Sets.length).2.1 gn
        have hn1 : newN Sets out (grTo Sets Costs out Sets.length).toNat = newOf (Sets.getD (grTo Sets Costs out Sets.length).toNat []) (covL Sets out out.length) := rfl
        have hrs := gs_set hg (k := (grTo Sets Costs out Sets.length).toNat) (by omega)
        have sl := rising_len hrs (by omega)
        rw [eB, hc, ← hn1]
        have := pr_bound (n := newN Sets out (grTo Sets Costs out Sets.length).toNat) (by omega) (gs_cost hg (k := (grTo Sets Costs out Sets.length).toNat) (by omega))
        omega
       ·have eB : grC Sets Costs covered Sets.length = grTo Sets Costs out Sets.length := by rw [hc]; rfl
        have hnf : ¬ coverB Size Sets out = true := fun e => by
          have := (cnt_full hg h2.inR).2 e
          unfold cnt at this
          rw [← hc] at this
          omega
        have gn := gr_next (Costs := Costs) hg ha hnf
        have gi := (grTo_facts Sets Costs out Sets.length).1
        have gp := (grTo_facts Sets Costs out Sets.length).2.1 gn
        have hn1 : newN Sets out (grTo Sets Costs out Sets.length).toNat = newOf (Sets.getD (grTo Sets Costs out Sets.length).toNat []) (covL Sets out out.length) := rfl
        have hrs := gs_set hg (k := (grTo Sets Costs out Sets.length).toNat) (by omega)
        have sl := rising_len hrs (by omega)
        have pl : pr1.length = Size.toNat := by rw [k4, setsTo_len, h4, prL_len]
        have hm := set_memS hg (k := (grTo Sets Costs out Sets.length).toNat) (by omega) _ (getD_mem (d := 0) (show k.toNat < (Sets.getD (grTo Sets Costs out Sets.length).toNat []).length by rw [eB] at b2; omega))
        rw [eB]
        omega
       ·have eB : grC Sets Costs covered Sets.length = grTo Sets Costs out Sets.length := by rw [hc]; rfl
        have hnf : ¬ coverB Size Sets out = true := fun e => by
          have := (cnt_full hg h2.inR).2 e
          unfold cnt at this
          rw [← hc] at this
          omega
        have gn := gr_next (Costs := Costs) hg ha hnf
        have gi := (grTo_facts Sets Costs out Sets.length).1
        have gp := (grTo_facts Sets Costs out Sets.length).2.1 gn
        have hn1 : newN Sets out (grTo Sets Costs out Sets.length).toNat = newOf (Sets.getD (grTo Sets Costs out Sets.length).toNat []) (covL Sets out out.length) := rfl
        have hrs := gs_set hg (k := (grTo Sets Costs out Sets.length).toNat) (by omega)
        have sl := rising_len hrs (by omega)
        have pl : pr1.length = Size.toNat := by rw [k4, setsTo_len, h4, prL_len]
        have hm := set_memS hg (k := (grTo Sets Costs out Sets.length).toNat) (by omega) _ (getD_mem (d := 0) (show k.toNat < (Sets.getD (grTo Sets Costs out Sets.length).toNat []).length by rw [eB] at b2; omega))
        rw [eB]
        omega
       ·have eB : grC Sets Costs covered Sets.length = grTo Sets Costs out Sets.length := by rw [hc]; rfl
        have hnf : ¬ coverB Size Sets out = true := fun e => by
          have := (cnt_full hg h2.inR).2 e
          unfold cnt at this
          rw [← hc] at this
          omega
        have gn := gr_next (Costs := Costs) hg ha hnf
        have gi := (grTo_facts Sets Costs out Sets.length).1
        have gp := (grTo_facts Sets Costs out Sets.length).2.1 gn
        have hn1 : newN Sets out (grTo Sets Costs out Sets.length).toNat = newOf (Sets.getD (grTo Sets Costs out Sets.length).toNat []) (covL Sets out out.length) := rfl
        have hrs := gs_set hg (k := (grTo Sets Costs out Sets.length).toNat) (by omega)
        have sl := rising_len hrs (by omega)
        have pl : pr1.length = Size.toNat := by rw [k4, setsTo_len, h4, prL_len]
        have hm := set_memS hg (k := (grTo Sets Costs out Sets.length).toNat) (by omega) _ (getD_mem (d := 0) (show k.toNat < (Sets.getD (grTo Sets Costs out Sets.length).toNat []).length by rw [eB] at b2; omega))
        rw [eB]
        omega
       ·have eB : grC Sets Costs covered Sets.length = grTo Sets Costs out Sets.length := by rw [hc]; rfl
        have hnf : ¬ coverB Size Sets out = true := fun e => by
          have := (cnt_full hg h2.inR).2 e
          unfold cnt at this
          rw [← hc] at this
          omega
        have gn := gr_next (Costs := Costs) hg ha hnf
        have gi := (grTo_facts Sets Costs out Sets.length).1
        have gp := (grTo_facts Sets Costs out Sets.length).2.1 gn
        have hn1 : newN Sets out (grTo Sets Costs out Sets.length).toNat = newOf (Sets.getD (grTo Sets Costs out Sets.length).toNat []) (covL Sets out out.length) := rfl
        have hrs := gs_set hg (k := (grTo Sets Costs out Sets.length).toNat) (by omega)
        have sl := rising_len hrs (by omega)
        rw [eB] at b2
        omega
       ·refine ⟨(putL cov1 ((Sets.getD ((grC Sets Costs covered Sets.length).toNat) []).getD k.toNat 0)), (pr1.set (((Sets.getD ((grC Sets Costs covered Sets.length).toNat) []).getD k.toNat 0).toNat) ((840 / (newOf (Sets.getD ((grC Sets Costs covered Sets.length).toNat) []) covered)) * (Costs.getD ((grC Sets Costs covered Sets.length).toNat) 0))), (k + 1), ?_⟩
        refine ⟨?_, ?_, rfl, rfl, ?_, rfl, rfl, rfl, rfl, rfl, rfl, rfl, rfl⟩
        ·refine ⟨?_, ?_, ?_, ?_⟩
         ·omega
         ·omega
         ·rw [show (k + 1).toNat = k.toNat + 1 by omega, putAll_succ, ← k3]
         ·have eB : grC Sets Costs covered Sets.length = grTo Sets Costs out Sets.length := by rw [hc]; rfl
          have hnf : ¬ coverB Size Sets out = true := fun e => by
            have := (cnt_full hg h2.inR).2 e
            unfold cnt at this
            rw [← hc] at this
            omega
          have gn := gr_next (Costs := Costs) hg ha hnf
          have gi := (grTo_facts Sets Costs out Sets.length).1
          have gp := (grTo_facts Sets Costs out Sets.length).2.1 gn
          have hn1 : newN Sets out (grTo Sets Costs out Sets.length).toNat = newOf (Sets.getD (grTo Sets Costs out Sets.length).toNat []) (covL Sets out out.length) := rfl
          have hrs := gs_set hg (k := (grTo Sets Costs out Sets.length).toNat) (by omega)
          have sl := rising_len hrs (by omega)
          rw [eB] at b2 k2 k3 k4 b3
          rw [k3, put_same hrs (by omega)] at b3
          rw [eB, show (k + 1).toNat = k.toNat + 1 by omega, setsTo_succ, if_neg (by rw [b3]; decide), ← k4, prV_last, hn1, hc]
        ·first | (show _ < _; omega) | (simp only [s_l6Greedy_own_mJ1]; omega) | (simp only [s_l6Greedy_own_mJ1] at *; simp at *; omega)
        ·simp
      ·intro b4
       try simp only [nrmT] at b4
       refine ⟨?_, ?_⟩
       ·have eB : grC Sets Costs covered Sets.length = grTo Sets Costs out Sets.length := by rw [hc]; rfl
        have hnf : ¬ coverB Size Sets out = true := fun e => by
          have := (cnt_full hg h2.inR).2 e
          unfold cnt at this
          rw [← hc] at this
          omega
        have gn := gr_next (Costs := Costs) hg ha hnf
        have gi := (grTo_facts Sets Costs out Sets.length).1
        have gp := (grTo_facts Sets Costs out Sets.length).2.1 gn
        have hn1 : newN Sets out (grTo Sets Costs out Sets.length).toNat = newOf (Sets.getD (grTo Sets Costs out Sets.length).toNat []) (covL Sets out out.length) := rfl
        have hrs := gs_set hg (k := (grTo Sets Costs out Sets.length).toNat) (by omega)
        have sl := rising_len hrs (by omega)
        rw [eB] at b2
        omega
       ·refine ⟨cov1, pr1, (k + 1), ?_⟩
        refine ⟨?_, ?_, rfl, rfl, rfl, rfl, rfl, rfl, rfl, rfl, rfl, rfl, rfl⟩
        ·refine ⟨?_, ?_, ?_, ?_⟩
         ·omega
         ·omega
         ·have eB : grC Sets Costs covered Sets.length = grTo Sets Costs out Sets.length := by rw [hc]; rfl
          have hnf : ¬ coverB Size Sets out = true := fun e => by
            have := (cnt_full hg h2.inR).2 e
            unfold cnt at this
            rw [← hc] at this
            omega
          have gn := gr_next (Costs := Costs) hg ha hnf
          have gi := (grTo_facts Sets Costs out Sets.length).1
          have gp := (grTo_facts Sets Costs out Sets.length).2.1 gn
          have hn1 : newN Sets out (grTo Sets Costs out Sets.length).toNat = newOf (Sets.getD (grTo Sets Costs out Sets.length).toNat []) (covL Sets out out.length) := rfl
          have hrs := gs_set hg (k := (grTo Sets Costs out Sets.length).toNat) (by omega)
          have sl := rising_len hrs (by omega)
          rw [eB] at k2 k3 b4
          rw [eB, show (k + 1).toNat = k.toNat + 1 by omega, putAll_succ, ← k3]
          refine (putL_mem ?_ (List.contains_iff_mem.1 b4)).symm
          rw [k3, hc]; exact asc_putAll (asc_covL _) _
         ·have eB : grC Sets Costs covered Sets.length = grTo Sets Costs out Sets.length := by rw [hc]; rfl
          have hnf : ¬ coverB Size Sets out = true := fun e => by
            have := (cnt_full hg h2.inR).2 e
            unfold cnt at this
            rw [← hc] at this
            omega
          have gn := gr_next (Costs := Costs) hg ha hnf
          have gi := (grTo_facts Sets Costs out Sets.length).1
          have gp := (grTo_facts Sets Costs out Sets.length).2.1 gn
          have hn1 : newN Sets out (grTo Sets Costs out Sets.length).toNat = newOf (Sets.getD (grTo Sets Costs out Sets.length).toNat []) (covL Sets out out.length) := rfl
          have hrs := gs_set hg (k := (grTo Sets Costs out Sets.length).toNat) (by omega)
          have sl := rising_len hrs (by omega)
          rw [eB] at b2 k2 k3 k4 b4
          rw [k3, put_same hrs (by omega)] at b4
          rw [eB, show (k + 1).toNat = k.toNat + 1 by omega, setsTo_succ, if_pos b4, ← k4]
        ·first | (show _ < _; omega) | (simp only [s_l6Greedy_own_mJ1]; omega) | (simp only [s_l6Greedy_own_mJ1] at *; simp at *; omega)
     ·intro b5
      try simp only [nrmT] at b5
      refine ⟨rfl, rfl, ?_, ?_⟩
      ·have := h2.len
       have := cnt_le hg h2.inR
       omega
      ·refine ⟨(out ++ [(grC Sets Costs covered Sets.length)]), cov1, pr1, ?_⟩
       refine ⟨?_, ?_, ?_, rfl, rfl, rfl, rfl, rfl, rfl, rfl⟩
       ·refine ⟨?_, ?_, ?_, ?_⟩
        ·have eB : grC Sets Costs covered Sets.length = grTo Sets Costs out Sets.length := by rw [hc]; rfl
         have hnf : ¬ coverB Size Sets out = true := fun e => by
           have := (cnt_full hg h2.inR).2 e
           unfold cnt at this
           rw [← hc] at this
           omega
         have gn := gr_next (Costs := Costs) hg ha hnf
         have gi := (grTo_facts Sets Costs out Sets.length).1
         have gp := (grTo_facts Sets Costs out Sets.length).2.1 gn
         have hn1 : newN Sets out (grTo Sets Costs out Sets.length).toNat = newOf (Sets.getD (grTo Sets Costs out Sets.length).toNat []) (covL Sets out out.length) := rfl
         have hrs := gs_set hg (k := (grTo Sets Costs out Sets.length).toNat) (by omega)
         have sl := rising_len hrs (by omega)
         rw [eB]; exact grOk_app hg h2 (by omega)
        ·have eB : grC Sets Costs covered Sets.length = grTo Sets Costs out Sets.length := by rw [hc]; rfl
         have hnf : ¬ coverB Size Sets out = true := fun e => by
           have := (cnt_full hg h2.inR).2 e
           unfold cnt at this
           rw [← hc] at this
           omega
         have gn := gr_next (Costs := Costs) hg ha hnf
         have gi := (grTo_facts Sets Costs out Sets.length).1
         have gp := (grTo_facts Sets Costs out Sets.length).2.1 gn
         have hn1 : newN Sets out (grTo Sets Costs out Sets.length).toNat = newOf (Sets.getD (grTo Sets Costs out Sets.length).toNat []) (covL Sets out out.length) := rfl
         have hrs := gs_set hg (k := (grTo Sets Costs out Sets.length).toNat) (by omega)
         have sl := rising_len hrs (by omega)
         rw [eB, grs_step hg h2.inR hnf (by omega), h3]
        ·have eB : grC Sets Costs covered Sets.length = grTo Sets Costs out Sets.length := by rw [hc]; rfl
         have hnf : ¬ coverB Size Sets out = true := fun e => by
           have := (cnt_full hg h2.inR).2 e
           unfold cnt at this
           rw [← hc] at this
           omega
         have gn := gr_next (Costs := Costs) hg ha hnf
         have gi := (grTo_facts Sets Costs out Sets.length).1
         have gp := (grTo_facts Sets Costs out Sets.length).2.1 gn
         have hn1 : newN Sets out (grTo Sets Costs out Sets.length).toNat = newOf (Sets.getD (grTo Sets Costs out Sets.length).toNat []) (covL Sets out out.length) := rfl
         have hrs := gs_set hg (k := (grTo Sets Costs out Sets.length).toNat) (by omega)
         have sl := rising_len hrs (by omega)
         rw [eB] at k2 k4 b5 ⊢
         rw [k4, show k.toNat = (Sets.getD (grTo Sets Costs out Sets.length).toNat []).length by omega, h4, hc, List.length_append, List.length_cons, List.length_nil]
         exact prL_spec hg (by omega)
        ·have eB : grC Sets Costs covered Sets.length = grTo Sets Costs out Sets.length := by rw [hc]; rfl
         have hnf : ¬ coverB Size Sets out = true := fun e => by
           have := (cnt_full hg h2.inR).2 e
           unfold cnt at this
           rw [← hc] at this
           omega
         have gn := gr_next (Costs := Costs) hg ha hnf
         have gi := (grTo_facts Sets Costs out Sets.length).1
         have gp := (grTo_facts Sets Costs out Sets.length).2.1 gn
         have hn1 : newN Sets out (grTo Sets Costs out Sets.length).toNat = newOf (Sets.getD (grTo Sets Costs out Sets.length).toNat []) (covL Sets out out.length) := rfl
         have hrs := gs_set hg (k := (grTo Sets Costs out Sets.length).toNat) (by omega)
         have sl := rising_len hrs (by omega)
         rw [eB] at k2 k3 b5 ⊢
         rw [covL_app, k3, show k.toNat = (Sets.getD (grTo Sets Costs out Sets.length).toNat []).length by omega, hc]
       ·have eB : grC Sets Costs covered Sets.length = grTo Sets Costs out Sets.length := by rw [hc]; rfl
        have hnf : ¬ coverB Size Sets out = true := fun e => by
          have := (cnt_full hg h2.inR).2 e
          unfold cnt at this
          rw [← hc] at this
          omega
        have gn := gr_next (Costs := Costs) hg ha hnf
        have gi := (grTo_facts Sets Costs out Sets.length).1
        have gp := (grTo_facts Sets Costs out Sets.length).2.1 gn
        have hn1 : newN Sets out (grTo Sets Costs out Sets.length).toNat = newOf (Sets.getD (grTo Sets Costs out Sets.length).toNat []) (covL Sets out out.length) := rfl
        have hrs := gs_set hg (k := (grTo Sets Costs out Sets.length).toNat) (by omega)
        have sl := rising_len hrs (by omega)
        have h12 := cnt_step hg h2.inR (b := grTo Sets Costs out Sets.length) (by omega) gp
        have h13 := cnt_le hg (inR_app h2.inR (b := grTo Sets Costs out Sets.length) (by omega))
        show Size.toNat - cnt Sets (out ++ [grC Sets Costs covered Sets.length]) < Size.toNat - cnt Sets out
        rw [eB]; omega
       ·simp
   ·intro b6
    try simp only [nrmT] at b6
    refine ⟨rfl, ?_, rfl, ?_⟩
    ·have e : coverB Size Sets out = true := by
       rw [← cnt_full hg h2.inR]
       have := cnt_le hg h2.inR
       unfold cnt at *
       rw [← hc] at *
       omega
     unfold grO; rw [← h3, grs_full e]; rfl
    ·have e : coverB Size Sets out = true := by
       rw [← cnt_full hg h2.inR]
       have := cnt_le hg h2.inR
       unfold cnt at *
       rw [← hc] at *
       omega
     unfold grO; rw [← h3, grs_full e, h4]; rfl
theorem s_l6Greedy_own_pc (Size : Int) (Sets : List (List Int)) (Costs : List Int) (hg : goodSys Size Sets Costs = true) (ha : coverB Size Sets (allN Sets.length) = true) : PC Try.prog 193 [.agg [.int .i64 Size, .sl (.rows Sets), .sl (.ints Costs)]] (.tup [.d (.sl (.ints (grO Size Sets Costs))), .own 3 (.ints (prL Size Sets Costs (grO Size Sets Costs) (grO Size Sets Costs).length))]) :=
  pc_wf @Try.call193 fun hw => pc_by (by kernel_rfl) Try.func193 @Try.call193 (by kernel_rfl) s_l6Greedy_own_C (s_l6Greedy_own_A Size Sets Costs) (by kernel_rfl) (s_l6Greedy_own_vc Size Sets Costs hg ha hw.1.2.1.1 hw.1.2.1.2 hw.1.2.2.1) (by kernel_rfl)
def s_GreedyPrices_own_C (f : FuncId) (ds : List D) : Orc := bif Nat.beq f 122 then s_l6Good_orc ds else bif Nat.beq f 192 then s_l6All_orc ds else bif Nat.beq f 186 then s_l6Cover_orc ds else .no
def s_GreedyPrices_own_A (Size : Int) (Sets : List (List Int)) (Costs : List Int) : Ann := .two (.none) (.two (.none) (.two (.reg [(1, .call none (.tup [.d (.sl (.ints (grO Size Sets Costs))), .own 3 (.ints (prL Size Sets Costs (grO Size Sets Costs) (grO Size Sets Costs).length))]))]) (.none)))
def s_GreedyPrices_own_P (Size : Int) (Sets : List (List Int)) (Costs : List Int) : Prop :=
  (true = true) ∧ (PC Try.prog 122 [.agg [.int .i64 Size, .sl (.rows Sets), .sl (.ints Costs)]] (.one (.d (.bool (goodSys Size Sets Costs))))) ∧ ((!(!(goodSys Size Sets Costs))) = true → (!(!(goodSys Size Sets Costs))) = true) ∧ ((!(!(goodSys Size Sets Costs))) = true → PC Try.prog 192 [.agg [.int .i64 Size, .sl (.rows Sets), .sl (.ints Costs)]] (.one (.d (.sl (.ints (allN Sets.length)))))) ∧ ((!(!(goodSys Size Sets Costs))) = true → (!(!(goodSys Size Sets Costs))) = true) ∧ ((!(!(goodSys Size Sets Costs))) = true → (!(!(goodSys Size Sets Costs))) = true) ∧ ((!(!(goodSys Size Sets Costs))) = true → PC Try.prog 186 [.agg [.int .i64 Size, .sl (.rows Sets), .sl (.ints Costs)], .sl (.ints (allN Sets.length))] (.one (.d (.bool (coverB Size Sets (allN Sets.length)))))) ∧ ((!(!(goodSys Size Sets Costs))) = true → (!(!(goodSys Size Sets Costs))) = true) ∧ (true = true) ∧ (((!(goodSys Size Sets Costs)) = true → true = true)) ∧ (((!(goodSys Size Sets Costs)) = false → (!(!(goodSys Size Sets Costs))) = true)) ∧ (((cond (!(goodSys Size Sets Costs)) true (!(coverB Size Sets (allN Sets.length)))) = true → (((0 : Nat) = 0) ∧ (([] : List Int) = gpL Size Sets Costs) ∧ (false = (goodSys Size Sets Costs && coverB Size Sets (allN Sets.length))))) ∧ ((cond (!(goodSys Size Sets Costs)) true (!(coverB Size Sets (allN Sets.length)))) = false → (PC Try.prog 193 [.agg [.int .i64 Size, .sl (.rows Sets), .sl (.ints Costs)]] (.tup [.d (.sl (.ints (grO Size Sets Costs))), .own 3 (.ints (prL Size Sets Costs (grO Size Sets Costs) (grO Size Sets Costs).length))])) ∧ (((prL Size Sets Costs (grO Size Sets Costs) (grO Size Sets Costs).length).length = (prL Size Sets Costs (grO Size Sets Costs) (grO Size Sets Costs).length).length) ∧ ((prL Size Sets Costs (grO Size Sets Costs) (grO Size Sets Costs).length : List Int) = gpL Size Sets Costs) ∧ (true = (goodSys Size Sets Costs && coverB Size Sets (allN Sets.length))))))
theorem s_GreedyPrices_own_vc (Size : Int) (Sets : List (List Int)) (Costs : List Int)  (w_Sets : (Sets.length : Int) ≤ 9223372036854775807) (v_Sets : ∀ x9 ∈ Sets, (x9.length : Int) ≤ 9223372036854775807) (w_Costs : (Costs.length : Int) ≤ 9223372036854775807) : s_GreedyPrices_own_P Size Sets Costs := by
  unfold s_GreedyPrices_own_P
  refine ⟨rfl, s_l6Good_pc Size Sets Costs, id, ?_, id, id, ?_, id, rfl, fun _ => rfl, ?_, ?_, ?_⟩
  ·intro hg
   refine s_l6All_pc Size Sets Costs ?_
   ·simpa only [Bool.not_not] using hg
  ·intro hg
   refine s_l6Cover_pc Size Sets Costs (allN Sets.length) ?_ ?_
   ·simpa only [Bool.not_not] using hg
   ·exact all_rising _
  ·intro h; rw [h]; rfl
  ·intro b1
   refine ⟨rfl, ?_, ?_⟩
   ·have hq : (goodSys Size Sets Costs && coverB Size Sets (allN Sets.length)) = false := by
      revert b1; cases goodSys Size Sets Costs <;> cases coverB Size Sets (allN Sets.length) <;> simp
    unfold gpL; rw [hq]; rfl
   ·have hq : (goodSys Size Sets Costs && coverB Size Sets (allN Sets.length)) = false := by
      revert b1; cases goodSys Size Sets Costs <;> cases coverB Size Sets (allN Sets.length) <;> simp
    exact hq.symm
  ·intro b2
   refine ⟨?_, rfl, ?_, ?_⟩
   ·refine s_l6Greedy_own_pc Size Sets Costs ?_ ?_
    ·have hq : goodSys Size Sets Costs = true ∧ coverB Size Sets (allN Sets.length) = true := by
       revert b2; cases goodSys Size Sets Costs <;> cases coverB Size Sets (allN Sets.length) <;> simp
     exact hq.1
    ·have hq : goodSys Size Sets Costs = true ∧ coverB Size Sets (allN Sets.length) = true := by
       revert b2; cases goodSys Size Sets Costs <;> cases coverB Size Sets (allN Sets.length) <;> simp
     exact hq.2
   ·have hq : goodSys Size Sets Costs = true ∧ coverB Size Sets (allN Sets.length) = true := by
      revert b2; cases goodSys Size Sets Costs <;> cases coverB Size Sets (allN Sets.length) <;> simp
    unfold gpL; rw [if_pos (by rw [hq.1, hq.2]; rfl)]
   ·have hq : goodSys Size Sets Costs = true ∧ coverB Size Sets (allN Sets.length) = true := by
      revert b2; cases goodSys Size Sets Costs <;> cases coverB Size Sets (allN Sets.length) <;> simp
    rw [hq.1, hq.2]; rfl
theorem s_GreedyPrices_own_pc (Size : Int) (Sets : List (List Int)) (Costs : List Int)  : PC Try.prog 104 [.agg [.int .i64 Size, .sl (.rows Sets), .sl (.ints Costs)]] (.tup [.own 3 (.ints (gpL Size Sets Costs)), .d (.bool (goodSys Size Sets Costs && coverB Size Sets (allN Sets.length)))]) :=
  pc_wf @Try.call104 fun hw => pc_by (by kernel_rfl) Try.func104 @Try.call104 (by kernel_rfl) s_GreedyPrices_own_C (s_GreedyPrices_own_A Size Sets Costs) (by kernel_rfl) (s_GreedyPrices_own_vc Size Sets Costs hw.1.2.1.1 hw.1.2.1.2 hw.1.2.2.1) (by kernel_rfl)
theorem gp_in (Size : Int) (Sets : List (List Int)) (Costs : List Int) : ∀ y ∈ gpL Size Sets Costs, 0 ≤ y ∧ y ≤ 1000000 := by
  by_cases hk : lcOk Size Sets Costs = true
  · obtain ⟨_, _, _, _, _, _, _, _, h9, _, _⟩ := cv_facts hk
    exact h9
  · intro y hy
    unfold gpL at hy
    rw [if_neg (show ¬ (goodSys Size Sets Costs && coverB Size Sets (allN Sets.length)) = true from hk)] at hy
    cases hy
theorem raise_in (Size : Int) (Sets : List (List Int)) (Costs : List Int) : ∀ y ∈ raiseP Size Sets Costs, 0 ≤ y ∧ y ≤ 1000000 := by
  intro y hy
  unfold raiseP at hy
  split at hy
  · rename_i hg
    have := (raiseTo_ok hg Size.toNat).2 y hy
    omega
  · cases hy
theorem pick3 (code : List Nat) (c : Cur) : -1 ≤ ([1, -1, 5] : List Int).getD (pickV code c (([1, -1, 5] : List Int).length : Int)).toNat 0 ∧ ([1, -1, 5] : List Int).getD (pickV code c (([1, -1, 5] : List Int).length : Int)).toNat 0 ≤ 5 := by
  have h := pick_mem [1, -1, 5] code c (by simp)
  revert h
  generalize ([1, -1, 5] : List Int).getD _ 0 = z
  intro h
  simp at h
  omega
abbrev s_DrawArePrices_JR2 (code : List Nat) (c9 : Cur) (Z : Int) (S : List (List Int)) (K : List Int) : Prop := (okC c9 1001000)
abbrev s_DrawArePrices_JR5 (code : List Nat) (c9 : Cur) (Z : Int) (S : List (List Int)) (K : List Int) (cn : Bool) (c0 : Cur) : Prop := (okC c0 1001500)
abbrev s_DrawArePrices_JR8 (code : List Nat) (c9 : Cur) (Z : Int) (S : List (List Int)) (K : List Int) (prices : List Int) (scale : Int) (c1 : Cur) (cm : Bool) (c3 : Cur) : Prop := (okC c3 1002500) ∧ (cm = true → 0 < prices.length)
abbrev s_DrawArePrices_JR1008 (code : List Nat) (c9 : Cur) (Z : Int) (S : List (List Int)) (K : List Int) (prices : List Int) (scale : Int) (c1 : Cur) : Prop := (okC c1 1002000) ∧ (prices.length ≤ 16) ∧ (∀ y ∈ prices, 0 ≤ y ∧ y ≤ 1000000)
abbrev s_DrawArePrices_JR1011 (code : List Nat) (c9 : Cur) (Z : Int) (S : List (List Int)) (K : List Int) (prices : List Int) (scale : Int) (c1 : Cur) (price2 : List Int) (c2 : Cur) : Prop := (okC c2 1003000) ∧ (price2.length ≤ 16)
abbrev s_DrawArePrices_Q (code : List Nat) (Z : Int) (S : List (List Int)) (K : List Int) (ps : List Int) (sc : Int) : Prop := True
def s_DrawArePrices_X (code : List Nat) : Ex := ex5 0 (fun (Z : Int) (S : List (List Int)) (K : List Int) (ps : List Int) (sc : Int) => s_DrawArePrices_Q code Z S K ps sc) (fun (Z : Int) (S : List (List Int)) (K : List Int) (ps : List Int) (sc : Int) => []) (fun (Z : Int) (S : List (List Int)) (K : List Int) (ps : List Int) (sc : Int) => .tup [.d (.agg [.int .i64 Z, .sl (.rows S), .sl (.ints K)]), .d (.sl (.ints ps)), .d (.int .i64 sc)])
def s_DrawArePrices_C (f : FuncId) (ds : List D) : Orc := .no
def s_DrawArePrices_A (code : List Nat) : Ann := .two (.none) (.two (.none) (.cut (.exr (.ex [] 1 (s_l1Cur_system_X code cur0) (fun g => (fun (Zr2 : Int) (Sr2 : List (List Int)) (Kr2 : List Int) (czr2 : Cur) => .ms [] []) (g.1) (g.2.1) (g.2.2.1) (g.2.2.2)))) (cut4 (fun (c9 : Cur) (Z : Int) (S : List (List Int)) (K : List Int) => s_DrawArePrices_JR2 code c9 Z S K) (fun (c9 : Cur) (Z : Int) (S : List (List Int)) (K : List Int) => [(2, .ptr 2 0), (5, .ptr 14 0), (6, .ptr 6 0)]) (fun (c9 : Cur) (Z : Int) (S : List (List Int)) (K : List Int) => [(2, .box 36 [.d true (.int .i64 0), .d true (.nil), .d true (.nil)]), (14, .box 98 [.d false (.sl (.bytes code)), .d true (.int .i64 c9.pos), .d true (.int .u64 c9.seed)]), (6, .box 36 [.d true (.int .i64 Z), .d true (.sl (.rows S)), .d true (.sl (.ints K))])])) (fun g => (fun (c9 : Cur) (Z : Int) (S : List (List Int)) (K : List Int) => .two (.reg [(1, .call none (.tup [.own 3 (.ints (raiseP Z S K)), .own 3 (.ints (raiseC Z S K)), .d (.bool (goodSys Z S K))]))]) (.two (.none) (.cut (.cut (.mark [] [(4, .cell [.int .i64 ((pickC code c9 2).pos), .int .u64 ((pickC code c9 2).seed)] (.one (.d (.bool (pickV code c9 2 == 0)))))]) (cut2 (fun (cn : Bool) (c0 : Cur) => s_DrawArePrices_JR5 code c9 Z S K cn c0) (fun (cn : Bool) (c0 : Cur) => [(2, .ptr 2 0), (5, .ptr 14 0), (6, .ptr 6 0), (7, .own 19 ((raiseP Z S K).length)), (10, .d true (.int .i64 1)), (28, .d true (.bool cn))]) (fun (cn : Bool) (c0 : Cur) => [(2, .box 36 [.d true (.int .i64 0), .d true (.nil), .d true (.nil)]), (14, .box 98 [.d false (.sl (.bytes code)), .d true (.int .i64 c0.pos), .d true (.int .u64 c0.seed)]), (6, .box 36 [.d true (.int .i64 Z), .d true (.sl (.rows S)), .d true (.sl (.ints K))]), (19, .arr true 3 (.ints (raiseP Z S K)))])) (fun g => (fun (cn : Bool) (c0 : Cur) => .two (.two (.reg [(1, .call none (.tup [.own 3 (.ints (gpL Z S K)), .d (.bool (goodSys Z S K && coverB Z S (allN S.length)))]))]) (.mark [] [(2, .cell [.int .i64 ((pickC code c0 (([840, 840, 2283, 1, 2000]).length : Int)).pos), .int .u64 ((pickC code c0 (([840, 840, 2283, 1, 2000]).length : Int)).seed)] (.one (.d (.int .i64 (([840, 840, 2283, 1, 2000]).getD (pickV code c0 (([840, 840, 2283, 1, 2000]).length : Int)).toNat 0)))))])) (.none)) (g.1) (g.2))) (cut3 (fun (prices : List Int) (scale : Int) (c1 : Cur) => s_DrawArePrices_JR1008 code c9 Z S K prices scale c1) (fun (prices : List Int) (scale : Int) (c1 : Cur) => [(2, .ptr 2 0), (5, .ptr 14 0), (6, .ptr 6 0), (7, .own 1600800 prices.length), (10, .d true (.int .i64 scale))]) (fun (prices : List Int) (scale : Int) (c1 : Cur) => [(1600800, .arr true 3 (.ints prices)), (2, .box 36 [.d true (.int .i64 0), .d true (.nil), .d true (.nil)]), (14, .box 98 [.d false (.sl (.bytes code)), .d true (.int .i64 c1.pos), .d true (.int .u64 c1.seed)]), (6, .box 36 [.d true (.int .i64 Z), .d true (.sl (.rows S)), .d true (.sl (.ints K))])])) (fun g => (fun (prices : List Int) (scale : Int) (c1 : Cur) => .cut (.cut (.mark [] [(5, .cell [.int .i64 ((pickC code c1 4).pos), .int .u64 ((pickC code c1 4).seed)] (.one (.d (.bool (pickV code c1 4 == 0)))))]) (cut2 (fun (cm : Bool) (c3 : Cur) => s_DrawArePrices_JR8 code c9 Z S K prices scale c1 cm c3) (fun (cm : Bool) (c3 : Cur) => [(2, .ptr 2 0), (5, .ptr 14 0), (6, .ptr 6 0), (7, .own 1600800 prices.length), (10, .d true (.int .i64 scale)), (43, .d true (.bool cm))]) (fun (cm : Bool) (c3 : Cur) => [(2, .box 36 [.d true (.int .i64 0), .d true (.nil), .d true (.nil)]), (14, .box 98 [.d false (.sl (.bytes code)), .d true (.int .i64 c3.pos), .d true (.int .u64 c3.seed)]), (6, .box 36 [.d true (.int .i64 Z), .d true (.sl (.rows S)), .d true (.sl (.ints K))]), (1600800, .arr true 3 (.ints prices))])) (fun g => (fun (cm : Bool) (c3 : Cur) => .two (.two (.mark [] [(3, .cell [.int .i64 ((pickC code c3 (prices.length : Int)).pos), .int .u64 ((pickC code c3 (prices.length : Int)).seed)] (.one (.d (.int .i64 (pickV code c3 (prices.length : Int))))))]) (.reg [(8, .cell [.int .i64 ((pickC code (pickC code c3 (prices.length : Int)) (([1, (-1), 5]).length : Int)).pos), .int .u64 ((pickC code (pickC code c3 (prices.length : Int)) (([1, (-1), 5]).length : Int)).seed)] (.one (.d (.int .i64 (([1, (-1), 5]).getD (pickV code (pickC code c3 (prices.length : Int)) (([1, (-1), 5]).length : Int)).toNat 0)))))])) (.none)) (g.1) (g.2))) (cut2 (fun (price2 : List Int) (c2 : Cur) => s_DrawArePrices_JR1011 code c9 Z S K prices scale c1 price2 c2) (fun (price2 : List Int) (c2 : Cur) => [(2, .ptr 2 0), (5, .ptr 14 0), (6, .ptr 6 0), (7, .own 1600800 price2.length), (10, .d true (.int .i64 scale))]) (fun (price2 : List Int) (c2 : Cur) => [(1600800, .arr true 3 (.ints price2)), (2, .box 36 [.d true (.int .i64 0), .d true (.nil), .d true (.nil)]), (14, .box 98 [.d false (.sl (.bytes code)), .d true (.int .i64 c2.pos), .d true (.int .u64 c2.seed)]), (6, .box 36 [.d true (.int .i64 Z), .d true (.sl (.rows S)), .d true (.sl (.ints K))])])) (fun g => (fun (price2 : List Int) (c2 : Cur) => .two (.two (.mark [] [(1, .cell [.int .i64 ((pickC code c2 40).pos), .int .u64 ((pickC code c2 40).seed)] (.one (.d (.int .i64 (pickV code c2 40)))))]) (.two (.none) (.two (.mark [] [(2, .cell [.int .i64 ((pickC code (pickC code c2 40) (([0, (-1), 1000000, 1000001]).length : Int)).pos), .int .u64 ((pickC code (pickC code c2 40) (([0, (-1), 1000000, 1000001]).length : Int)).seed)] (.one (.d (.int .i64 (([0, (-1), 1000000, 1000001]).getD (pickV code (pickC code c2 40) (([0, (-1), 1000000, 1000001]).length : Int)).toNat 0)))))]) (.two (.none) (.two (.none) (.two (.none) (.two (.two (.none) (.two (.mark [] [(3, .cell [.int .i64 ((pickC code (pickC code c2 40) (([(-1), 1000000, 1000001]).length : Int)).pos), .int .u64 ((pickC code (pickC code c2 40) (([(-1), 1000000, 1000001]).length : Int)).seed)] (.one (.d (.int .i64 (([(-1), 1000000, 1000001]).getD (pickV code (pickC code c2 40) (([(-1), 1000000, 1000001]).length : Int)).toNat 0)))))]) (.none))) (.none)))))))) (.none)) (g.1) (g.2))) (g.1) (g.2.1) (g.2.2))))) (g.1) (g.2.1) (g.2.2.1) (g.2.2.2))))
def s_DrawArePrices_P (code : List Nat) : Prop :=
  (((PKE Try.prog 163 98 (.sl (.bytes code)) [.int .i64 0, .int .u64 0] [] (s_l1Cur_system_X code cur0)) ∧ (∀ Zr2 : Int, ∀ Sr2 : List (List Int), ∀ Kr2 : List Int, ∀ czr2 : Cur, s_l1Cur_system_Q code cur0 Zr2 Sr2 Kr2 czr2 → ((true = true) ∧ (∃ c9' : Cur, ∃ Z' : Int, ∃ S' : List (List Int), ∃ K' : List Int, (s_DrawArePrices_JR2 code c9' Z' S' K') ∧ ((0 : Int) = 0) ∧ (code = code) ∧ (czr2.pos = c9'.pos) ∧ (czr2.seed = c9'.seed) ∧ (Zr2 = Z') ∧ (Sr2 = S') ∧ (Kr2 = K'))))) ∧ (∀ c9 : Cur, ∀ Z : Int, ∀ S : List (List Int), ∀ K : List Int, (s_DrawArePrices_JR2 code c9 Z S K) → (PC Try.prog 88 [.agg [.int .i64 Z, .sl (.rows S), .sl (.ints K)]] (.tup [.own 3 (.ints (raiseP Z S K)), .own 3 (.ints (raiseC Z S K)), .d (.bool (goodSys Z S K))])) ∧ (((((!(!(goodSys Z S K))) = true → (!(!(goodSys Z S K))) = true) ∧ ((!(!(goodSys Z S K))) = true → PK Try.prog 108 98 (.sl (.bytes code)) [.int .i64 c9.pos, .int .u64 c9.seed] [.int .i64 ((pickC code c9 2).pos), .int .u64 ((pickC code c9 2).seed)] [.int .i64 2] (.one (.d (.bool (pickV code c9 2 == 0))))) ∧ (true = true) ∧ (((!(goodSys Z S K)) = true → true = true)) ∧ (((!(goodSys Z S K)) = false → (!(!(goodSys Z S K))) = true)) ∧ (∃ cn' : Bool, ∃ c0' : Cur, (s_DrawArePrices_JR5 code c9 Z S K cn' c0') ∧ ((raiseP Z S K).length = (raiseP Z S K).length) ∧ ((1 : Int) = 1) ∧ ((cond (!(goodSys Z S K)) true (pickV code c9 2 == 0)) = cn') ∧ ((0 : Int) = 0) ∧ (code = code) ∧ ((cond (!(!(goodSys Z S K))) ((pickC code c9 2).pos) c9.pos) = c0'.pos) ∧ ((cond (!(!(goodSys Z S K))) ((pickC code c9 2).seed) c9.seed) = c0'.seed) ∧ (Z = Z) ∧ (S = S) ∧ (K = K) ∧ (raiseP Z S K = raiseP Z S K))) ∧ (∀ cn : Bool, ∀ c0 : Cur, (s_DrawArePrices_JR5 code c9 Z S K cn c0) → ((cn = true → (PC Try.prog 104 [.agg [.int .i64 Z, .sl (.rows S), .sl (.ints K)]] (.tup [.own 3 (.ints (gpL Z S K)), .d (.bool (goodSys Z S K && coverB Z S (allN S.length)))])) ∧ ((5 : Nat) = 5) ∧ (PK Try.prog 106 98 (.sl (.bytes code)) [.int .i64 c0.pos, .int .u64 c0.seed] [.int .i64 ((pickC code c0 (([840, 840, 2283, 1, 2000]).length : Int)).pos), .int .u64 ((pickC code c0 (([840, 840, 2283, 1, 2000]).length : Int)).seed)] [.sl (.ints ([840, 840, 2283, 1, 2000]))] (.one (.d (.int .i64 (([840, 840, 2283, 1, 2000]).getD (pickV code c0 (([840, 840, 2283, 1, 2000]).length : Int)).toNat 0))))) ∧ (∃ prices' : List Int, ∃ scale' : Int, ∃ c1' : Cur, (s_DrawArePrices_JR1008 code c9 Z S K prices' scale' c1') ∧ ((gpL Z S K).length = prices'.length) ∧ ((([840, 840, 2283, 1, 2000]).getD (pickV code c0 (([840, 840, 2283, 1, 2000]).length : Int)).toNat 0) = scale') ∧ (gpL Z S K = prices') ∧ ((0 : Int) = 0) ∧ (code = code) ∧ ((pickC code c0 (([840, 840, 2283, 1, 2000]).length : Int)).pos = c1'.pos) ∧ ((pickC code c0 (([840, 840, 2283, 1, 2000]).length : Int)).seed = c1'.seed) ∧ (Z = Z) ∧ (S = S) ∧ (K = K))) ∧ (cn = false → (∃ prices' : List Int, ∃ scale' : Int, ∃ c1' : Cur, (s_DrawArePrices_JR1008 code c9 Z S K prices' scale' c1') ∧ ((raiseP Z S K).length = prices'.length) ∧ ((1 : Int) = scale') ∧ (raiseP Z S K = prices') ∧ ((0 : Int) = 0) ∧ (code = code) ∧ (c0.pos = c1'.pos) ∧ (c0.seed = c1'.seed) ∧ (Z = Z) ∧ (S = S) ∧ (K = K)))))) ∧ (∀ prices : List Int, ∀ scale : Int, ∀ c1 : Cur, (s_DrawArePrices_JR1008 code c9 Z S K prices scale c1) → (((((decide ((prices.length : Int) > 0)) = true → (decide ((prices.length : Int) > 0)) = true) ∧ ((decide ((prices.length : Int) > 0)) = true → PK Try.prog 108 98 (.sl (.bytes code)) [.int .i64 c1.pos, .int .u64 c1.seed] [.int .i64 ((pickC code c1 4).pos), .int .u64 ((pickC code c1 4).seed)] [.int .i64 4] (.one (.d (.bool (pickV code c1 4 == 0))))) ∧ (true = true) ∧ (((decide ((prices.length : Int) > 0)) = true → (decide ((prices.length : Int) > 0)) = true)) ∧ (((decide ((prices.length : Int) > 0)) = false → true = true)) ∧ (∃ cm' : Bool, ∃ c3' : Cur, (s_DrawArePrices_JR8 code c9 Z S K prices scale c1 cm' c3') ∧ (prices.length = prices.length) ∧ (scale = scale) ∧ ((cond (decide ((prices.length : Int) > 0)) (pickV code c1 4 == 0) false) = cm') ∧ ((0 : Int) = 0) ∧ (code = code) ∧ ((cond (decide ((prices.length : Int) > 0)) ((pickC code c1 4).pos) c1.pos) = c3'.pos) ∧ ((cond (decide ((prices.length : Int) > 0)) ((pickC code c1 4).seed) c1.seed) = c3'.seed) ∧ (Z = Z) ∧ (S = S) ∧ (K = K) ∧ (prices = prices))) ∧ (∀ cm : Bool, ∀ c3 : Cur, (s_DrawArePrices_JR8 code c9 Z S K prices scale c1 cm c3) → ((cm = true → (PK Try.prog 107 98 (.sl (.bytes code)) [.int .i64 c3.pos, .int .u64 c3.seed] [.int .i64 ((pickC code c3 (prices.length : Int)).pos), .int .u64 ((pickC code c3 (prices.length : Int)).seed)] [.int .i64 (prices.length : Int)] (.one (.d (.int .i64 (pickV code c3 (prices.length : Int)))))) ∧ (true = true) ∧ ((0 : Int) ≤ (pickV code c3 (prices.length : Int))) ∧ (((pickV code c3 (prices.length : Int)) : Int) < (prices.length : Int)) ∧ ((pickV code c3 (prices.length : Int)).toNat < prices.length) ∧ ((3 : Nat) = 3) ∧ (PK Try.prog 106 98 (.sl (.bytes code)) [.int .i64 ((pickC code c3 (prices.length : Int)).pos), .int .u64 ((pickC code c3 (prices.length : Int)).seed)] [.int .i64 ((pickC code (pickC code c3 (prices.length : Int)) (([1, (-1), 5]).length : Int)).pos), .int .u64 ((pickC code (pickC code c3 (prices.length : Int)) (([1, (-1), 5]).length : Int)).seed)] [.sl (.ints ([1, (-1), 5]))] (.one (.d (.int .i64 (([1, (-1), 5]).getD (pickV code (pickC code c3 (prices.length : Int)) (([1, (-1), 5]).length : Int)).toNat 0))))) ∧ (-9223372036854775808 ≤ ((prices.getD ((pickV code c3 (prices.length : Int)).toNat) 0) + (([1, (-1), 5]).getD (pickV code (pickC code c3 (prices.length : Int)) (([1, (-1), 5]).length : Int)).toNat 0)) ∧ ((prices.getD ((pickV code c3 (prices.length : Int)).toNat) 0) + (([1, (-1), 5]).getD (pickV code (pickC code c3 (prices.length : Int)) (([1, (-1), 5]).length : Int)).toNat 0)) ≤ 9223372036854775807) ∧ ((0 : Int) ≤ (pickV code c3 (prices.length : Int))) ∧ (((pickV code c3 (prices.length : Int)) : Int) < (prices.length : Int)) ∧ ((pickV code c3 (prices.length : Int)).toNat < prices.length) ∧ (∃ price2' : List Int, ∃ c2' : Cur, (s_DrawArePrices_JR1011 code c9 Z S K prices scale c1 price2' c2') ∧ (prices.length = price2'.length) ∧ (scale = scale) ∧ ((prices.set ((pickV code c3 (prices.length : Int)).toNat) ((prices.getD ((pickV code c3 (prices.length : Int)).toNat) 0) + (([1, (-1), 5]).getD (pickV code (pickC code c3 (prices.length : Int)) (([1, (-1), 5]).length : Int)).toNat 0))) = price2') ∧ ((0 : Int) = 0) ∧ (code = code) ∧ ((pickC code (pickC code c3 (prices.length : Int)) (([1, (-1), 5]).length : Int)).pos = c2'.pos) ∧ ((pickC code (pickC code c3 (prices.length : Int)) (([1, (-1), 5]).length : Int)).seed = c2'.seed) ∧ (Z = Z) ∧ (S = S) ∧ (K = K))) ∧ (cm = false → (∃ price2' : List Int, ∃ c2' : Cur, (s_DrawArePrices_JR1011 code c9 Z S K prices scale c1 price2' c2') ∧ (prices.length = price2'.length) ∧ (scale = scale) ∧ (prices = price2') ∧ ((0 : Int) = 0) ∧ (code = code) ∧ (c3.pos = c2'.pos) ∧ (c3.seed = c2'.seed) ∧ (Z = Z) ∧ (S = S) ∧ (K = K)))))) ∧ (∀ price2 : List Int, ∀ c2 : Cur, (s_DrawArePrices_JR1011 code c9 Z S K prices scale c1 price2 c2) → (PK Try.prog 107 98 (.sl (.bytes code)) [.int .i64 c2.pos, .int .u64 c2.seed] [.int .i64 ((pickC code c2 40).pos), .int .u64 ((pickC code c2 40).seed)] [.int .i64 40] (.one (.d (.int .i64 (pickV code c2 40))))) ∧ ((((pickV code c2 40) == 0) = true → ((4 : Nat) = 4) ∧ (PK Try.prog 106 98 (.sl (.bytes code)) [.int .i64 ((pickC code c2 40).pos), .int .u64 ((pickC code c2 40).seed)] [.int .i64 ((pickC code (pickC code c2 40) (([0, (-1), 1000000, 1000001]).length : Int)).pos), .int .u64 ((pickC code (pickC code c2 40) (([0, (-1), 1000000, 1000001]).length : Int)).seed)] [.sl (.ints ([0, (-1), 1000000, 1000001]))] (.one (.d (.int .i64 (([0, (-1), 1000000, 1000001]).getD (pickV code (pickC code c2 40) (([0, (-1), 1000000, 1000001]).length : Int)).toNat 0))))) ∧ (∃ Z' : Int, ∃ S' : List (List Int), ∃ K' : List Int, ∃ ps' : List Int, ∃ sc' : Int, (s_DrawArePrices_Q code Z' S' K' ps' sc') ∧ ((.agg [.int .i64 Z, .sl (.rows S), .sl (.ints K)] : D) = .agg [.int .i64 Z', .sl (.rows S'), .sl (.ints K')]) ∧ (price2.length = price2.length) ∧ ((price2 : List Int) = ps') ∧ ((([0, (-1), 1000000, 1000001]).getD (pickV code (pickC code c2 40) (([0, (-1), 1000000, 1000001]).length : Int)).toNat 0) = sc'))) ∧ (((pickV code c2 40) == 0) = false → ((((pickV code c2 40) == 1) = true → (price2.length = price2.length) ∧ ((1 : Nat) = 1) ∧ ((price2.length + 1) * 8 ≤ 140737488355328) ∧ (∃ Z' : Int, ∃ S' : List (List Int), ∃ K' : List Int, ∃ ps' : List Int, ∃ sc' : Int, (s_DrawArePrices_Q code Z' S' K' ps' sc') ∧ ((.agg [.int .i64 Z, .sl (.rows S), .sl (.ints K)] : D) = .agg [.int .i64 Z', .sl (.rows S'), .sl (.ints K')]) ∧ ((price2.length + 1) = (price2 ++ [0]).length) ∧ (((price2 ++ [0]) : List Int) = ps') ∧ (scale = sc'))) ∧ (((pickV code c2 40) == 1) = false → ((((pickV code c2 40) == 2) = true → (((decide ((price2.length : Int) > 0)) = true → ((3 : Nat) = 3) ∧ (PK Try.prog 106 98 (.sl (.bytes code)) [.int .i64 ((pickC code c2 40).pos), .int .u64 ((pickC code c2 40).seed)] [.int .i64 ((pickC code (pickC code c2 40) (([(-1), 1000000, 1000001]).length : Int)).pos), .int .u64 ((pickC code (pickC code c2 40) (([(-1), 1000000, 1000001]).length : Int)).seed)] [.sl (.ints ([(-1), 1000000, 1000001]))] (.one (.d (.int .i64 (([(-1), 1000000, 1000001]).getD (pickV code (pickC code c2 40) (([(-1), 1000000, 1000001]).length : Int)).toNat 0))))) ∧ ((0 : Int) ≤ 0) ∧ ((0 : Int) < (price2.length : Int)) ∧ (0 < price2.length) ∧ (∃ Z' : Int, ∃ S' : List (List Int), ∃ K' : List Int, ∃ ps' : List Int, ∃ sc' : Int, (s_DrawArePrices_Q code Z' S' K' ps' sc') ∧ ((.agg [.int .i64 Z, .sl (.rows S), .sl (.ints K)] : D) = .agg [.int .i64 Z', .sl (.rows S'), .sl (.ints K')]) ∧ (price2.length = (price2.set 0 (([(-1), 1000000, 1000001]).getD (pickV code (pickC code c2 40) (([(-1), 1000000, 1000001]).length : Int)).toNat 0)).length) ∧ (((price2.set 0 (([(-1), 1000000, 1000001]).getD (pickV code (pickC code c2 40) (([(-1), 1000000, 1000001]).length : Int)).toNat 0)) : List Int) = ps') ∧ (scale = sc'))) ∧ ((decide ((price2.length : Int) > 0)) = false → (∃ Z' : Int, ∃ S' : List (List Int), ∃ K' : List Int, ∃ ps' : List Int, ∃ sc' : Int, (s_DrawArePrices_Q code Z' S' K' ps' sc') ∧ ((.agg [.int .i64 Z, .sl (.rows S), .sl (.ints K)] : D) = .agg [.int .i64 Z', .sl (.rows S'), .sl (.ints K')]) ∧ (price2.length = price2.length) ∧ ((price2 : List Int) = ps') ∧ (scale = sc'))))) ∧ (((pickV code c2 40) == 2) = false → (∃ Z' : Int, ∃ S' : List (List Int), ∃ K' : List Int, ∃ ps' : List Int, ∃ sc' : Int, (s_DrawArePrices_Q code Z' S' K' ps' sc') ∧ ((.agg [.int .i64 Z, .sl (.rows S), .sl (.ints K)] : D) = .agg [.int .i64 Z', .sl (.rows S'), .sl (.ints K')]) ∧ (price2.length = price2.length) ∧ ((price2 : List Int) = ps') ∧ (scale = sc'))))))))))))))
theorem s_DrawArePrices_vc (code : List Nat) (hb : ∀ x9 ∈ code, x9 < 256) (w_code : (code.length : Int) ≤ 9223372036854775807) : s_DrawArePrices_P code := by
  unfold s_DrawArePrices_P
  refine ⟨?_, ?_⟩
  ·refine ⟨?_, ?_⟩
   ·refine s_l1Cur_system_pke code cur0 ?_ ?_
    ·exact hb
    ·exact okC_le (by repeat (first | assumption | apply ok_cond | apply ok_pick | apply ok_next | exact okC0)) (by omega)
   ·intro Zr2 Sr2 Kr2 czr2 hQ9
    have q1r2 := hQ9
    refine ⟨rfl, ?_⟩
    ·refine ⟨czr2, Zr2, Sr2, Kr2, ?_⟩
     refine ⟨?_, rfl, rfl, rfl, rfl, rfl, rfl, rfl⟩
     ·unfold s_DrawArePrices_JR2
      exact okC_le (by repeat (first | assumption | apply ok_cond | apply ok_pick | apply ok_next | exact okC0)) (by omega)
  ·intro c9 Z S K hJ
   have q1 := hJ
   refine ⟨s_RaisePrices_own_pc Z S K, ?_, ?_⟩
   ·refine ⟨?_, ?_⟩
    ·refine ⟨id, ?_, rfl, fun _ => rfl, ?_, ?_⟩
     ·intro hg
      refine s_l1Cur_one_pk code c9 2 ?_ ?_
      ·exact hb
      ·exact okC_le (by repeat (first | assumption | apply ok_cond | apply ok_pick | apply ok_next | exact okC0)) (by omega)
     ·(simp_all; done)
     ·refine ⟨(cond (!(goodSys Z S K)) true (pickV code c9 2 == 0)), (cond (!(!(goodSys Z S K))) (pickC code c9 2) c9), ?_⟩
      refine ⟨?_, rfl, rfl, rfl, rfl, rfl, cond_cur_pos _ _ _, cond_cur_seed _ _ _, rfl, rfl, rfl, rfl⟩
      ·unfold s_DrawArePrices_JR5
       exact okC_le (by repeat (first | assumption | apply ok_cond | apply ok_pick | apply ok_next | exact okC0)) (by omega)
    ·intro cn c0 hJ
     have k0 := hJ
     refine ⟨?_, ?_⟩
     ·intro b1
      try simp only [nrmT] at b1
      refine ⟨s_GreedyPrices_own_pc Z S K, rfl, ?_, ?_⟩
      ·refine s_l1Cur_among_pk code c0 ([840, 840, 2283, 1, 2000]) ?_ ?_ ?_
       ·exact hb
       ·exact okC_le (by repeat (first | assumption | apply ok_cond | apply ok_pick | apply ok_next | exact okC0)) (by omega)
       ·simp
      ·refine ⟨(gpL Z S K), (([840, 840, 2283, 1, 2000]).getD (pickV code c0 (([840, 840, 2283, 1, 2000]).length : Int)).toNat 0), (pickC code c0 (([840, 840, 2283, 1, 2000]).length : Int)), ?_⟩
       refine ⟨?_, rfl, rfl, ?_, rfl, rfl, rfl, rfl, rfl, rfl, rfl⟩
       ·refine ⟨?_, ?_, ?_⟩
        ·exact okC_le (by repeat (first | assumption | apply ok_cond | apply ok_pick | apply ok_next | exact okC0)) (by omega)
        ·have := @gpL_len Z S K; omega
        ·exact gp_in _ _ _
       ·rfl
     ·intro b2
      try simp only [nrmT] at b2
      refine ⟨(raiseP Z S K), 1, c0, ?_⟩
      refine ⟨?_, rfl, rfl, ?_, rfl, rfl, rfl, rfl, rfl, rfl, rfl⟩
      ·refine ⟨?_, ?_, ?_⟩
       ·exact okC_le (by repeat (first | assumption | apply ok_cond | apply ok_pick | apply ok_next | exact okC0)) (by omega)
       ·have := @raiseP_len Z S K; omega
       ·exact raise_in _ _ _
      ·rfl
   ·intro prices scale c1 hJ
    obtain ⟨k1, k2, k3⟩ := hJ
    refine ⟨?_, ?_⟩
    ·refine ⟨?_, ?_⟩
     ·refine ⟨id, ?_, rfl, id, fun _ => rfl, ?_⟩
      ·intro hg
       refine s_l1Cur_one_pk code c1 4 ?_ ?_
       ·exact hb
       ·exact okC_le (by repeat (first | assumption | apply ok_cond | apply ok_pick | apply ok_next | exact okC0)) (by omega)
      ·refine ⟨(cond (decide ((prices.length : Int) > 0)) (pickV code c1 4 == 0) false), (cond (decide ((prices.length : Int) > 0)) (pickC code c1 4) c1), ?_⟩
       refine ⟨?_, rfl, rfl, rfl, rfl, rfl, cond_cur_pos _ _ _, cond_cur_seed _ _ _, rfl, rfl, rfl, rfl⟩
       ·refine ⟨?_, ?_⟩
        ·exact okC_le (by repeat (first | assumption | apply ok_cond | apply ok_pick | apply ok_next | exact okC0)) (by omega)
        ·intro h9
         cases hd : decide ((prices.length : Int) > 0) with
         | true => have := of_decide_eq_true hd; omega
         | false => rw [hd] at h9; simp at h9
     ·intro cm c3 hJ
      obtain ⟨k7, k8⟩ := hJ
      refine ⟨?_, ?_⟩
      ·intro b3
       try simp only [nrmT] at b3
       refine ⟨?_, rfl, ?_, ?_, ?_, rfl, ?_, ?_, ?_, ?_, ?_, ?_⟩
       ·refine s_l1Cur_pick_pk code c3 (prices.length : Int) ?_ ?_
        ·exact hb
        ·exact okC_le (by repeat (first | assumption | apply ok_cond | apply ok_pick | apply ok_next | exact okC0)) (by omega)
       ·exact pickV_le _ _ _
       ·have hp : 0 < prices.length := k8 b3
        have v := pickV_in code c3 (n := (prices.length : Int)) (by omega)
        omega
       ·have hp : 0 < prices.length := k8 b3
        have v := pickV_in code c3 (n := (prices.length : Int)) (by omega)
        omega
       ·refine s_l1Cur_among_pk code (pickC code c3 (prices.length : Int)) ([1, (-1), 5]) ?_ ?_ ?_
        ·exact hb
        ·exact okC_le (by repeat (first | assumption | apply ok_cond | apply ok_pick | apply ok_next | exact okC0)) (by omega)
        ·simp
       ·have hp : 0 < prices.length := k8 b3
        have v := pickV_in code c3 (n := (prices.length : Int)) (by omega)
        have h9 := k3 _ (getD_mem (d := 0) (show (pickV code c3 (prices.length : Int)).toNat < prices.length by omega))
        have h8 := pick3 code (pickC code c3 (prices.length : Int))
        omega
       ·exact pickV_le _ _ _
       ·have hp : 0 < prices.length := k8 b3
        have v := pickV_in code c3 (n := (prices.length : Int)) (by omega)
        omega
       ·have hp : 0 < prices.length := k8 b3
        have v := pickV_in code c3 (n := (prices.length : Int)) (by omega)
        omega
       ·refine ⟨(prices.set ((pickV code c3 (prices.length : Int)).toNat) ((prices.getD ((pickV code c3 (prices.length : Int)).toNat) 0) + (([1, (-1), 5]).getD (pickV code (pickC code c3 (prices.length : Int)) (([1, (-1), 5]).length : Int)).toNat 0))), (pickC code (pickC code c3 (prices.length : Int)) (([1, (-1), 5]).length : Int)), ?_⟩
        refine ⟨?_, ?_, rfl, rfl, rfl, rfl, rfl, rfl, rfl, rfl, rfl⟩
        ·refine ⟨?_, ?_⟩
         ·exact okC_le (by repeat (first | assumption | apply ok_cond | apply ok_pick | apply ok_next | exact okC0)) (by omega)
         ·rw [List.length_set]; omega
        ·(simp_all; done)
      ·intro b4
       try simp only [nrmT] at b4
       refine ⟨prices, c3, ?_⟩
       refine ⟨?_, rfl, rfl, rfl, rfl, rfl, rfl, rfl, rfl, rfl, rfl⟩
       ·refine ⟨?_, ?_⟩
        ·exact okC_le (by repeat (first | assumption | apply ok_cond | apply ok_pick | apply ok_next | exact okC0)) (by omega)
        ·omega
    ·intro price2 c2 hJ
     obtain ⟨k4, k5⟩ := hJ
     refine ⟨?_, ?_, ?_⟩
     ·refine s_l1Cur_pick_pk code c2 40 ?_ ?_
      ·exact hb
      ·exact okC_le (by repeat (first | assumption | apply ok_cond | apply ok_pick | apply ok_next | exact okC0)) (by omega)
     ·intro b5
      try simp only [nrmT] at b5
      refine ⟨rfl, ?_, ?_⟩
      ·refine s_l1Cur_among_pk code (pickC code c2 40) ([0, (-1), 1000000, 1000001]) ?_ ?_ ?_
       ·exact hb
       ·exact okC_le (by repeat (first | assumption | apply ok_cond | apply ok_pick | apply ok_next | exact okC0)) (by omega)
       ·simp
      ·refine ⟨Z, S, K, price2, (([0, (-1), 1000000, 1000001]).getD (pickV code (pickC code c2 40) (([0, (-1), 1000000, 1000001]).length : Int)).toNat 0), ?_⟩
       refine ⟨?_, rfl, rfl, rfl, rfl⟩
       ·trivial
     ·intro b6
      try simp only [nrmT] at b6
      refine ⟨?_, ?_⟩
      ·intro b7
       try simp only [nrmT] at b7
       refine ⟨rfl, rfl, ?_, ?_⟩
       ·omega
       ·refine ⟨Z, S, K, (price2 ++ [0]), scale, ?_⟩
        refine ⟨?_, rfl, ?_, rfl, rfl⟩
        ·trivial
        ·(simp_all; done)
      ·intro b8
       try simp only [nrmT] at b8
       refine ⟨?_, ?_⟩
       ·intro b9
        try simp only [nrmT] at b9
        refine ⟨?_, ?_⟩
        ·intro b10
         try simp only [nrmT] at b10
         refine ⟨rfl, ?_, ?_, ?_, ?_, ?_⟩
         ·refine s_l1Cur_among_pk code (pickC code c2 40) ([(-1), 1000000, 1000001]) ?_ ?_ ?_
          ·exact hb
          ·exact okC_le (by repeat (first | assumption | apply ok_cond | apply ok_pick | apply ok_next | exact okC0)) (by omega)
          ·simp
         ·omega
         ·omega
         ·omega
         ·refine ⟨Z, S, K, (price2.set 0 (([(-1), 1000000, 1000001]).getD (pickV code (pickC code c2 40) (([(-1), 1000000, 1000001]).length : Int)).toNat 0)), scale, ?_⟩
          refine ⟨?_, rfl, ?_, rfl, rfl⟩
          ·trivial
          ·(simp_all; done)
        ·intro b11
         try simp only [nrmT] at b11
         refine ⟨Z, S, K, price2, scale, ?_⟩
         refine ⟨?_, rfl, rfl, rfl, rfl⟩
         ·trivial
       ·intro b12
        try simp only [nrmT] at b12
        refine ⟨Z, S, K, price2, scale, ?_⟩
        refine ⟨?_, rfl, rfl, rfl, rfl⟩
        ·trivial
theorem s_DrawArePrices_pe (code : List Nat) (hb : ∀ x9 ∈ code, x9 < 256) : PE Try.prog 84 [.sl (.bytes code)] (s_DrawArePrices_X code) :=
  pe_wf @Try.call84 fun hw => pe_by (by kernel_rfl) Try.func84 @Try.call84 (by kernel_rfl) s_DrawArePrices_C (s_DrawArePrices_A code) (by kernel_rfl) (s_DrawArePrices_vc code hb hw.1) (by kernel_rfl)
def s_DrawHarmonicOf_C (f : FuncId) (ds : List D) : Orc := .no
def s_DrawHarmonicOf_A (code : List Nat) : Ann := .two (.none) (.two (.none) (.two (.mark [] [(2, .cell [.int .i64 ((pickC code cur0 (([0, 1, 2, 3, 4, 5, 6, 7, 8, 9, (-1)]).length : Int)).pos), .int .u64 ((pickC code cur0 (([0, 1, 2, 3, 4, 5, 6, 7, 8, 9, (-1)]).length : Int)).seed)] (.one (.d (.int .i64 (([0, 1, 2, 3, 4, 5, 6, 7, 8, 9, (-1)]).getD (pickV code cur0 (([0, 1, 2, 3, 4, 5, 6, 7, 8, 9, (-1)]).length : Int)).toNat 0)))))]) (.none)))
def s_DrawHarmonicOf_P (code : List Nat) : Prop :=
  ((11 : Nat) = 11) ∧ (PK Try.prog 106 98 (.sl (.bytes code)) [.int .i64 0, .int .u64 0] [.int .i64 ((pickC code cur0 (([0, 1, 2, 3, 4, 5, 6, 7, 8, 9, (-1)]).length : Int)).pos), .int .u64 ((pickC code cur0 (([0, 1, 2, 3, 4, 5, 6, 7, 8, 9, (-1)]).length : Int)).seed)] [.sl (.ints ([0, 1, 2, 3, 4, 5, 6, 7, 8, 9, (-1)]))] (.one (.d (.int .i64 (([0, 1, 2, 3, 4, 5, 6, 7, 8, 9, (-1)]).getD (pickV code cur0 (([0, 1, 2, 3, 4, 5, 6, 7, 8, 9, (-1)]).length : Int)).toNat 0))))) ∧ (((([0, 1, 2, 3, 4, 5, 6, 7, 8, 9, (-1)]).getD (pickV code cur0 (([0, 1, 2, 3, 4, 5, 6, 7, 8, 9, (-1)]).length : Int)).toNat 0) = (([0, 1, 2, 3, 4, 5, 6, 7, 8, 9, -1] : List Int).getD (pickV code cur0 11).toNat 0)))
theorem s_DrawHarmonicOf_vc (code : List Nat) (hb : ∀ x9 ∈ code, x9 < 256) (w_code : (code.length : Int) ≤ 9223372036854775807) : s_DrawHarmonicOf_P code := by
  unfold s_DrawHarmonicOf_P
  refine ⟨rfl, ?_, ?_⟩
  ·refine s_l1Cur_among_pk code cur0 ([0, 1, 2, 3, 4, 5, 6, 7, 8, 9, (-1)]) ?_ ?_ ?_
   ·exact hb
   ·exact okC_le (by repeat (first | assumption | apply ok_cond | apply ok_pick | apply ok_next | exact okC0)) (by omega)
   ·simp
  ·rfl
theorem s_DrawHarmonicOf_pc (code : List Nat) (hb : ∀ x9 ∈ code, x9 < 256) : PC Try.prog 90 [.sl (.bytes code)] (.one (.d (.int .i64 (([0, 1, 2, 3, 4, 5, 6, 7, 8, 9, -1] : List Int).getD (pickV code cur0 11).toNat 0)))) :=
  pc_wf @Try.call90 fun hw => pc_by (by kernel_rfl) Try.func90 @Try.call90 (by kernel_rfl) s_DrawHarmonicOf_C (s_DrawHarmonicOf_A code) (by kernel_rfl) (s_DrawHarmonicOf_vc code hb hw.1) (by kernel_rfl)
def s_DrawHarmonicOf_orc : List D → Orc := orcN [some .bytes] fun ds => match ds with
  | [.sl (.bytes code)] => some (.one (.d (.int .i64 (([0, 1, 2, 3, 4, 5, 6, 7, 8, 9, -1] : List Int).getD (pickV code cur0 11).toNat 0))))
  | _ => none
theorem cp_facts {Size : Int} {Sets : List (List Int)} {Costs : List Int} (hk : lcOk Size Sets Costs = true) :
    goodSys Size Sets Costs = true ∧ rising (lcL Size Sets Costs) 0 ((Sets.length : Int) - 1) = true ∧ rising (raiseC Size Sets Costs) 0 ((Sets.length : Int) - 1) = true ∧ coverB Size Sets (raiseC Size Sets Costs) = true ∧
    lsum (fun y => y) (raiseP Size Sets Costs) ≤ costOf Costs (lcL Size Sets Costs) ∧ costOf Costs (raiseC Size Sets Costs) ≤ oftenTo Sets Size.toNat * lsum (fun y => y) (raiseP Size Sets Costs) ∧
    (0 ≤ lsum (fun y => y) (raiseP Size Sets Costs) ∧ lsum (fun y => y) (raiseP Size Sets Costs) ≤ 8000000) ∧ (0 ≤ costOf Costs (lcL Size Sets Costs) ∧ costOf Costs (lcL Size Sets Costs) ≤ 792) ∧
    ∀ (ps : List Int) (sc : Int), rowOk ps Size 1000000 = true → fair Sets Costs ps sc = true → lsum (fun y => y) ps ≤ sc * costOf Costs (lcL Size Sets Costs) := by
  obtain ⟨g1, g2, g3, g4, g5, g6, g7, g8, g9, g10, g11⟩ := cv_facts hk
  have gf := gs_facts g1
  have ha : coverB Size Sets (allN Sets.length) = true := by unfold lcOk at hk; rw [Bool.and_eq_true] at hk; exact hk.2
  obtain ⟨f1, f2, f3, f4, f5, f6⟩ := raise_facts g1
  have hin : InR Sets (lcL Size Sets Costs) := fun y hy => by have := rising_mem g2 y hy; omega
  have hub := lsum_upto (raise_in Size Sets Costs)
  have h1 := fair_le g1 f5 f1 hin g3
  refine ⟨g1, g2, f4, f2 ha, by omega, ?_, by omega, cost_small g1 g2, fun ps sc hp hf => fair_le g1 hp hf hin g3⟩
  rw [f3]
  have e : lsum (fun y => y) (raiseP Size Sets Costs) = sumTo (fun x => (raiseP Size Sets Costs).getD x 0) Size.toNat := by rw [← sumTo_lsum, f6]
  have e2 : raiseC Size Sets Costs = members (tightAt Size Sets Costs) Sets.length := by unfold raiseC; rw [if_pos g1]
  have hd := dear_le g1 (f := fun y => (raiseP Size Sets Costs).getD y.toNat 0) (t := tightAt Size Sets Costs) (fun x hx => by
    rw [Int.toNat_natCast]
    exact (raise_in Size Sets Costs _ (getD_mem (d := 0) (by omega))).1)
  simp only [Int.toNat_natCast] at hd
  rw [e, e2]
  refine Int.le_trans (Int.le_of_eq (lsum_congr fun i _ => priced_lsum _ _)) hd
abbrev l_FnCoverPrices_JJ0 (code : List Nat) (ps : List Int) (sc : Int) (Z : Int) (S : List (List Int)) (K : List Int) (often : Int) (x : Int) : Prop := (lcOk Z S K = true) ∧ (0 ≤ x) ∧ (x ≤ Z) ∧ (often = oftenTo S x.toNat)
abbrev l_FnCoverPrices_mJ0 (code : List Nat) (ps : List Int) (sc : Int) (Z : Int) (S : List (List Int)) (K : List Int) (often : Int) (x : Int) : Nat := (Z - x).toNat
abbrev l_FnCoverPrices_JA0 (code : List Nat) (ps : List Int) (sc : Int) (Z : Int) (S : List (List Int)) (K : List Int) (often : Int) : Prop := (lcOk Z S K = true) ∧ (often = oftenTo S Z.toNat)
abbrev l_FnCoverPrices_JJ1 (code : List Nat) (ps : List Int) (sc : Int) (Z : Int) (S : List (List Int)) (K : List Int) (often : Int) (x : Int) (count : Int) (i : Int) : Prop := (0 ≤ i) ∧ (i ≤ (S.length : Int)) ∧ (count = inTo S x i.toNat)
abbrev l_FnCoverPrices_mJ1 (code : List Nat) (ps : List Int) (sc : Int) (Z : Int) (S : List (List Int)) (K : List Int) (often : Int) (x : Int) (count : Int) (i : Int) : Nat := (S.length - i).toNat
abbrev l_FnCoverPrices_JR3 (code : List Nat) (ps : List Int) (sc : Int) (Z : Int) (S : List (List Int)) (K : List Int) : Prop := True
def l_FnCoverPrices_C (f : FuncId) (ds : List D) : Orc := bif Nat.beq f 14 then l_rBig_orc ds else bif Nat.beq f 85 then i_ArePrices_orc ds else bif Nat.beq f 86 then s_ArePrices_orc ds else bif Nat.beq f 87 then i_RaisePrices_orc ds else bif Nat.beq f 88 then s_RaisePrices_orc ds else bif Nat.beq f 18 then l_rInts_orc ds else bif Nat.beq f 82 then i_LeastCover_orc ds else bif Nat.beq f 89 then s_LeastCover_orc ds else bif Nat.beq f 90 then s_DrawHarmonicOf_orc ds else bif Nat.beq f 91 then i_HarmonicOf_orc ds else bif Nat.beq f 92 then s_HarmonicOf_orc ds else bif Nat.beq f 93 then i_CostOf_orc ds else bif Nat.beq f 94 then i_IsCover_orc ds else bif Nat.beq f 83 then l_rHas_orc ds else bif Nat.beq f 95 then l_rSum_orc ds else .no
def l_FnCoverPrices_A (code : List Nat) : Ann := .two (.none) (.two (.none) (.cut (.exr (.ex [] 1 (s_DrawArePrices_X code) (fun g => (fun (Zr3 : Int) (Sr3 : List (List Int)) (Kr3 : List Int) (psr3 : List Int) (scr3 : Int) => .ms [] []) (g.1) (g.2.1) (g.2.2.1) (g.2.2.2.1) (g.2.2.2.2)))) (cut5 (fun (ps : List Int) (sc : Int) (Z : Int) (S : List (List Int)) (K : List Int) => l_FnCoverPrices_JR3 code ps sc Z S K) (fun (ps : List Int) (sc : Int) (Z : Int) (S : List (List Int)) (K : List Int) => [(0, .d false (.sl (.bytes code))), (3, .ptr 3 0), (4, .d true (.sl (.ints ps))), (5, .d true (.int .i64 sc))]) (fun (ps : List Int) (sc : Int) (Z : Int) (S : List (List Int)) (K : List Int) => [(3, .box 36 [.d true (.int .i64 Z), .d true (.sl (.rows S)), .d true (.sl (.ints K))])])) (fun g => (fun (ps : List Int) (sc : Int) (Z : Int) (S : List (List Int)) (K : List Int) => .two (.none) (.two (.none) (.two (.none) (.two (.none) (.two (.none) (.two (.none) (.two (.none) (.two (.none) (.two (.none) (.two (.none) (.two (.none) (.two (.none) (.two (.none) (.two (.none) (.two (.none) (.two (.none) (.two (.none) (.cut (.two (.none) (.loop (cut2 (fun (often : Int) (x : Int) => l_FnCoverPrices_JJ0 code ps sc Z S K often x) (fun (often : Int) (x : Int) => [(3, .ptr 3 0), (4, .d true (.sl (.ints ps))), (5, .d true (.int .i64 sc)), (6, .d true (.bool ((goodSys Z S K && rowOk ps Z 1000000 && inB sc 1 1000000) && fair S K ps sc))), (7, .d true (.bool (goodSys Z S K && rowOk ps Z 1000000 && inB sc 1 1000000))), (10, .own 69 ((raiseP Z S K).length)), (27, .d true (.int .i64 (if goodSys Z S K && rising (lcL Z S K) 0 ((S.length : Int) - 1) then costOf K (lcL Z S K) else 0))), (28, .d true (.bool (goodSys Z S K && rising (lcL Z S K) 0 ((S.length : Int) - 1)))), (29, .d true (.int .i64 (if goodSys Z S K && rising (raiseC Z S K) 0 ((S.length : Int) - 1) then costOf K (raiseC Z S K) else 0))), (30, .d true (.bool (goodSys Z S K && rising (raiseC Z S K) 0 ((S.length : Int) - 1)))), (31, .d true (.bool ((goodSys Z S K && rising (raiseC Z S K) 0 ((S.length : Int) - 1)) && coverB Z S (raiseC Z S K)))), (32, .d true (.bool (goodSys Z S K && rising (raiseC Z S K) 0 ((S.length : Int) - 1)))), (33, .d true (.int .i64 often)), (34, .d true (.int .i64 x))]) (fun (often : Int) (x : Int) => [(3, .box 36 [.d true (.int .i64 Z), .d true (.sl (.rows S)), .d true (.sl (.ints K))]), (69, .arr true 3 (.ints (raiseP Z S K)))])) (fun g => l_FnCoverPrices_mJ0 code ps sc Z S K g.1 g.2) (fun g => (fun (often : Int) (x : Int) => .two (.none) (.two (.two (.none) (.two (.two (.none) (.loop (cut2 (fun (count : Int) (i : Int) => l_FnCoverPrices_JJ1 code ps sc Z S K often x count i) (fun (count : Int) (i : Int) => [(3, .ptr 3 0), (4, .d true (.sl (.ints ps))), (5, .d true (.int .i64 sc)), (6, .d true (.bool ((goodSys Z S K && rowOk ps Z 1000000 && inB sc 1 1000000) && fair S K ps sc))), (7, .d true (.bool (goodSys Z S K && rowOk ps Z 1000000 && inB sc 1 1000000))), (10, .own 69 ((raiseP Z S K).length)), (27, .d true (.int .i64 (if goodSys Z S K && rising (lcL Z S K) 0 ((S.length : Int) - 1) then costOf K (lcL Z S K) else 0))), (28, .d true (.bool (goodSys Z S K && rising (lcL Z S K) 0 ((S.length : Int) - 1)))), (29, .d true (.int .i64 (if goodSys Z S K && rising (raiseC Z S K) 0 ((S.length : Int) - 1) then costOf K (raiseC Z S K) else 0))), (30, .d true (.bool (goodSys Z S K && rising (raiseC Z S K) 0 ((S.length : Int) - 1)))), (31, .d true (.bool ((goodSys Z S K && rising (raiseC Z S K) 0 ((S.length : Int) - 1)) && coverB Z S (raiseC Z S K)))), (32, .d true (.bool (goodSys Z S K && rising (raiseC Z S K) 0 ((S.length : Int) - 1)))), (33, .d true (.int .i64 often)), (34, .d true (.int .i64 x)), (35, .d true (.int .i64 count)), (36, .d true (.int .i64 i))]) (fun (count : Int) (i : Int) => [(3, .box 36 [.d true (.int .i64 Z), .d true (.sl (.rows S)), .d true (.sl (.ints K))]), (69, .arr true 3 (.ints (raiseP Z S K)))])) (fun g => l_FnCoverPrices_mJ1 code ps sc Z S K often x g.1 g.2) (fun _ => .none))) (.none))) (.none))) (g.1) (g.2)))) (cut1 (fun (often : Int) => l_FnCoverPrices_JA0 code ps sc Z S K often) (fun (often : Int) => [(4, .d true (.sl (.ints ps))), (5, .d true (.int .i64 sc)), (6, .d true (.bool ((goodSys Z S K && rowOk ps Z 1000000 && inB sc 1 1000000) && fair S K ps sc))), (7, .d true (.bool (goodSys Z S K && rowOk ps Z 1000000 && inB sc 1 1000000))), (10, .own 69 ((raiseP Z S K).length)), (27, .d true (.int .i64 (if goodSys Z S K && rising (lcL Z S K) 0 ((S.length : Int) - 1) then costOf K (lcL Z S K) else 0))), (28, .d true (.bool (goodSys Z S K && rising (lcL Z S K) 0 ((S.length : Int) - 1)))), (29, .d true (.int .i64 (if goodSys Z S K && rising (raiseC Z S K) 0 ((S.length : Int) - 1) then costOf K (raiseC Z S K) else 0))), (30, .d true (.bool (goodSys Z S K && rising (raiseC Z S K) 0 ((S.length : Int) - 1)))), (31, .d true (.bool ((goodSys Z S K && rising (raiseC Z S K) 0 ((S.length : Int) - 1)) && coverB Z S (raiseC Z S K)))), (32, .d true (.bool (goodSys Z S K && rising (raiseC Z S K) 0 ((S.length : Int) - 1)))), (33, .d true (.int .i64 often))]) (fun (often : Int) => [(69, .arr true 3 (.ints (raiseP Z S K)))])) (fun _ => .none))))))))))))))))))) (g.1) (g.2.1) (g.2.2.1) (g.2.2.2.1) (g.2.2.2.2))))
def l_FnCoverPrices_e3 (ps : List Int) (sc : Int) (Z : Int) (S : List (List Int)) (K : List Int) : Bool := (cond (!(goodSys Z S K && rowOk ps Z 1000000 && inB sc 1 1000000)) true (!((goodSys Z S K && rowOk ps Z 1000000 && inB sc 1 1000000) && fair S K ps sc)))
def l_FnCoverPrices_e4 (Z : Int) (S : List (List Int)) (K : List Int) : Bool := (cond (!(goodSys Z S K && rising (lcL Z S K) 0 ((S.length : Int) - 1))) true (!(goodSys Z S K && rising (raiseC Z S K) 0 ((S.length : Int) - 1))))
def l_FnCoverPrices_e5 (Z : Int) (S : List (List Int)) (K : List Int) : Bool := (cond ((goodSys Z S K) != (goodSys Z S K)) true (!((raiseP Z S K) == (raiseP Z S K))))
def l_FnCoverPrices_e6 (code : List Nat) : Bool := (cond ((harm (([0, 1, 2, 3, 4, 5, 6, 7, 8, 9, -1] : List Int).getD (pickV code cur0 11).toNat 0)) != (harm (([0, 1, 2, 3, 4, 5, 6, 7, 8, 9, -1] : List Int).getD (pickV code cur0 11).toNat 0))) true ((decide (0 ≤ (([0, 1, 2, 3, 4, 5, 6, 7, 8, 9, -1] : List Int).getD (pickV code cur0 11).toNat 0) ∧ (([0, 1, 2, 3, 4, 5, 6, 7, 8, 9, -1] : List Int).getD (pickV code cur0 11).toNat 0) ≤ 8)) != (decide (0 ≤ (([0, 1, 2, 3, 4, 5, 6, 7, 8, 9, -1] : List Int).getD (pickV code cur0 11).toNat 0) ∧ (([0, 1, 2, 3, 4, 5, 6, 7, 8, 9, -1] : List Int).getD (pickV code cur0 11).toNat 0) ≤ 8))))
def l_FnCoverPrices_e7 (Z : Int) (S : List (List Int)) (K : List Int) : Bool := (cond (l_FnCoverPrices_e4 Z S K) true (!(goodSys Z S K && rising (raiseC Z S K) 0 ((S.length : Int) - 1))))
def l_FnCoverPrices_e1 (Z : Int) (S : List (List Int)) (K : List Int) : Bool := (cond (l_FnCoverPrices_e7 Z S K) true (!((goodSys Z S K && rising (raiseC Z S K) 0 ((S.length : Int) - 1)) && coverB Z S (raiseC Z S K))))
def l_FnCoverPrices_e2 (Z : Int) (S : List (List Int)) (K : List Int) : Bool := (cond (l_FnCoverPrices_e1 Z S K) true (decide ((lsum (fun y => y) (raiseP Z S K)) > (if goodSys Z S K && rising (lcL Z S K) 0 ((S.length : Int) - 1) then costOf K (lcL Z S K) else 0))))
def l_FnCoverPrices_e8 (ps : List Int) (sc : Int) (Z : Int) (S : List (List Int)) (K : List Int) : Bool := (cond (((goodSys Z S K && rowOk ps Z 1000000 && inB sc 1 1000000) && fair S K ps sc) != ((goodSys Z S K && rowOk ps Z 1000000 && inB sc 1 1000000) && fair S K ps sc)) true ((goodSys Z S K && rowOk ps Z 1000000 && inB sc 1 1000000) != (goodSys Z S K && rowOk ps Z 1000000 && inB sc 1 1000000)))
def l_FnCoverPrices_e9 (Z : Int) (S : List (List Int)) (K : List Int) (often : Int) : Bool := (cond (l_FnCoverPrices_e2 Z S K) true (decide ((if goodSys Z S K && rising (raiseC Z S K) 0 ((S.length : Int) - 1) then costOf K (raiseC Z S K) else 0) > (often * (lsum (fun y => y) (raiseP Z S K))))))
def l_FnCoverPrices_e10 (Z : Int) (S : List (List Int)) (K : List Int) : Bool := (cond (!(goodSys Z S K && rowOk (raiseP Z S K) Z 1000000 && inB 1 1 1000000)) true (!((goodSys Z S K && rowOk (raiseP Z S K) Z 1000000 && inB 1 1 1000000) && fair S K (raiseP Z S K) 1)))
set_option maxRecDepth 100000 in
def l_FnCoverPrices_P (code : List Nat) : Prop :=
  (PC Try.prog 14 [.sl (.bytes code)] (.one (.d (.bool (decide ((code.length : Int) > 65536)))))) ∧ (((decide ((code.length : Int) > 65536)) = true → ((true = true))) ∧ ((decide ((code.length : Int) > 65536)) = false → (((PE Try.prog 84 [.sl (.bytes code)] (s_DrawArePrices_X code)) ∧ (∀ Zr3 : Int, ∀ Sr3 : List (List Int), ∀ Kr3 : List Int, ∀ psr3 : List Int, ∀ scr3 : Int, s_DrawArePrices_Q code Zr3 Sr3 Kr3 psr3 scr3 → ((true = true) ∧ (∃ ps' : List Int, ∃ sc' : Int, ∃ Z' : Int, ∃ S' : List (List Int), ∃ K' : List Int, (l_FnCoverPrices_JR3 code ps' sc' Z' S' K') ∧ (code = code) ∧ (psr3 = ps') ∧ (scr3 = sc') ∧ (Zr3 = Z') ∧ (Sr3 = S') ∧ (Kr3 = K'))))) ∧ (∀ ps : List Int, ∀ sc : Int, ∀ Z : Int, ∀ S : List (List Int), ∀ K : List Int, (l_FnCoverPrices_JR3 code ps sc Z S K) → (PC Try.prog 85 [.agg [.int .i64 Z, .sl (.rows S), .sl (.ints K)], .sl (.ints ps), .int .i64 sc] (.tup [.d (.bool ((goodSys Z S K && rowOk ps Z 1000000 && inB sc 1 1000000) && fair S K ps sc)), .d (.bool (goodSys Z S K && rowOk ps Z 1000000 && inB sc 1 1000000))])) ∧ (PC Try.prog 86 [.agg [.int .i64 Z, .sl (.rows S), .sl (.ints K)], .sl (.ints ps), .int .i64 sc] (.tup [.d (.bool ((goodSys Z S K && rowOk ps Z 1000000 && inB sc 1 1000000) && fair S K ps sc)), .d (.bool (goodSys Z S K && rowOk ps Z 1000000 && inB sc 1 1000000))])) ∧ ((!(((goodSys Z S K && rowOk ps Z 1000000 && inB sc 1 1000000) && fair S K ps sc) != ((goodSys Z S K && rowOk ps Z 1000000 && inB sc 1 1000000) && fair S K ps sc))) = true → (!(((goodSys Z S K && rowOk ps Z 1000000 && inB sc 1 1000000) && fair S K ps sc) != ((goodSys Z S K && rowOk ps Z 1000000 && inB sc 1 1000000) && fair S K ps sc))) = true) ∧ ((!(((goodSys Z S K && rowOk ps Z 1000000 && inB sc 1 1000000) && fair S K ps sc) != ((goodSys Z S K && rowOk ps Z 1000000 && inB sc 1 1000000) && fair S K ps sc))) = true → (!(((goodSys Z S K && rowOk ps Z 1000000 && inB sc 1 1000000) && fair S K ps sc) != ((goodSys Z S K && rowOk ps Z 1000000 && inB sc 1 1000000) && fair S K ps sc))) = true) ∧ (true = true) ∧ (((((goodSys Z S K && rowOk ps Z 1000000 && inB sc 1 1000000) && fair S K ps sc) != ((goodSys Z S K && rowOk ps Z 1000000 && inB sc 1 1000000) && fair S K ps sc)) = true → true = true)) ∧ (((((goodSys Z S K && rowOk ps Z 1000000 && inB sc 1 1000000) && fair S K ps sc) != ((goodSys Z S K && rowOk ps Z 1000000 && inB sc 1 1000000) && fair S K ps sc)) = false → (!(((goodSys Z S K && rowOk ps Z 1000000 && inB sc 1 1000000) && fair S K ps sc) != ((goodSys Z S K && rowOk ps Z 1000000 && inB sc 1 1000000) && fair S K ps sc))) = true)) ∧ (((l_FnCoverPrices_e8 ps sc Z S K) = true → ((false = true))) ∧ ((l_FnCoverPrices_e8 ps sc Z S K) = false → (PC Try.prog 87 [.agg [.int .i64 Z, .sl (.rows S), .sl (.ints K)]] (.tup [.own 3 (.ints (raiseP Z S K)), .own 3 (.ints (raiseC Z S K)), .d (.bool (goodSys Z S K))])) ∧ (PC Try.prog 88 [.agg [.int .i64 Z, .sl (.rows S), .sl (.ints K)]] (.tup [.d (.sl (.ints (raiseP Z S K))), .d (.sl (.ints (raiseC Z S K))), .d (.bool (goodSys Z S K))])) ∧ ((!((goodSys Z S K) != (goodSys Z S K))) = true → (!((goodSys Z S K) != (goodSys Z S K))) = true) ∧ ((!((goodSys Z S K) != (goodSys Z S K))) = true → (!((goodSys Z S K) != (goodSys Z S K))) = true) ∧ (((!((goodSys Z S K) != (goodSys Z S K))) = true → (raiseP Z S K).length = (raiseP Z S K).length)) ∧ ((!((goodSys Z S K) != (goodSys Z S K))) = true → PC Try.prog 18 [.sl (.ints (raiseP Z S K)), .sl (.ints (raiseP Z S K))] (.one (.d (.bool ((raiseP Z S K) == (raiseP Z S K)))))) ∧ ((!((goodSys Z S K) != (goodSys Z S K))) = true → (!((goodSys Z S K) != (goodSys Z S K))) = true) ∧ (true = true) ∧ ((((goodSys Z S K) != (goodSys Z S K)) = true → true = true)) ∧ ((((goodSys Z S K) != (goodSys Z S K)) = false → (!((goodSys Z S K) != (goodSys Z S K))) = true)) ∧ ((!(l_FnCoverPrices_e5 Z S K)) = true → (!(l_FnCoverPrices_e5 Z S K)) = true) ∧ ((!(l_FnCoverPrices_e5 Z S K)) = true → (!(l_FnCoverPrices_e5 Z S K)) = true) ∧ (((!(l_FnCoverPrices_e5 Z S K)) = true → (raiseC Z S K).length = (raiseC Z S K).length)) ∧ ((!(l_FnCoverPrices_e5 Z S K)) = true → PC Try.prog 18 [.sl (.ints (raiseC Z S K)), .sl (.ints (raiseC Z S K))] (.one (.d (.bool ((raiseC Z S K) == (raiseC Z S K)))))) ∧ ((!(l_FnCoverPrices_e5 Z S K)) = true → (!(l_FnCoverPrices_e5 Z S K)) = true) ∧ (true = true) ∧ (((l_FnCoverPrices_e5 Z S K) = true → true = true)) ∧ (((l_FnCoverPrices_e5 Z S K) = false → (!(l_FnCoverPrices_e5 Z S K)) = true)) ∧ (((cond (l_FnCoverPrices_e5 Z S K) true (!((raiseC Z S K) == (raiseC Z S K)))) = true → ((false = true))) ∧ ((cond (l_FnCoverPrices_e5 Z S K) true (!((raiseC Z S K) == (raiseC Z S K)))) = false → (PC Try.prog 82 [.agg [.int .i64 Z, .sl (.rows S), .sl (.ints K)]] (.tup [.d (.sl (.ints (lcL Z S K))), .d (.bool (lcOk Z S K))])) ∧ (PC Try.prog 89 [.agg [.int .i64 Z, .sl (.rows S), .sl (.ints K)]] (.tup [.d (.sl (.ints (lcL Z S K))), .d (.bool (lcOk Z S K))])) ∧ ((!((lcOk Z S K) != (lcOk Z S K))) = true → (!((lcOk Z S K) != (lcOk Z S K))) = true) ∧ ((!((lcOk Z S K) != (lcOk Z S K))) = true → (!((lcOk Z S K) != (lcOk Z S K))) = true) ∧ ((!((lcOk Z S K) != (lcOk Z S K))) = true → PC Try.prog 18 [.sl (.ints (lcL Z S K)), .sl (.ints (lcL Z S K))] (.one (.d (.bool ((lcL Z S K) == (lcL Z S K)))))) ∧ ((!((lcOk Z S K) != (lcOk Z S K))) = true → (!((lcOk Z S K) != (lcOk Z S K))) = true) ∧ (true = true) ∧ ((((lcOk Z S K) != (lcOk Z S K)) = true → true = true)) ∧ ((((lcOk Z S K) != (lcOk Z S K)) = false → (!((lcOk Z S K) != (lcOk Z S K))) = true)) ∧ (((cond ((lcOk Z S K) != (lcOk Z S K)) true (!((lcL Z S K) == (lcL Z S K)))) = true → ((false = true))) ∧ ((cond ((lcOk Z S K) != (lcOk Z S K)) true (!((lcL Z S K) == (lcL Z S K)))) = false → (PC Try.prog 90 [.sl (.bytes code)] (.one (.d (.int .i64 (([0, 1, 2, 3, 4, 5, 6, 7, 8, 9, -1] : List Int).getD (pickV code cur0 11).toNat 0))))) ∧ (PC Try.prog 91 [.int .i64 (([0, 1, 2, 3, 4, 5, 6, 7, 8, 9, -1] : List Int).getD (pickV code cur0 11).toNat 0)] (.tup [.d (.int .i64 (harm (([0, 1, 2, 3, 4, 5, 6, 7, 8, 9, -1] : List Int).getD (pickV code cur0 11).toNat 0))), .d (.bool (decide (0 ≤ (([0, 1, 2, 3, 4, 5, 6, 7, 8, 9, -1] : List Int).getD (pickV code cur0 11).toNat 0) ∧ (([0, 1, 2, 3, 4, 5, 6, 7, 8, 9, -1] : List Int).getD (pickV code cur0 11).toNat 0) ≤ 8)))])) ∧ (PC Try.prog 92 [.int .i64 (([0, 1, 2, 3, 4, 5, 6, 7, 8, 9, -1] : List Int).getD (pickV code cur0 11).toNat 0)] (.tup [.d (.int .i64 (harm (([0, 1, 2, 3, 4, 5, 6, 7, 8, 9, -1] : List Int).getD (pickV code cur0 11).toNat 0))), .d (.bool (decide (0 ≤ (([0, 1, 2, 3, 4, 5, 6, 7, 8, 9, -1] : List Int).getD (pickV code cur0 11).toNat 0) ∧ (([0, 1, 2, 3, 4, 5, 6, 7, 8, 9, -1] : List Int).getD (pickV code cur0 11).toNat 0) ≤ 8)))])) ∧ ((!((harm (([0, 1, 2, 3, 4, 5, 6, 7, 8, 9, -1] : List Int).getD (pickV code cur0 11).toNat 0)) != (harm (([0, 1, 2, 3, 4, 5, 6, 7, 8, 9, -1] : List Int).getD (pickV code cur0 11).toNat 0)))) = true → (!((harm (([0, 1, 2, 3, 4, 5, 6, 7, 8, 9, -1] : List Int).getD (pickV code cur0 11).toNat 0)) != (harm (([0, 1, 2, 3, 4, 5, 6, 7, 8, 9, -1] : List Int).getD (pickV code cur0 11).toNat 0)))) = true) ∧ ((!((harm (([0, 1, 2, 3, 4, 5, 6, 7, 8, 9, -1] : List Int).getD (pickV code cur0 11).toNat 0)) != (harm (([0, 1, 2, 3, 4, 5, 6, 7, 8, 9, -1] : List Int).getD (pickV code cur0 11).toNat 0)))) = true → (!((harm (([0, 1, 2, 3, 4, 5, 6, 7, 8, 9, -1] : List Int).getD (pickV code cur0 11).toNat 0)) != (harm (([0, 1, 2, 3, 4, 5, 6, 7, 8, 9, -1] : List Int).getD (pickV code cur0 11).toNat 0)))) = true) ∧ (true = true) ∧ ((((harm (([0, 1, 2, 3, 4, 5, 6, 7, 8, 9, -1] : List Int).getD (pickV code cur0 11).toNat 0)) != (harm (([0, 1, 2, 3, 4, 5, 6, 7, 8, 9, -1] : List Int).getD (pickV code cur0 11).toNat 0))) = true → true = true)) ∧ ((((harm (([0, 1, 2, 3, 4, 5, 6, 7, 8, 9, -1] : List Int).getD (pickV code cur0 11).toNat 0)) != (harm (([0, 1, 2, 3, 4, 5, 6, 7, 8, 9, -1] : List Int).getD (pickV code cur0 11).toNat 0))) = false → (!((harm (([0, 1, 2, 3, 4, 5, 6, 7, 8, 9, -1] : List Int).getD (pickV code cur0 11).toNat 0)) != (harm (([0, 1, 2, 3, 4, 5, 6, 7, 8, 9, -1] : List Int).getD (pickV code cur0 11).toNat 0)))) = true)) ∧ (((l_FnCoverPrices_e6 code) = true → ((false = true))) ∧ ((l_FnCoverPrices_e6 code) = false → (((!(goodSys Z S K)) = true → (((!(lcOk Z S K)) = true))) ∧ ((!(goodSys Z S K)) = false → ((raiseP Z S K).length = (raiseP Z S K).length) ∧ (PC Try.prog 85 [.agg [.int .i64 Z, .sl (.rows S), .sl (.ints K)], .sl (.ints (raiseP Z S K)), .int .i64 1] (.tup [.d (.bool ((goodSys Z S K && rowOk (raiseP Z S K) Z 1000000 && inB 1 1 1000000) && fair S K (raiseP Z S K) 1)), .d (.bool (goodSys Z S K && rowOk (raiseP Z S K) Z 1000000 && inB 1 1 1000000))])) ∧ ((!(!(goodSys Z S K && rowOk (raiseP Z S K) Z 1000000 && inB 1 1 1000000))) = true → (!(!(goodSys Z S K && rowOk (raiseP Z S K) Z 1000000 && inB 1 1 1000000))) = true) ∧ (true = true) ∧ (((!(goodSys Z S K && rowOk (raiseP Z S K) Z 1000000 && inB 1 1 1000000)) = true → true = true)) ∧ (((!(goodSys Z S K && rowOk (raiseP Z S K) Z 1000000 && inB 1 1 1000000)) = false → (!(!(goodSys Z S K && rowOk (raiseP Z S K) Z 1000000 && inB 1 1 1000000))) = true)) ∧ (((l_FnCoverPrices_e10 Z S K) = true → ((false = true))) ∧ ((l_FnCoverPrices_e10 Z S K) = false → (((!(lcOk Z S K)) = true → ((true = true))) ∧ ((!(lcOk Z S K)) = false → (PC Try.prog 93 [.agg [.int .i64 Z, .sl (.rows S), .sl (.ints K)], .sl (.ints (lcL Z S K))] (.tup [.d (.int .i64 (if goodSys Z S K && rising (lcL Z S K) 0 ((S.length : Int) - 1) then costOf K (lcL Z S K) else 0)), .d (.bool (goodSys Z S K && rising (lcL Z S K) 0 ((S.length : Int) - 1)))])) ∧ ((raiseC Z S K).length = (raiseC Z S K).length) ∧ (PC Try.prog 93 [.agg [.int .i64 Z, .sl (.rows S), .sl (.ints K)], .sl (.ints (raiseC Z S K))] (.tup [.d (.int .i64 (if goodSys Z S K && rising (raiseC Z S K) 0 ((S.length : Int) - 1) then costOf K (raiseC Z S K) else 0)), .d (.bool (goodSys Z S K && rising (raiseC Z S K) 0 ((S.length : Int) - 1)))])) ∧ ((raiseC Z S K).length = (raiseC Z S K).length) ∧ (PC Try.prog 94 [.agg [.int .i64 Z, .sl (.rows S), .sl (.ints K)], .sl (.ints (raiseC Z S K))] (.tup [.d (.bool ((goodSys Z S K && rising (raiseC Z S K) 0 ((S.length : Int) - 1)) && coverB Z S (raiseC Z S K))), .d (.bool (goodSys Z S K && rising (raiseC Z S K) 0 ((S.length : Int) - 1)))])) ∧ ((((∃ often' : Int, ∃ x' : Int, (l_FnCoverPrices_JJ0 code ps sc Z S K often' x') ∧ (ps = ps) ∧ (sc = sc) ∧ (((goodSys Z S K && rowOk ps Z 1000000 && inB sc 1 1000000) && fair S K ps sc) = ((goodSys Z S K && rowOk ps Z 1000000 && inB sc 1 1000000) && fair S K ps sc)) ∧ ((goodSys Z S K && rowOk ps Z 1000000 && inB sc 1 1000000) = (goodSys Z S K && rowOk ps Z 1000000 && inB sc 1 1000000)) ∧ ((raiseP Z S K).length = (raiseP Z S K).length) ∧ ((if goodSys Z S K && rising (lcL Z S K) 0 ((S.length : Int) - 1) then costOf K (lcL Z S K) else 0) = (if goodSys Z S K && rising (lcL Z S K) 0 ((S.length : Int) - 1) then costOf K (lcL Z S K) else 0)) ∧ ((goodSys Z S K && rising (lcL Z S K) 0 ((S.length : Int) - 1)) = (goodSys Z S K && rising (lcL Z S K) 0 ((S.length : Int) - 1))) ∧ ((if goodSys Z S K && rising (raiseC Z S K) 0 ((S.length : Int) - 1) then costOf K (raiseC Z S K) else 0) = (if goodSys Z S K && rising (raiseC Z S K) 0 ((S.length : Int) - 1) then costOf K (raiseC Z S K) else 0)) ∧ ((goodSys Z S K && rising (raiseC Z S K) 0 ((S.length : Int) - 1)) = (goodSys Z S K && rising (raiseC Z S K) 0 ((S.length : Int) - 1))) ∧ (((goodSys Z S K && rising (raiseC Z S K) 0 ((S.length : Int) - 1)) && coverB Z S (raiseC Z S K)) = ((goodSys Z S K && rising (raiseC Z S K) 0 ((S.length : Int) - 1)) && coverB Z S (raiseC Z S K))) ∧ ((goodSys Z S K && rising (raiseC Z S K) 0 ((S.length : Int) - 1)) = (goodSys Z S K && rising (raiseC Z S K) 0 ((S.length : Int) - 1))) ∧ ((0 : Int) = often') ∧ ((0 : Int) = x') ∧ (Z = Z) ∧ (S = S) ∧ (K = K) ∧ (raiseP Z S K = raiseP Z S K)) ∧ (∀ often : Int, ∀ x : Int, (l_FnCoverPrices_JJ0 code ps sc Z S K often x) → (((decide (x < Z)) = true → ((∃ count' : Int, ∃ i' : Int, (l_FnCoverPrices_JJ1 code ps sc Z S K often x count' i') ∧ (ps = ps) ∧ (sc = sc) ∧ (((goodSys Z S K && rowOk ps Z 1000000 && inB sc 1 1000000) && fair S K ps sc) = ((goodSys Z S K && rowOk ps Z 1000000 && inB sc 1 1000000) && fair S K ps sc)) ∧ ((goodSys Z S K && rowOk ps Z 1000000 && inB sc 1 1000000) = (goodSys Z S K && rowOk ps Z 1000000 && inB sc 1 1000000)) ∧ ((raiseP Z S K).length = (raiseP Z S K).length) ∧ ((if goodSys Z S K && rising (lcL Z S K) 0 ((S.length : Int) - 1) then costOf K (lcL Z S K) else 0) = (if goodSys Z S K && rising (lcL Z S K) 0 ((S.length : Int) - 1) then costOf K (lcL Z S K) else 0)) ∧ ((goodSys Z S K && rising (lcL Z S K) 0 ((S.length : Int) - 1)) = (goodSys Z S K && rising (lcL Z S K) 0 ((S.length : Int) - 1))) ∧ ((if goodSys Z S K && rising (raiseC Z S K) 0 ((S.length : Int) - 1) then costOf K (raiseC Z S K) else 0) = (if goodSys Z S K && rising (raiseC Z S K) 0 ((S.length : Int) - 1) then costOf K (raiseC Z S K) else 0)) ∧ ((goodSys Z S K && rising (raiseC Z S K) 0 ((S.length : Int) - 1)) = (goodSys Z S K && rising (raiseC Z S K) 0 ((S.length : Int) - 1))) ∧ (((goodSys Z S K && rising (raiseC Z S K) 0 ((S.length : Int) - 1)) && coverB Z S (raiseC Z S K)) = ((goodSys Z S K && rising (raiseC Z S K) 0 ((S.length : Int) - 1)) && coverB Z S (raiseC Z S K))) ∧ ((goodSys Z S K && rising (raiseC Z S K) 0 ((S.length : Int) - 1)) = (goodSys Z S K && rising (raiseC Z S K) 0 ((S.length : Int) - 1))) ∧ (often = often) ∧ (x = x) ∧ ((0 : Int) = count') ∧ ((0 : Int) = i') ∧ (Z = Z) ∧ (S = S) ∧ (K = K) ∧ (raiseP Z S K = raiseP Z S K)) ∧ (∀ count : Int, ∀ i : Int, (l_FnCoverPrices_JJ1 code ps sc Z S K often x count i) → (((decide (i < (S.length : Int))) = true → ((0 : Int) ≤ i) ∧ ((i : Int) < S.length) ∧ (i.toNat < S.length) ∧ (PC Try.prog 83 [.sl (.ints (S.getD i.toNat [])), .int .i64 x] (.one (.d (.bool ((S.getD i.toNat []).contains x))))) ∧ ((((S.getD i.toNat []).contains x) = true → (-9223372036854775808 ≤ (count + 1) ∧ (count + 1) ≤ 9223372036854775807) ∧ (-9223372036854775808 ≤ (i + 1) ∧ (i + 1) ≤ 9223372036854775807) ∧ (∃ count' : Int, ∃ i' : Int, (l_FnCoverPrices_JJ1 code ps sc Z S K often x count' i') ∧ (l_FnCoverPrices_mJ1 code ps sc Z S K often x count' i' < l_FnCoverPrices_mJ1 code ps sc Z S K often x count i) ∧ (ps = ps) ∧ (sc = sc) ∧ (((goodSys Z S K && rowOk ps Z 1000000 && inB sc 1 1000000) && fair S K ps sc) = ((goodSys Z S K && rowOk ps Z 1000000 && inB sc 1 1000000) && fair S K ps sc)) ∧ ((goodSys Z S K && rowOk ps Z 1000000 && inB sc 1 1000000) = (goodSys Z S K && rowOk ps Z 1000000 && inB sc 1 1000000)) ∧ ((raiseP Z S K).length = (raiseP Z S K).length) ∧ ((if goodSys Z S K && rising (lcL Z S K) 0 ((S.length : Int) - 1) then costOf K (lcL Z S K) else 0) = (if goodSys Z S K && rising (lcL Z S K) 0 ((S.length : Int) - 1) then costOf K (lcL Z S K) else 0)) ∧ ((goodSys Z S K && rising (lcL Z S K) 0 ((S.length : Int) - 1)) = (goodSys Z S K && rising (lcL Z S K) 0 ((S.length : Int) - 1))) ∧ ((if goodSys Z S K && rising (raiseC Z S K) 0 ((S.length : Int) - 1) then costOf K (raiseC Z S K) else 0) = (if goodSys Z S K && rising (raiseC Z S K) 0 ((S.length : Int) - 1) then costOf K (raiseC Z S K) else 0)) ∧ ((goodSys Z S K && rising (raiseC Z S K) 0 ((S.length : Int) - 1)) = (goodSys Z S K && rising (raiseC Z S K) 0 ((S.length : Int) - 1))) ∧ (((goodSys Z S K && rising (raiseC Z S K) 0 ((S.length : Int) - 1)) && coverB Z S (raiseC Z S K)) = ((goodSys Z S K && rising (raiseC Z S K) 0 ((S.length : Int) - 1)) && coverB Z S (raiseC Z S K))) ∧ ((goodSys Z S K && rising (raiseC Z S K) 0 ((S.length : Int) - 1)) = (goodSys Z S K && rising (raiseC Z S K) 0 ((S.length : Int) - 1))) ∧ (often = often) ∧ (x = x) ∧ ((count + 1) = count') ∧ ((i + 1) = i') ∧ (Z = Z) ∧ (S = S) ∧ (K = K) ∧ (raiseP Z S K = raiseP Z S K))) ∧ (((S.getD i.toNat []).contains x) = false → (-9223372036854775808 ≤ (i + 1) ∧ (i + 1) ≤ 9223372036854775807) ∧ (∃ count' : Int, ∃ i' : Int, (l_FnCoverPrices_JJ1 code ps sc Z S K often x count' i') ∧ (l_FnCoverPrices_mJ1 code ps sc Z S K often x count' i' < l_FnCoverPrices_mJ1 code ps sc Z S K often x count i) ∧ (ps = ps) ∧ (sc = sc) ∧ (((goodSys Z S K && rowOk ps Z 1000000 && inB sc 1 1000000) && fair S K ps sc) = ((goodSys Z S K && rowOk ps Z 1000000 && inB sc 1 1000000) && fair S K ps sc)) ∧ ((goodSys Z S K && rowOk ps Z 1000000 && inB sc 1 1000000) = (goodSys Z S K && rowOk ps Z 1000000 && inB sc 1 1000000)) ∧ ((raiseP Z S K).length = (raiseP Z S K).length) ∧ ((if goodSys Z S K && rising (lcL Z S K) 0 ((S.length : Int) - 1) then costOf K (lcL Z S K) else 0) = (if goodSys Z S K && rising (lcL Z S K) 0 ((S.length : Int) - 1) then costOf K (lcL Z S K) else 0)) ∧ ((goodSys Z S K && rising (lcL Z S K) 0 ((S.length : Int) - 1)) = (goodSys Z S K && rising (lcL Z S K) 0 ((S.length : Int) - 1))) ∧ ((if goodSys Z S K && rising (raiseC Z S K) 0 ((S.length : Int) - 1) then costOf K (raiseC Z S K) else 0) = (if goodSys Z S K && rising (raiseC Z S K) 0 ((S.length : Int) - 1) then costOf K (raiseC Z S K) else 0)) ∧ ((goodSys Z S K && rising (raiseC Z S K) 0 ((S.length : Int) - 1)) = (goodSys Z S K && rising (raiseC Z S K) 0 ((S.length : Int) - 1))) ∧ (((goodSys Z S K && rising (raiseC Z S K) 0 ((S.length : Int) - 1)) && coverB Z S (raiseC Z S K)) = ((goodSys Z S K && rising (raiseC Z S K) 0 ((S.length : Int) - 1)) && coverB Z S (raiseC Z S K))) ∧ ((goodSys Z S K && rising (raiseC Z S K) 0 ((S.length : Int) - 1)) = (goodSys Z S K && rising (raiseC Z S K) 0 ((S.length : Int) - 1))) ∧ (often = often) ∧ (x = x) ∧ (count = count') ∧ ((i + 1) = i') ∧ (Z = Z) ∧ (S = S) ∧ (K = K) ∧ (raiseP Z S K = raiseP Z S K))))) ∧ ((decide (i < (S.length : Int))) = false → (((decide (count > often)) = true → (-9223372036854775808 ≤ (x + 1) ∧ (x + 1) ≤ 9223372036854775807) ∧ (∃ often' : Int, ∃ x' : Int, (l_FnCoverPrices_JJ0 code ps sc Z S K often' x') ∧ (l_FnCoverPrices_mJ0 code ps sc Z S K often' x' < l_FnCoverPrices_mJ0 code ps sc Z S K often x) ∧ (ps = ps) ∧ (sc = sc) ∧ (((goodSys Z S K && rowOk ps Z 1000000 && inB sc 1 1000000) && fair S K ps sc) = ((goodSys Z S K && rowOk ps Z 1000000 && inB sc 1 1000000) && fair S K ps sc)) ∧ ((goodSys Z S K && rowOk ps Z 1000000 && inB sc 1 1000000) = (goodSys Z S K && rowOk ps Z 1000000 && inB sc 1 1000000)) ∧ ((raiseP Z S K).length = (raiseP Z S K).length) ∧ ((if goodSys Z S K && rising (lcL Z S K) 0 ((S.length : Int) - 1) then costOf K (lcL Z S K) else 0) = (if goodSys Z S K && rising (lcL Z S K) 0 ((S.length : Int) - 1) then costOf K (lcL Z S K) else 0)) ∧ ((goodSys Z S K && rising (lcL Z S K) 0 ((S.length : Int) - 1)) = (goodSys Z S K && rising (lcL Z S K) 0 ((S.length : Int) - 1))) ∧ ((if goodSys Z S K && rising (raiseC Z S K) 0 ((S.length : Int) - 1) then costOf K (raiseC Z S K) else 0) = (if goodSys Z S K && rising (raiseC Z S K) 0 ((S.length : Int) - 1) then costOf K (raiseC Z S K) else 0)) ∧ ((goodSys Z S K && rising (raiseC Z S K) 0 ((S.length : Int) - 1)) = (goodSys Z S K && rising (raiseC Z S K) 0 ((S.length : Int) - 1))) ∧ (((goodSys Z S K && rising (raiseC Z S K) 0 ((S.length : Int) - 1)) && coverB Z S (raiseC Z S K)) = ((goodSys Z S K && rising (raiseC Z S K) 0 ((S.length : Int) - 1)) && coverB Z S (raiseC Z S K))) ∧ ((goodSys Z S K && rising (raiseC Z S K) 0 ((S.length : Int) - 1)) = (goodSys Z S K && rising (raiseC Z S K) 0 ((S.length : Int) - 1))) ∧ (count = often') ∧ ((x + 1) = x') ∧ (Z = Z) ∧ (S = S) ∧ (K = K) ∧ (raiseP Z S K = raiseP Z S K))) ∧ ((decide (count > often)) = false → (-9223372036854775808 ≤ (x + 1) ∧ (x + 1) ≤ 9223372036854775807) ∧ (∃ often' : Int, ∃ x' : Int, (l_FnCoverPrices_JJ0 code ps sc Z S K often' x') ∧ (l_FnCoverPrices_mJ0 code ps sc Z S K often' x' < l_FnCoverPrices_mJ0 code ps sc Z S K often x) ∧ (ps = ps) ∧ (sc = sc) ∧ (((goodSys Z S K && rowOk ps Z 1000000 && inB sc 1 1000000) && fair S K ps sc) = ((goodSys Z S K && rowOk ps Z 1000000 && inB sc 1 1000000) && fair S K ps sc)) ∧ ((goodSys Z S K && rowOk ps Z 1000000 && inB sc 1 1000000) = (goodSys Z S K && rowOk ps Z 1000000 && inB sc 1 1000000)) ∧ ((raiseP Z S K).length = (raiseP Z S K).length) ∧ ((if goodSys Z S K && rising (lcL Z S K) 0 ((S.length : Int) - 1) then costOf K (lcL Z S K) else 0) = (if goodSys Z S K && rising (lcL Z S K) 0 ((S.length : Int) - 1) then costOf K (lcL Z S K) else 0)) ∧ ((goodSys Z S K && rising (lcL Z S K) 0 ((S.length : Int) - 1)) = (goodSys Z S K && rising (lcL Z S K) 0 ((S.length : Int) - 1))) ∧ ((if goodSys Z S K && rising (raiseC Z S K) 0 ((S.length : Int) - 1) then costOf K (raiseC Z S K) else 0) = (if goodSys Z S K && rising (raiseC Z S K) 0 ((S.length : Int) - 1) then costOf K (raiseC Z S K) else 0)) ∧ ((goodSys Z S K && rising (raiseC Z S K) 0 ((S.length : Int) - 1)) = (goodSys Z S K && rising (raiseC Z S K) 0 ((S.length : Int) - 1))) ∧ (((goodSys Z S K && rising (raiseC Z S K) 0 ((S.length : Int) - 1)) && coverB Z S (raiseC Z S K)) = ((goodSys Z S K && rising (raiseC Z S K) 0 ((S.length : Int) - 1)) && coverB Z S (raiseC Z S K))) ∧ ((goodSys Z S K && rising (raiseC Z S K) 0 ((S.length : Int) - 1)) = (goodSys Z S K && rising (raiseC Z S K) 0 ((S.length : Int) - 1))) ∧ (often = often') ∧ ((x + 1) = x') ∧ (Z = Z) ∧ (S = S) ∧ (K = K) ∧ (raiseP Z S K = raiseP Z S K))))))))) ∧ ((decide (x < Z)) = false → (∃ often' : Int, (l_FnCoverPrices_JA0 code ps sc Z S K often') ∧ (ps = ps) ∧ (sc = sc) ∧ (((goodSys Z S K && rowOk ps Z 1000000 && inB sc 1 1000000) && fair S K ps sc) = ((goodSys Z S K && rowOk ps Z 1000000 && inB sc 1 1000000) && fair S K ps sc)) ∧ ((goodSys Z S K && rowOk ps Z 1000000 && inB sc 1 1000000) = (goodSys Z S K && rowOk ps Z 1000000 && inB sc 1 1000000)) ∧ ((raiseP Z S K).length = (raiseP Z S K).length) ∧ ((if goodSys Z S K && rising (lcL Z S K) 0 ((S.length : Int) - 1) then costOf K (lcL Z S K) else 0) = (if goodSys Z S K && rising (lcL Z S K) 0 ((S.length : Int) - 1) then costOf K (lcL Z S K) else 0)) ∧ ((goodSys Z S K && rising (lcL Z S K) 0 ((S.length : Int) - 1)) = (goodSys Z S K && rising (lcL Z S K) 0 ((S.length : Int) - 1))) ∧ ((if goodSys Z S K && rising (raiseC Z S K) 0 ((S.length : Int) - 1) then costOf K (raiseC Z S K) else 0) = (if goodSys Z S K && rising (raiseC Z S K) 0 ((S.length : Int) - 1) then costOf K (raiseC Z S K) else 0)) ∧ ((goodSys Z S K && rising (raiseC Z S K) 0 ((S.length : Int) - 1)) = (goodSys Z S K && rising (raiseC Z S K) 0 ((S.length : Int) - 1))) ∧ (((goodSys Z S K && rising (raiseC Z S K) 0 ((S.length : Int) - 1)) && coverB Z S (raiseC Z S K)) = ((goodSys Z S K && rising (raiseC Z S K) 0 ((S.length : Int) - 1)) && coverB Z S (raiseC Z S K))) ∧ ((goodSys Z S K && rising (raiseC Z S K) 0 ((S.length : Int) - 1)) = (goodSys Z S K && rising (raiseC Z S K) 0 ((S.length : Int) - 1))) ∧ (often = often') ∧ (raiseP Z S K = raiseP Z S K))))))) ∧ (∀ often : Int, (l_FnCoverPrices_JA0 code ps sc Z S K often) → ((!(!(goodSys Z S K && rising (lcL Z S K) 0 ((S.length : Int) - 1)))) = true → (!(!(goodSys Z S K && rising (lcL Z S K) 0 ((S.length : Int) - 1)))) = true) ∧ (true = true) ∧ (((!(goodSys Z S K && rising (lcL Z S K) 0 ((S.length : Int) - 1))) = true → true = true)) ∧ (((!(goodSys Z S K && rising (lcL Z S K) 0 ((S.length : Int) - 1))) = false → (!(!(goodSys Z S K && rising (lcL Z S K) 0 ((S.length : Int) - 1)))) = true)) ∧ ((!(l_FnCoverPrices_e4 Z S K)) = true → (!(l_FnCoverPrices_e4 Z S K)) = true) ∧ (true = true) ∧ (((l_FnCoverPrices_e4 Z S K) = true → true = true)) ∧ (((l_FnCoverPrices_e4 Z S K) = false → (!(l_FnCoverPrices_e4 Z S K)) = true)) ∧ ((!(l_FnCoverPrices_e7 Z S K)) = true → (!(l_FnCoverPrices_e7 Z S K)) = true) ∧ (true = true) ∧ (((l_FnCoverPrices_e7 Z S K) = true → true = true)) ∧ (((l_FnCoverPrices_e7 Z S K) = false → (!(l_FnCoverPrices_e7 Z S K)) = true)) ∧ ((!(l_FnCoverPrices_e1 Z S K)) = true → (!(l_FnCoverPrices_e1 Z S K)) = true) ∧ (((!(l_FnCoverPrices_e1 Z S K)) = true → (raiseP Z S K).length = (raiseP Z S K).length)) ∧ ((!(l_FnCoverPrices_e1 Z S K)) = true → PC Try.prog 95 [.sl (.ints (raiseP Z S K))] (.one (.d (.int .i64 (lsum (fun y => y) (raiseP Z S K)))))) ∧ ((!(l_FnCoverPrices_e1 Z S K)) = true → (!(l_FnCoverPrices_e1 Z S K)) = true) ∧ ((!(l_FnCoverPrices_e1 Z S K)) = true → (!(l_FnCoverPrices_e1 Z S K)) = true) ∧ (true = true) ∧ (((l_FnCoverPrices_e1 Z S K) = true → true = true)) ∧ (((l_FnCoverPrices_e1 Z S K) = false → (!(l_FnCoverPrices_e1 Z S K)) = true)) ∧ ((!(l_FnCoverPrices_e2 Z S K)) = true → (!(l_FnCoverPrices_e2 Z S K)) = true) ∧ (((!(l_FnCoverPrices_e2 Z S K)) = true → (raiseP Z S K).length = (raiseP Z S K).length)) ∧ ((!(l_FnCoverPrices_e2 Z S K)) = true → PC Try.prog 95 [.sl (.ints (raiseP Z S K))] (.one (.d (.int .i64 (lsum (fun y => y) (raiseP Z S K)))))) ∧ ((!(l_FnCoverPrices_e2 Z S K)) = true → (!(l_FnCoverPrices_e2 Z S K)) = true) ∧ ((!(l_FnCoverPrices_e2 Z S K)) = true → (!(l_FnCoverPrices_e2 Z S K)) = true) ∧ (((!(l_FnCoverPrices_e2 Z S K)) = true → -9223372036854775808 ≤ (often * (lsum (fun y => y) (raiseP Z S K))) ∧ (often * (lsum (fun y => y) (raiseP Z S K))) ≤ 9223372036854775807)) ∧ ((!(l_FnCoverPrices_e2 Z S K)) = true → (!(l_FnCoverPrices_e2 Z S K)) = true) ∧ ((!(l_FnCoverPrices_e2 Z S K)) = true → (!(l_FnCoverPrices_e2 Z S K)) = true) ∧ (true = true) ∧ (((l_FnCoverPrices_e2 Z S K) = true → true = true)) ∧ (((l_FnCoverPrices_e2 Z S K) = false → (!(l_FnCoverPrices_e2 Z S K)) = true)) ∧ (((l_FnCoverPrices_e9 Z S K often) = true → ((false = true))) ∧ ((l_FnCoverPrices_e9 Z S K often) = false → ((!(!(goodSys Z S K && rowOk ps Z 1000000 && inB sc 1 1000000))) = true → (!(!(goodSys Z S K && rowOk ps Z 1000000 && inB sc 1 1000000))) = true) ∧ (true = true) ∧ (((!(goodSys Z S K && rowOk ps Z 1000000 && inB sc 1 1000000)) = true → true = true)) ∧ (((!(goodSys Z S K && rowOk ps Z 1000000 && inB sc 1 1000000)) = false → (!(!(goodSys Z S K && rowOk ps Z 1000000 && inB sc 1 1000000))) = true)) ∧ ((!(l_FnCoverPrices_e3 ps sc Z S K)) = true → (!(l_FnCoverPrices_e3 ps sc Z S K)) = true) ∧ ((!(l_FnCoverPrices_e3 ps sc Z S K)) = true → PC Try.prog 95 [.sl (.ints ps)] (.one (.d (.int .i64 (lsum (fun y => y) ps))))) ∧ ((!(l_FnCoverPrices_e3 ps sc Z S K)) = true → (!(l_FnCoverPrices_e3 ps sc Z S K)) = true) ∧ ((!(l_FnCoverPrices_e3 ps sc Z S K)) = true → (!(l_FnCoverPrices_e3 ps sc Z S K)) = true) ∧ (((!(l_FnCoverPrices_e3 ps sc Z S K)) = true → -9223372036854775808 ≤ (sc * (if goodSys Z S K && rising (lcL Z S K) 0 ((S.length : Int) - 1) then costOf K (lcL Z S K) else 0)) ∧ (sc * (if goodSys Z S K && rising (lcL Z S K) 0 ((S.length : Int) - 1) then costOf K (lcL Z S K) else 0)) ≤ 9223372036854775807)) ∧ ((!(l_FnCoverPrices_e3 ps sc Z S K)) = true → (!(l_FnCoverPrices_e3 ps sc Z S K)) = true) ∧ ((!(l_FnCoverPrices_e3 ps sc Z S K)) = true → (!(l_FnCoverPrices_e3 ps sc Z S K)) = true) ∧ (true = true) ∧ (((l_FnCoverPrices_e3 ps sc Z S K) = true → true = true)) ∧ (((l_FnCoverPrices_e3 ps sc Z S K) = false → (!(l_FnCoverPrices_e3 ps sc Z S K)) = true)) ∧ (((cond (l_FnCoverPrices_e3 ps sc Z S K) true (decide ((lsum (fun y => y) ps) ≤ (sc * (if goodSys Z S K && rising (lcL Z S K) 0 ((S.length : Int) - 1) then costOf K (lcL Z S K) else 0))))) = true))))))))))))))))))))))))
set_option maxRecDepth 100000 in
theorem l_FnCoverPrices_vc (code : List Nat) (hb : ∀ x9 ∈ code, x9 < 256) (w_code : (code.length : Int) ≤ 9223372036854775807) : l_FnCoverPrices_P code := by
  unfold l_FnCoverPrices_P l_FnCoverPrices_e10 l_FnCoverPrices_e9 l_FnCoverPrices_e8 l_FnCoverPrices_e2 l_FnCoverPrices_e1 l_FnCoverPrices_e7 l_FnCoverPrices_e6 l_FnCoverPrices_e5 l_FnCoverPrices_e4 l_FnCoverPrices_e3
  refine ⟨l_rBig_pc code, ?_, ?_⟩
  ·intro b1
   try simp only [nrmT] at b1
   exact rfl
  ·intro b2
   try simp only [nrmT] at b2
   refine ⟨?_, ?_⟩
   ·refine ⟨?_, ?_⟩
    ·refine s_DrawArePrices_pe code ?_
     ·exact hb
    ·intro Zr3 Sr3 Kr3 psr3 scr3 hQ9
     refine ⟨rfl, ?_⟩
     ·refine ⟨psr3, scr3, Zr3, Sr3, Kr3, ?_⟩
      refine ⟨?_, rfl, rfl, rfl, rfl, rfl, rfl⟩
      ·trivial
   ·intro ps sc Z S K hJ
    refine ⟨i_ArePrices_pc Z S K ps sc, s_ArePrices_pc Z S K ps sc, id, id, rfl, fun _ => rfl, ?_, ?_, ?_⟩
    ·intro h; rw [h]; rfl
    ·intro b3
     simp at b3
    ·intro b4
     refine ⟨i_RaisePrices_pc Z S K, s_RaisePrices_pc Z S K, id, id, fun _ => rfl, fun _ => l_rInts_pc (raiseP Z S K) (raiseP Z S K), id, rfl, fun _ => rfl, ?_, id, id, fun _ => rfl, fun _ => l_rInts_pc (raiseC Z S K) (raiseC Z S K), id, rfl, fun _ => rfl, ?_, ?_, ?_⟩
     ·intro h; rw [h]; rfl
     ·intro h; rw [h]; rfl
     ·intro b5
      simp at b5
     ·intro b6
      refine ⟨i_LeastCover_pc Z S K, s_LeastCover_pc Z S K, id, id, fun _ => l_rInts_pc (lcL Z S K) (lcL Z S K), id, rfl, fun _ => rfl, ?_, ?_, ?_⟩
      ·intro h; rw [h]; rfl
      ·intro b7
       simp at b7
      ·intro b8
       refine ⟨?_, i_HarmonicOf_pc (([0, 1, 2, 3, 4, 5, 6, 7, 8, 9, -1] : List Int).getD (pickV code cur0 11).toNat 0), s_HarmonicOf_pc (([0, 1, 2, 3, 4, 5, 6, 7, 8, 9, -1] : List Int).getD (pickV code cur0 11).toNat 0), id, id, rfl, fun _ => rfl, ?_, ?_, ?_⟩
       ·refine s_DrawHarmonicOf_pc code ?_
        ·exact hb
       ·intro h; rw [h]; rfl
       ·intro b9
        simp at b9
       ·intro b10
        refine ⟨?_, ?_⟩
        ·intro b11
         try simp only [nrmT] at b11
         have hn : goodSys Z S K = false := by simpa using b11
         unfold lcOk; rw [hn]; rfl
        ·intro b12
         try simp only [nrmT] at b12
         refine ⟨rfl, i_ArePrices_pc Z S K (raiseP Z S K) 1, id, rfl, fun _ => rfl, ?_, ?_, ?_⟩
         ·intro h; rw [h]; rfl
         ·intro b13
          have hg : goodSys Z S K = true := by simpa using b12
          obtain ⟨f1, f2, f3, f4, f5, f6⟩ := raise_facts hg
          rw [hg, f5, f1] at b13
          simp [inB] at b13
         ·intro b14
          refine ⟨?_, ?_⟩
          ·intro b15
           try simp only [nrmT] at b15
           exact rfl
          ·intro b16
           try simp only [nrmT] at b16
           refine ⟨i_CostOf_pc Z S K (lcL Z S K), rfl, i_CostOf_pc Z S K (raiseC Z S K), rfl, i_IsCover_pc Z S K (raiseC Z S K), ?_, ?_⟩
           ·refine ⟨?_, ?_⟩
            ·refine ⟨0, 0, ?_⟩
             refine ⟨?_, rfl, rfl, rfl, rfl, rfl, rfl, rfl, rfl, rfl, rfl, rfl, rfl, rfl, rfl, rfl, rfl, rfl⟩
             ·refine ⟨?_, ?_, ?_, ?_⟩
              ·first | assumption | simpa using b16
              ·omega
              ·have gf := gs_facts (cp_facts (by simpa using b16)).1
               omega
              ·rfl
            ·intro often x hJ
             obtain ⟨hk, h1, h2, h3⟩ := hJ
             refine ⟨?_, ?_⟩
             ·intro b17
              try simp only [nrmT] at b17
              refine ⟨?_, ?_⟩
              ·refine ⟨0, 0, ?_⟩
               refine ⟨?_, rfl, rfl, rfl, rfl, rfl, rfl, rfl, rfl, rfl, rfl, rfl, rfl, rfl, rfl, rfl, rfl, rfl, rfl, rfl⟩
               ·refine ⟨?_, ?_, ?_⟩
                ·omega
                ·omega
                ·rfl
              ·intro count i hJ
               obtain ⟨h4, h5, h6⟩ := hJ
               refine ⟨?_, ?_⟩
               ·intro b18
                try simp only [nrmT] at b18
                refine ⟨?_, ?_, ?_, l_rHas_pc (S.getD i.toNat []) x, ?_, ?_⟩
                ·omega
                ·omega
                ·omega
                ·intro b19
                 try simp only [nrmT] at b19
                 refine ⟨?_, ?_, ?_⟩
                 ·have h := inTo_bound S x i.toNat
                  have gf := gs_facts (cp_facts hk).1
                  omega
                 ·have gf := gs_facts (cp_facts hk).1
                  omega
                 ·refine ⟨(count + 1), (i + 1), ?_⟩
                  refine ⟨?_, ?_, rfl, rfl, rfl, rfl, rfl, rfl, rfl, rfl, rfl, rfl, rfl, rfl, rfl, rfl, rfl, rfl, rfl, rfl, rfl⟩
                  ·refine ⟨?_, ?_, ?_⟩
                   ·omega
                   ·omega
                   ·rw [show (i + 1).toNat = i.toNat + 1 by omega, h6]
                    show _ = inTo S x i.toNat + if (S.getD i.toNat []).contains x = true then 1 else 0
                    rw [if_pos b19]
                  ·have gf := gs_facts (cp_facts hk).1
                   first | (show _ < _; omega) | (simp only [l_FnCoverPrices_mJ1]; omega) | (simp only [l_FnCoverPrices_mJ1] at *; simp at *; omega)
                ·intro b20
                 try simp only [nrmT] at b20
                 refine ⟨?_, ?_⟩
                 ·have gf := gs_facts (cp_facts hk).1
                  omega
                 ·refine ⟨count, (i + 1), ?_⟩
                  refine ⟨?_, ?_, rfl, rfl, rfl, rfl, rfl, rfl, rfl, rfl, rfl, rfl, rfl, rfl, rfl, rfl, rfl, rfl, rfl, rfl, rfl⟩
                  ·refine ⟨?_, ?_, ?_⟩
                   ·omega
                   ·omega
                   ·rw [show (i + 1).toNat = i.toNat + 1 by omega, h6]
                    show _ = inTo S x i.toNat + if (S.getD i.toNat []).contains x = true then 1 else 0
                    rw [if_neg (by rw [b20]; decide)]; omega
                  ·have gf := gs_facts (cp_facts hk).1
                   first | (show _ < _; omega) | (simp only [l_FnCoverPrices_mJ1]; omega) | (simp only [l_FnCoverPrices_mJ1] at *; simp at *; omega)
               ·intro b21
                try simp only [nrmT] at b21
                refine ⟨?_, ?_⟩
                ·intro b22
                 try simp only [nrmT] at b22
                 refine ⟨?_, ?_⟩
                 ·have gf := gs_facts (cp_facts hk).1
                  omega
                 ·refine ⟨count, (x + 1), ?_⟩
                  refine ⟨?_, ?_, rfl, rfl, rfl, rfl, rfl, rfl, rfl, rfl, rfl, rfl, rfl, rfl, rfl, rfl, rfl, rfl, rfl⟩
                  ·refine ⟨?_, ?_, ?_, ?_⟩
                   ·first | assumption | simpa using b16
                   ·omega
                   ·omega
                   ·have ec : count = inTo S ((x.toNat : Nat) : Int) S.length := by rw [h6, show i.toNat = S.length by omega, show ((x.toNat : Nat) : Int) = x by omega]
                    rw [show (x + 1).toNat = x.toNat + 1 by omega, oftenTo_succ, ← ec, ← h3]
                    first | rw [if_pos (by omega)] | rw [if_neg (by omega)]
                  ·have gf := gs_facts (cp_facts hk).1
                   first | (show _ < _; omega) | (simp only [l_FnCoverPrices_mJ0]; omega) | (simp only [l_FnCoverPrices_mJ0] at *; simp at *; omega)
                ·intro b23
                 try simp only [nrmT] at b23
                 refine ⟨?_, ?_⟩
                 ·have gf := gs_facts (cp_facts hk).1
                  omega
                 ·refine ⟨often, (x + 1), ?_⟩
                  refine ⟨?_, ?_, rfl, rfl, rfl, rfl, rfl, rfl, rfl, rfl, rfl, rfl, rfl, rfl, rfl, rfl, rfl, rfl, rfl⟩
                  ·refine ⟨?_, ?_, ?_, ?_⟩
                   ·first | assumption | simpa using b16
                   ·omega
                   ·omega
                   ·have ec : count = inTo S ((x.toNat : Nat) : Int) S.length := by rw [h6, show i.toNat = S.length by omega, show ((x.toNat : Nat) : Int) = x by omega]
                    rw [show (x + 1).toNat = x.toNat + 1 by omega, oftenTo_succ, ← ec, ← h3]
                    first | rw [if_pos (by omega)] | rw [if_neg (by omega)]
                  ·have gf := gs_facts (cp_facts hk).1
                   first | (show _ < _; omega) | (simp only [l_FnCoverPrices_mJ0]; omega) | (simp only [l_FnCoverPrices_mJ0] at *; simp at *; omega)
             ·intro b24
              try simp only [nrmT] at b24
              refine ⟨often, ?_⟩
              refine ⟨?_, rfl, rfl, rfl, rfl, rfl, rfl, rfl, rfl, rfl, rfl, rfl, rfl, rfl⟩
              ·refine ⟨?_, ?_⟩
               ·first | assumption | simpa using b16
               ·rw [h3]; congr 1; omega
           ·intro often hJ
            obtain ⟨hk, h9⟩ := hJ
            refine ⟨id, rfl, fun _ => rfl, ?_, id, rfl, fun _ => rfl, ?_, id, rfl, fun _ => rfl, ?_, id, fun _ => rfl, ?_, id, id, rfl, fun _ => rfl, ?_, id, fun _ => rfl, ?_, id, id, ?_, id, id, rfl, fun _ => rfl, ?_, ?_, ?_⟩
            ·intro h; rw [h]; rfl
            ·intro h; rw [h]; rfl
            ·intro h; rw [h]; rfl
            ·intro hg
             refine l_rSum_pc (raiseP Z S K) ?_ ?_
             ·exact raiseP_len
             ·exact raise_in _ _ _
            ·intro h; rw [h]; rfl
            ·intro hg
             refine l_rSum_pc (raiseP Z S K) ?_ ?_
             ·exact raiseP_len
             ·exact raise_in _ _ _
            ·intro _
             obtain ⟨g1, g2, f4, f2, l1, l2, l3, l4, l5⟩ := cp_facts hk
             have gf := gs_facts g1
             have ob := often_bound S Z.toNat
             rw [h9]
             have p0 := Int.mul_nonneg ob.1 l3.1
             have p1 : oftenTo S Z.toNat * lsum (fun y => y) (raiseP Z S K) ≤ 8 * 8000000 := Int.mul_le_mul (by omega) l3.2 l3.1 (by omega)
             omega
            ·intro h; rw [h]; rfl
            ·intro b25
             exfalso
             obtain ⟨g1, g2, f4, f2, l1, l2, l3, l4, l5⟩ := cp_facts hk
             have gf := gs_facts g1
             have ob := often_bound S Z.toNat
             rw [g1, g2, f4, f2, h9] at b25
             simp only [Bool.true_and, if_true, Bool.not_true, cond_false] at b25
             rw [decide_eq_false (by omega), cond_false, decide_eq_false (by omega)] at b25
             cases b25
            ·intro b26
             refine ⟨id, rfl, fun _ => rfl, ?_, id, ?_, id, id, ?_, id, id, rfl, fun _ => rfl, ?_, ?_⟩
             ·intro h; rw [h]; rfl
             ·intro hg
              refine l_rSum_pc ps ?_ ?_
              ·have hq : goodSys Z S K = true ∧ rowOk ps Z 1000000 = true ∧ inB sc 1 1000000 = true := by
                 revert hg; cases goodSys Z S K <;> cases rowOk ps Z 1000000 <;> cases inB sc 1 1000000 <;> simp
               have h1 := (rowOk_at hq.2.1).1
               have gf := gs_facts hq.1
               omega
              ·have hq : goodSys Z S K = true ∧ rowOk ps Z 1000000 = true ∧ inB sc 1 1000000 = true := by
                 revert hg; cases goodSys Z S K <;> cases rowOk ps Z 1000000 <;> cases inB sc 1 1000000 <;> simp
               intro y hy
               obtain ⟨k, hk9, rfl⟩ := List.mem_iff_getElem.1 hy
               have h1 := (rowOk_at hq.2.1).2 k hk9
               rw [getD_get hk9] at h1
               exact h1
             ·intro hg
              obtain ⟨g1, g2, f4, f2, l1, l2, l3, l4, l5⟩ := cp_facts hk
              have gf := gs_facts g1
              have ob := often_bound S Z.toNat
              have hq : goodSys Z S K = true ∧ rowOk ps Z 1000000 = true ∧ inB sc 1 1000000 = true := by
                revert hg; cases goodSys Z S K <;> cases rowOk ps Z 1000000 <;> cases inB sc 1 1000000 <;> simp
              have hi := inB_le hq.2.2
              rw [g1, g2, Bool.true_and, if_pos rfl]
              have p0 := Int.mul_nonneg (show 0 ≤ sc by omega) l4.1
              have p1 : sc * costOf K (lcL Z S K) ≤ 1000000 * 792 := Int.mul_le_mul hi.2 l4.2 l4.1 (by omega)
              omega
             ·intro h; rw [h]; rfl
             ·obtain ⟨g1, g2, f4, f2, l1, l2, l3, l4, l5⟩ := cp_facts hk
              have gf := gs_facts g1
              have ob := often_bound S Z.toNat
              cases hr : (goodSys Z S K && rowOk ps Z 1000000 && inB sc 1 1000000) with
              | false => rfl
              | true =>
                cases hf : fair S K ps sc with
                | false => rfl
                | true =>
                  have hr2 := hr
                  simp only [Bool.and_eq_true] at hr2
                  have h9 := l5 ps sc hr2.1.2 hf
                  rw [g1, g2, Bool.true_and, if_pos rfl, decide_eq_true h9]
                  rfl
theorem l_FnCoverPrices_pc (code : List Nat) (hb : ∀ x9 ∈ code, x9 < 256) : PC Try.prog 12 [.sl (.bytes code)] (.one (.d (.bool true))) :=
  pc_wf @Try.call12 fun hw => pc_by (by kernel_rfl) Try.func12 @Try.call12 (by kernel_rfl) l_FnCoverPrices_C (l_FnCoverPrices_A code) (by kernel_rfl) (l_FnCoverPrices_vc code hb hw.1) (by kernel_rfl)
end Go.Proofs.Ytomnmacmlhkceaa
