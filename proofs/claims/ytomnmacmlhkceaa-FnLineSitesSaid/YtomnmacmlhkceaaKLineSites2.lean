/- Contracts of the functions that the law reaches. -/
import Derived.Test.YtomnmacmlhkceaaKLineSites1
import Derived.KernelRfl
set_option linter.unusedVariables false
set_option linter.unusedSimpArgs false
namespace Go.Proofs.Ytomnmacmlhkceaa
open Go

theorem i_LineSites_vc (sites : List Int) (clients : List Int) (r : Int)  (w_sites : (sites.length : Int) ≤ 9223372036854775807) (w_clients : (clients.length : Int) ≤ 9223372036854775807) : i_LineSites_P sites clients r := by
  unfold i_LineSites_P
  refine ⟨i_LineField_pc sites clients, id, rfl, fun _ => rfl, ?_, ?_, ?_⟩
  · intro h; rw [h]; rfl
  · intro b1
    refine ⟨?_, ?_⟩
    · rw [lsL_none (ls_no b1)]; rfl
    · rw [ls_no b1]; rfl
  · intro b2
    refine ⟨?_, ?_⟩
    · refine ⟨([]), 0, ?_⟩
      refine ⟨?_, rfl, rfl, rfl, rfl, ?_, rfl⟩
      · refine ⟨?_, ?_, ?_⟩
        · first | omega | rfl | (intro hg; simp only [nrmT] at hg; omega) | (intro g1 g2; simp [g1, g2]; done) | (intro g1; simp at g1 ⊢; simp [g1]; done) | (simp only [nrmT] at *; omega) | (simp at * <;> omega) | (simp_all <;> omega) | (simp_all; done)
        · omega
        · rfl
      · first | omega | rfl | (intro hg; simp only [nrmT] at hg; omega) | (intro g1 g2; simp [g1, g2]; done) | (intro g1; simp at g1 ⊢; simp [g1]; done) | (simp only [nrmT] at *; omega) | (simp at * <;> omega) | (simp_all <;> omega) | (simp_all; done)
    · intro out j hJ
      obtain ⟨h1, h2, h3⟩ := hJ
      refine ⟨?_, ?_⟩
      · intro b3
        try simp only [nrmT] at b3
        refine ⟨?_, ?_, ?_, rfl, ?_, ?_, ?_⟩
        · first | omega | rfl | (intro hg; simp only [nrmT] at hg; omega) | (intro g1 g2; simp [g1, g2]; done) | (intro g1; simp at g1 ⊢; simp [g1]; done) | (simp only [nrmT] at *; omega) | (simp at * <;> omega) | (simp_all <;> omega) | (simp_all; done)
        · obtain ⟨hg, hr⟩ := ls_test b2
          obtain ⟨g1, g2, g3, g4, g5⟩ := goodL_facts hg
          have e2 := lfD_len hg
          have e1 := lfD_row hg (j := j.toNat) (by omega)
          omega
        · obtain ⟨hg, hr⟩ := ls_test b2
          obtain ⟨g1, g2, g3, g4, g5⟩ := goodL_facts hg
          have e2 := lfD_len hg
          have e1 := lfD_row hg (j := j.toNat) (by omega)
          omega
        · refine slices_ContainsFunc_int_int_iLS_pc out ((lfD sites clients).getD j.toNat []) r ?_
          · obtain ⟨hg, hr⟩ := ls_test b2
            obtain ⟨g1, g2, g3, g4, g5⟩ := goodL_facts hg
            have e2 := lfD_len hg
            obtain ⟨f1, f2⟩ := lsTo_facts (m := sites.length) j.toNat out (fun k hk => lfD_row hg (by omega)) h3
            intro a9 ha
            have := f2 a9 ha
            rw [lfD_row hg (by omega)]
            exact this
        · intro b4
          try simp only [nrmT] at b4
          refine ⟨?_, ?_⟩
          · obtain ⟨hg, hr⟩ := ls_test b2
            obtain ⟨g1, g2, g3, g4, g5⟩ := goodL_facts hg
            have e2 := lfD_len hg
            have e1 := lfD_row hg (j := j.toNat) (by omega)
            omega
          · refine ⟨out, (j + 1), ?_⟩
            refine ⟨?_, ?_, rfl, rfl, rfl, rfl, rfl, rfl⟩
            · refine ⟨?_, ?_, ?_⟩
              · first | omega | rfl | (intro hg; simp only [nrmT] at hg; omega) | (intro g1 g2; simp [g1, g2]; done) | (intro g1; simp at g1 ⊢; simp [g1]; done) | (simp only [nrmT] at *; omega) | (simp at * <;> omega) | (simp_all <;> omega) | (simp_all; done)
              · obtain ⟨hg, hr⟩ := ls_test b2
                obtain ⟨g1, g2, g3, g4, g5⟩ := goodL_facts hg
                have e2 := lfD_len hg
                have e1 := lfD_row hg (j := j.toNat) (by omega)
                omega
              · rw [show (j + 1).toNat = j.toNat + 1 by omega]
                exact lsTo_keep h3 (by first | (simpa using b4) | (unfold hasLe; simpa using b4))
            · first | (show _ < _; omega) | (simp only [i_LineSites_mJ0]; omega) | (simp only [i_LineSites_mJ0] at *; simp at *; omega)
        · intro b5
          try simp only [nrmT] at b5
          refine ⟨?_, ?_⟩
          · refine ⟨(-1), 0, ?_⟩
            refine ⟨?_, rfl, rfl, rfl, rfl, rfl, rfl, rfl, rfl, rfl, rfl⟩
            · refine ⟨?_, ?_, ?_⟩
              · first | omega | rfl | (intro hg; simp only [nrmT] at hg; omega) | (intro g1 g2; simp [g1, g2]; done) | (intro g1; simp at g1 ⊢; simp [g1]; done) | (simp only [nrmT] at *; omega) | (simp at * <;> omega) | (simp_all <;> omega) | (simp_all; done)
              · obtain ⟨hg, hr⟩ := ls_test b2
                obtain ⟨g1, g2, g3, g4, g5⟩ := goodL_facts hg
                have e2 := lfD_len hg
                have e1 := lfD_row hg (j := j.toNat) (by omega)
                omega
              · rfl
          · intro last a hJ
            obtain ⟨h5, h6, h7⟩ := hJ
            refine ⟨?_, ?_⟩
            · intro b6
              try simp only [nrmT] at b6
              refine ⟨?_, ?_, ?_, ?_, ?_⟩
              · first | omega | rfl | (intro hg; simp only [nrmT] at hg; omega) | (intro g1 g2; simp [g1, g2]; done) | (intro g1; simp at g1 ⊢; simp [g1]; done) | (simp only [nrmT] at *; omega) | (simp at * <;> omega) | (simp_all <;> omega) | (simp_all; done)
              · obtain ⟨hg, hr⟩ := ls_test b2
                obtain ⟨g1, g2, g3, g4, g5⟩ := goodL_facts hg
                have e2 := lfD_len hg
                have e1 := lfD_row hg (j := j.toNat) (by omega)
                omega
              · obtain ⟨hg, hr⟩ := ls_test b2
                obtain ⟨g1, g2, g3, g4, g5⟩ := goodL_facts hg
                have e2 := lfD_len hg
                have e1 := lfD_row hg (j := j.toNat) (by omega)
                omega
              · intro b7
                try simp only [nrmT] at b7
                refine ⟨?_, ?_⟩
                · obtain ⟨hg, hr⟩ := ls_test b2
                  obtain ⟨g1, g2, g3, g4, g5⟩ := goodL_facts hg
                  have e2 := lfD_len hg
                  have e1 := lfD_row hg (j := j.toNat) (by omega)
                  omega
                · refine ⟨a, (a + 1), ?_⟩
                  refine ⟨?_, ?_, rfl, rfl, rfl, rfl, rfl, rfl, rfl, rfl, rfl, rfl⟩
                  · refine ⟨?_, ?_, ?_⟩
                    · first | omega | rfl | (intro hg; simp only [nrmT] at hg; omega) | (intro g1 g2; simp [g1, g2]; done) | (intro g1; simp at g1 ⊢; simp [g1]; done) | (simp only [nrmT] at *; omega) | (simp at * <;> omega) | (simp_all <;> omega) | (simp_all; done)
                    · obtain ⟨hg, hr⟩ := ls_test b2
                      obtain ⟨g1, g2, g3, g4, g5⟩ := goodL_facts hg
                      have e2 := lfD_len hg
                      have e1 := lfD_row hg (j := j.toNat) (by omega)
                      omega
                    · rw [show (a + 1).toNat = a.toNat + 1 by omega, lastTo_succ]
                      first | (rw [if_pos (by omega)]; omega) | (rw [if_neg (by omega)]; exact h7)
                  · first | (show _ < _; omega) | (simp only [i_LineSites_mJ1]; omega) | (simp only [i_LineSites_mJ1] at *; simp at *; omega)
              · intro b8
                try simp only [nrmT] at b8
                refine ⟨?_, ?_⟩
                · obtain ⟨hg, hr⟩ := ls_test b2
                  obtain ⟨g1, g2, g3, g4, g5⟩ := goodL_facts hg
                  have e2 := lfD_len hg
                  have e1 := lfD_row hg (j := j.toNat) (by omega)
                  omega
                · refine ⟨last, (a + 1), ?_⟩
                  refine ⟨?_, ?_, rfl, rfl, rfl, rfl, rfl, rfl, rfl, rfl, rfl, rfl⟩
                  · refine ⟨?_, ?_, ?_⟩
                    · first | omega | rfl | (intro hg; simp only [nrmT] at hg; omega) | (intro g1 g2; simp [g1, g2]; done) | (intro g1; simp at g1 ⊢; simp [g1]; done) | (simp only [nrmT] at *; omega) | (simp at * <;> omega) | (simp_all <;> omega) | (simp_all; done)
                    · obtain ⟨hg, hr⟩ := ls_test b2
                      obtain ⟨g1, g2, g3, g4, g5⟩ := goodL_facts hg
                      have e2 := lfD_len hg
                      have e1 := lfD_row hg (j := j.toNat) (by omega)
                      omega
                    · rw [show (a + 1).toNat = a.toNat + 1 by omega, lastTo_succ]
                      first | (rw [if_pos (by omega)]; omega) | (rw [if_neg (by omega)]; exact h7)
                  · first | (show _ < _; omega) | (simp only [i_LineSites_mJ1]; omega) | (simp only [i_LineSites_mJ1] at *; simp at *; omega)
            · intro b9
              try simp only [nrmT] at b9
              refine ⟨?_, ?_⟩
              · intro b10
                try simp only [nrmT] at b10
                refine ⟨?_, ?_⟩
                · have e4 : hasLe ((lfD sites clients).getD j.toNat []) r out = false := by first | (simpa using b5) | (unfold hasLe; simpa using b5)
                  obtain ⟨hg, hr⟩ := ls_test b2
                  obtain ⟨g1, g2, g3, g4, g5⟩ := goodL_facts hg
                  have e2 := lfD_len hg
                  have e1 := lfD_row hg (j := j.toNat) (by omega)
                  have e3 : last = lastTo ((lfD sites clients).getD j.toNat []) r ((lfD sites clients).getD j.toNat []).length := by rw [h7, e1, show a.toNat = sites.length by omega]
                  have e5 := lsTo_none (lsTo_fail h3 e4 (by rw [← e3]; omega)) clients.length (by omega)
                  rw [← ls_some hg hr] at e5
                  rw [lsL_none e5]; rfl
                · have e4 : hasLe ((lfD sites clients).getD j.toNat []) r out = false := by first | (simpa using b5) | (unfold hasLe; simpa using b5)
                  obtain ⟨hg, hr⟩ := ls_test b2
                  obtain ⟨g1, g2, g3, g4, g5⟩ := goodL_facts hg
                  have e2 := lfD_len hg
                  have e1 := lfD_row hg (j := j.toNat) (by omega)
                  have e3 : last = lastTo ((lfD sites clients).getD j.toNat []) r ((lfD sites clients).getD j.toNat []).length := by rw [h7, e1, show a.toNat = sites.length by omega]
                  have e5 := lsTo_none (lsTo_fail h3 e4 (by rw [← e3]; omega)) clients.length (by omega)
                  rw [← ls_some hg hr] at e5
                  rw [e5]; rfl
              · intro b11
                try simp only [nrmT] at b11
                refine ⟨rfl, rfl, ?_, ?_, ?_⟩
                · obtain ⟨hg, hr⟩ := ls_test b2
                  obtain ⟨g1, g2, g3, g4, g5⟩ := goodL_facts hg
                  have e2 := lfD_len hg
                  obtain ⟨f1, f2⟩ := lsTo_facts (m := sites.length) j.toNat out (fun k hk => lfD_row hg (by omega)) h3
                  omega
                · obtain ⟨hg, hr⟩ := ls_test b2
                  obtain ⟨g1, g2, g3, g4, g5⟩ := goodL_facts hg
                  have e2 := lfD_len hg
                  have e1 := lfD_row hg (j := j.toNat) (by omega)
                  omega
                · refine ⟨(out ++ [last]), (j + 1), ?_⟩
                  refine ⟨?_, ?_, ?_, rfl, rfl, rfl, rfl, rfl⟩
                  · refine ⟨?_, ?_, ?_⟩
                    · first | omega | rfl | (intro hg; simp only [nrmT] at hg; omega) | (intro g1 g2; simp [g1, g2]; done) | (intro g1; simp at g1 ⊢; simp [g1]; done) | (simp only [nrmT] at *; omega) | (simp at * <;> omega) | (simp_all <;> omega) | (simp_all; done)
                    · obtain ⟨hg, hr⟩ := ls_test b2
                      obtain ⟨g1, g2, g3, g4, g5⟩ := goodL_facts hg
                      have e2 := lfD_len hg
                      have e1 := lfD_row hg (j := j.toNat) (by omega)
                      omega
                    · have e4 : hasLe ((lfD sites clients).getD j.toNat []) r out = false := by first | (simpa using b5) | (unfold hasLe; simpa using b5)
                      obtain ⟨hg, hr⟩ := ls_test b2
                      obtain ⟨g1, g2, g3, g4, g5⟩ := goodL_facts hg
                      have e2 := lfD_len hg
                      have e1 := lfD_row hg (j := j.toNat) (by omega)
                      have e3 : last = lastTo ((lfD sites clients).getD j.toNat []) r ((lfD sites clients).getD j.toNat []).length := by rw [h7, e1, show a.toNat = sites.length by omega]
                      rw [show (j + 1).toNat = j.toNat + 1 by omega, e3]
                      exact lsTo_app h3 e4 (by rw [← e3]; omega)
                  · first | (show _ < _; omega) | (simp only [i_LineSites_mJ0]; omega) | (simp only [i_LineSites_mJ0] at *; simp at *; omega)
                  · first | omega | rfl | (intro hg; simp only [nrmT] at hg; omega) | (intro g1 g2; simp [g1, g2]; done) | (intro g1; simp at g1 ⊢; simp [g1]; done) | (simp only [nrmT] at *; omega) | (simp at * <;> omega) | (simp_all <;> omega) | (simp_all; done)
      · intro b12
        try simp only [nrmT] at b12
        refine ⟨rfl, ?_, ?_⟩
        · obtain ⟨hg, hr⟩ := ls_test b2
          obtain ⟨g1, g2, g3, g4, g5⟩ := goodL_facts hg
          have e2 := lfD_len hg
          rw [show j.toNat = clients.length by omega, ← ls_some hg hr] at h3
          exact (lsL_some h3).symm
        · obtain ⟨hg, hr⟩ := ls_test b2
          obtain ⟨g1, g2, g3, g4, g5⟩ := goodL_facts hg
          have e2 := lfD_len hg
          rw [show j.toNat = clients.length by omega, ← ls_some hg hr] at h3
          rw [h3]; rfl
theorem i_LineSites_pc (sites : List Int) (clients : List Int) (r : Int)  : PC Try.prog 36 [.sl (.ints sites), .sl (.ints clients), .int .i64 r] (.tup [.own 3 (.ints (lsL sites clients r)), .d (.bool ((lsO sites clients r).isSome))]) :=
  pc_wf @Try.call36 fun hw => pc_by (by kernel_rfl) Try.func36 @Try.call36 (by kernel_rfl) i_LineSites_C (i_LineSites_A sites clients r) (by kernel_rfl) (i_LineSites_vc sites clients r hw.1 hw.2.1) (by kernel_rfl)
def i_LineSites_orc : List D → Orc := orcN [some .ints, some .ints, none] fun ds => match ds with
  | [.sl (.ints sites), .sl (.ints clients), .int .i64 r] => some (.tup [.own 3 (.ints (lsL sites clients r)), .d (.bool ((lsO sites clients r).isSome))])
  | _ => none
def cmpS (a b : List Int) : Int := if cmpI (a.length : Int) (b.length : Int) = 0 then cmpL a b else cmpI (a.length : Int) (b.length : Int)
theorem cmpL_self : ∀ x : List Int, cmpL x x = 0
  | [] => rfl
  | x :: r => by unfold cmpL; rw [if_neg (by omega), if_neg (by omega)]; exact cmpL_self r
theorem cmpL_zero : ∀ {x y : List Int}, cmpL x y = 0 → x = y
  | [], [], _ => rfl
  | [], _ :: _, h => by simp [cmpL] at h
  | _ :: _, [], h => by simp [cmpL] at h
  | x :: r, y :: s, h => by
    unfold cmpL at h
    by_cases h1 : x < y
    · rw [if_pos h1] at h; omega
    · rw [if_neg h1] at h
      by_cases h2 : x > y
      · rw [if_pos h2] at h; omega
      · rw [if_neg h2] at h
        have : x = y := by omega
        rw [this, cmpL_zero h]
theorem cmpL_flip : ∀ {x y : List Int}, cmpL x y < 0 ↔ 0 < cmpL y x
  | [], [] => by simp [cmpL]
  | [], _ :: _ => by simp [cmpL]
  | _ :: _, [] => by simp [cmpL]
  | x :: r, y :: s => by
    unfold cmpL
    by_cases h1 : x < y
    · rw [if_pos h1, if_neg (by omega), if_pos (by omega)]; omega
    · rw [if_neg h1]
      by_cases h2 : x > y
      · rw [if_pos h2, if_pos (by omega)]; omega
      · rw [if_neg h2, if_neg (by omega), if_neg (by omega)]; exact cmpL_flip
theorem cmpL_tr : ∀ {x y z : List Int}, cmpL x y < 0 → cmpL y z < 0 → cmpL x z < 0
  | [], _, [], h1, h2 => by
    exfalso
    rename_i y
    cases y with
    | nil => simp [cmpL] at h1
    | cons y s => simp [cmpL] at h2
  | [], _, _ :: _, _, _ => by simp [cmpL]
  | _ :: _, [], _, h, _ => by simp [cmpL] at h
  | _ :: _, _ :: _, [], _, h => by simp [cmpL] at h
  | x :: r, y :: s, z :: t, h1, h2 => by
    unfold cmpL at h1 h2 ⊢
    by_cases a1 : x < y
    · by_cases a2 : y < z
      · rw [if_pos (by omega)]; omega
      · rw [if_neg a2] at h2
        by_cases a3 : y > z
        · rw [if_pos a3] at h2; omega
        · rw [if_pos (by omega)]; omega
    · rw [if_neg a1] at h1
      by_cases a4 : x > y
      · rw [if_pos a4] at h1; omega
      · rw [if_neg a4] at h1
        by_cases a2 : y < z
        · rw [if_pos (by omega)]; omega
        · rw [if_neg a2] at h2
          by_cases a3 : y > z
          · rw [if_pos a3] at h2; omega
          · rw [if_neg a3] at h2
            rw [if_neg (by omega), if_neg (by omega)]
            exact cmpL_tr h1 h2
theorem cmpS_cases (a b : List Int) : (a.length < b.length ∧ cmpS a b < 0) ∨ (b.length < a.length ∧ 0 < cmpS a b) ∨ (a.length = b.length ∧ cmpS a b = cmpL a b) := by
  unfold cmpS cmpI
  by_cases h1 : (a.length : Int) < b.length
  · rw [if_pos h1]; left; exact ⟨by omega, by rw [if_neg (by omega)]; omega⟩
  · rw [if_neg h1]
    by_cases h2 : (a.length : Int) > b.length
    · rw [if_pos h2]; right; left; exact ⟨by omega, by rw [if_neg (by omega)]; omega⟩
    · rw [if_neg h2]; right; right; exact ⟨by omega, by rw [if_pos rfl]⟩
theorem cmpS_self (a : List Int) : cmpS a a = 0 := by
  rcases cmpS_cases a a with h | h | h
  · omega
  · omega
  · rw [h.2, cmpL_self]
theorem cmpS_zero {a b : List Int} (h : cmpS a b = 0) : a = b := by
  rcases cmpS_cases a b with h1 | h1 | h1
  · omega
  · omega
  · exact cmpL_zero (h1.2 ▸ h)
theorem cmpS_flip {a b : List Int} : cmpS a b < 0 ↔ 0 < cmpS b a := by
  rcases cmpS_cases a b with h1 | h1 | h1 <;> rcases cmpS_cases b a with h2 | h2 | h2
  · omega
  · omega
  · omega
  · omega
  · omega
  · omega
  · omega
  · omega
  · rw [h1.2, h2.2]; exact cmpL_flip
theorem cmpS_tr {a b c : List Int} (h : cmpS a b < 0) (k : cmpS b c < 0) : cmpS a c < 0 := by
  rcases cmpS_cases a b with h1 | h1 | h1 <;> rcases cmpS_cases b c with h2 | h2 | h2 <;> rcases cmpS_cases a c with h3 | h3 | h3
  all_goals first | omega | (rw [h3.2]; exact cmpL_tr (h1.2 ▸ h) (h2.2 ▸ k))
theorem swo_of {β : Type} {c : β → β → Int} (hs : ∀ x, c x x = 0) (h0 : ∀ {x y}, c x y = 0 → x = y) (hf : ∀ {x y}, c x y < 0 ↔ 0 < c y x) (ht : ∀ {x y z}, c x y < 0 → c y z < 0 → c x z < 0) :
    Go.Sort.SWO (ltOf c) ∧ ∀ x y, ltOf c x y = false → ltOf c y x = false → x = y := by
  refine ⟨⟨fun x => ?_, fun x y z h1 h2 => ?_, fun x y z h1 h2 => ?_⟩, fun x y h1 h2 => ?_⟩
  · exact decide_eq_false (by rw [hs]; omega)
  · exact decide_eq_true (ht (of_decide_eq_true h1) (of_decide_eq_true h2))
  · have h1 := of_decide_eq_false h1
    have h2 := of_decide_eq_false h2
    refine decide_eq_false fun h3 => ?_
    by_cases e1 : c x y = 0
    · rw [h0 e1] at h3; omega
    · by_cases e2 : c y z = 0
      · rw [← h0 e2] at h3; omega
      · have a1 : c y x < 0 := hf.2 (by omega)
        have a2 : c z y < 0 := hf.2 (by omega)
        have a3 := ht a2 a1
        have a4 := hf.1 h3
        omega
  · have h1 := of_decide_eq_false h1
    have h2 := of_decide_eq_false h2
    refine h0 ?_
    by_cases e1 : 0 < c x y
    · have := hf.2 e1; omega
    · omega
theorem swoS : Go.Sort.SWO (ltOf cmpS) := (swo_of cmpS_self cmpS_zero cmpS_flip cmpS_tr).1
theorem totS : ∀ x y, ltOf cmpS x y = false → ltOf cmpS y x = false → x = y := (swo_of cmpS_self cmpS_zero cmpS_flip cmpS_tr).2
def orI : List Int → Int
  | [] => 0
  | x :: r => if x = 0 then orI r else x
theorem orI_drop {xs : List Int} {i : Nat} (h : orI xs = orI (xs.drop i)) (hi : i < xs.length) : orI xs = if xs.getD i 0 = 0 then orI (xs.drop (i + 1)) else xs.getD i 0 := by
  rw [h, List.drop_eq_getElem_cons hi, getD_get hi]; rfl
theorem orI_end {xs : List Int} {i : Nat} (h : orI xs = orI (xs.drop i)) (hi : xs.length ≤ i) : orI xs = 0 := by
  rw [h, List.drop_eq_nil_of_le hi]; rfl
theorem orI_two (a b : Int) : orI [a, b] = if a = 0 then b else a := by
  unfold orI orI orI
  by_cases h : b = 0
  · rw [if_pos h, h]
  · rw [if_neg h]
def preS (n m : Nat) : List (List Int) := (List.range m).map fun c => lst n (c + 1)
def setsL (n : Nat) : List (List Int) := (preS n (2 ^ n - 1)).mergeSort fun x9 y9 => !(ltOf cmpS) y9 x9
theorem preS_len (n m : Nat) : (preS n m).length = m := by simp [preS]
theorem setsL_len (n : Nat) : (setsL n).length = 2 ^ n - 1 := by unfold setsL; rw [List.length_mergeSort, preS_len]
theorem preS_succ (n m : Nat) : preS n (m + 1) = preS n m ++ [lst n (m + 1)] := by simp [preS, List.range_succ]
theorem setsL_mem {n : Nat} {s : List Int} : s ∈ setsL n ↔ ∃ c, 1 ≤ c ∧ c < 2 ^ n ∧ lst n c = s := by
  unfold setsL
  rw [(List.mergeSort_perm _ _).mem_iff, preS, List.mem_map]
  constructor
  · rintro ⟨c, hc, rfl⟩
    have := List.mem_range.1 hc
    exact ⟨c + 1, by omega, by omega, rfl⟩
  · rintro ⟨c, h1, h2, rfl⟩
    exact ⟨c - 1, List.mem_range.2 (by omega), by rw [show c - 1 + 1 = c by omega]⟩
theorem lst_pos {n c : Nat} (h1 : 1 ≤ c) (h2 : c < 2 ^ n) : 0 < (lst n c).length := by
  rcases Nat.eq_zero_or_pos (lst n c).length with h | h
  · exfalso
    have e : lst n c = [] := List.eq_nil_of_length_eq_zero h
    have : c = 0 := by
      apply Nat.eq_of_testBit_eq
      intro i
      rw [Nat.zero_testBit]
      by_cases hi : i < n
      · cases hb : c.testBit i with
        | false => rfl
        | true =>
          have hm : (i : Int) ∈ lst n c := mem_members.2 ⟨by omega, by omega, by rw [Int.toNat_natCast]; exact hb⟩
          rw [e] at hm; cases hm
      · exact Nat.testBit_lt_two_pow (Nat.lt_of_lt_of_le h2 (Nat.pow_le_pow_right (by omega) (by omega)))
    omega
  · exact h
theorem list62 {n c : Nat} (hn : n ≤ 62) (h : c < 2 ^ n) : members (fun k => c.testBit k) 62 = lst n c :=
  members_stop (fun k hk => Nat.testBit_lt_two_pow (Nat.lt_of_lt_of_le h (Nat.pow_le_pow_right (by omega) hk))) 62 hn
abbrev cmp_Or_int__JJ0 (xs : List Int) (i : Int) : Prop := (0 ≤ i) ∧ (i ≤ (xs.length : Int)) ∧ (orI xs = orI (xs.drop i.toNat))
abbrev cmp_Or_int__mJ0 (xs : List Int) (i : Int) : Nat := (xs.length - i).toNat
def cmp_Or_int__C (f : FuncId) (ds : List D) : Orc := .no
def cmp_Or_int__A (xs : List Int) : Ann := .two (.none) (.two (.none) (.two (.two (.none) (.loop (cut1 (fun (i : Int) => cmp_Or_int__JJ0 xs i) (fun (i : Int) => [(3, .d true (.int .i64 0)), (6, .d false (.sl (.ints xs))), (7, .d true (.int .i64 (xs.length : Int))), (8, .d true (.int .i64 i))]) (fun (i : Int) => [])) (fun g => cmp_Or_int__mJ0 xs g) (fun _ => .none))) (.none)))
def cmp_Or_int__P (xs : List Int) : Prop :=
  ((∃ i' : Int, (cmp_Or_int__JJ0 xs i') ∧ ((0 : Int) = 0) ∧ (xs = xs) ∧ ((xs.length : Int) = (xs.length : Int)) ∧ ((0 : Int) = i')) ∧ (∀ i : Int, (cmp_Or_int__JJ0 xs i) → (((decide (i < (xs.length : Int))) = true → ((0 : Int) ≤ i) ∧ ((i : Int) < xs.length) ∧ (i.toNat < xs.length) ∧ ((((xs.getD i.toNat 0) != 0) = true → (((xs.getD i.toNat 0) = (orI xs)))) ∧ (((xs.getD i.toNat 0) != 0) = false → (-9223372036854775808 ≤ (i + 1) ∧ (i + 1) ≤ 9223372036854775807) ∧ (∃ i' : Int, (cmp_Or_int__JJ0 xs i') ∧ (cmp_Or_int__mJ0 xs i' < cmp_Or_int__mJ0 xs i) ∧ ((0 : Int) = 0) ∧ (xs = xs) ∧ ((xs.length : Int) = (xs.length : Int)) ∧ ((i + 1) = i'))))) ∧ ((decide (i < (xs.length : Int))) = false → (((0 : Int) = (orI xs)))))))
theorem cmp_Or_int__vc (xs : List Int)  (w_xs : (xs.length : Int) ≤ 9223372036854775807) : cmp_Or_int__P xs := by
  unfold cmp_Or_int__P
  refine ⟨?_, ?_⟩
  · refine ⟨0, ?_⟩
    refine ⟨?_, rfl, rfl, rfl, rfl⟩
    · refine ⟨?_, ?_, ?_⟩
      · first | omega | rfl | (intro hg; simp only [nrmT] at hg; omega) | (intro g1 g2; simp [g1, g2]; done) | (intro g1; simp at g1 ⊢; simp [g1]; done) | (simp only [nrmT] at *; omega) | (simp at * <;> omega) | (simp_all <;> omega) | (simp_all; done)
      · first | omega | rfl | (intro hg; simp only [nrmT] at hg; omega) | (intro g1 g2; simp [g1, g2]; done) | (intro g1; simp at g1 ⊢; simp [g1]; done) | (simp only [nrmT] at *; omega) | (simp at * <;> omega) | (simp_all <;> omega) | (simp_all; done)
      · rfl
  · intro i hJ
    obtain ⟨h1, h2, h3⟩ := hJ
    refine ⟨?_, ?_⟩
    · intro b1
      try simp only [nrmT] at b1
      refine ⟨?_, ?_, ?_, ?_, ?_⟩
      · first | omega | rfl | (intro hg; simp only [nrmT] at hg; omega) | (intro g1 g2; simp [g1, g2]; done) | (intro g1; simp at g1 ⊢; simp [g1]; done) | (simp only [nrmT] at *; omega) | (simp at * <;> omega) | (simp_all <;> omega) | (simp_all; done)
      · first | omega | rfl | (intro hg; simp only [nrmT] at hg; omega) | (intro g1 g2; simp [g1, g2]; done) | (intro g1; simp at g1 ⊢; simp [g1]; done) | (simp only [nrmT] at *; omega) | (simp at * <;> omega) | (simp_all <;> omega) | (simp_all; done)
      · first | omega | rfl | (intro hg; simp only [nrmT] at hg; omega) | (intro g1 g2; simp [g1, g2]; done) | (intro g1; simp at g1 ⊢; simp [g1]; done) | (simp only [nrmT] at *; omega) | (simp at * <;> omega) | (simp_all <;> omega) | (simp_all; done)
      · intro b2
        try simp only [nrmT] at b2
        rw [orI_drop h3 (by omega), if_neg (by omega)]
      · intro b3
        try simp only [nrmT] at b3
        refine ⟨?_, ?_⟩
        · first | omega | rfl | (intro hg; simp only [nrmT] at hg; omega) | (intro g1 g2; simp [g1, g2]; done) | (intro g1; simp at g1 ⊢; simp [g1]; done) | (simp only [nrmT] at *; omega) | (simp at * <;> omega) | (simp_all <;> omega) | (simp_all; done)
        · refine ⟨(i + 1), ?_⟩
          refine ⟨?_, ?_, rfl, rfl, rfl, rfl⟩
          · refine ⟨?_, ?_, ?_⟩
            · first | omega | rfl | (intro hg; simp only [nrmT] at hg; omega) | (intro g1 g2; simp [g1, g2]; done) | (intro g1; simp at g1 ⊢; simp [g1]; done) | (simp only [nrmT] at *; omega) | (simp at * <;> omega) | (simp_all <;> omega) | (simp_all; done)
            · first | omega | rfl | (intro hg; simp only [nrmT] at hg; omega) | (intro g1 g2; simp [g1, g2]; done) | (intro g1; simp at g1 ⊢; simp [g1]; done) | (simp only [nrmT] at *; omega) | (simp at * <;> omega) | (simp_all <;> omega) | (simp_all; done)
            · rw [orI_drop h3 (by omega), if_pos (by omega), show (i + 1).toNat = i.toNat + 1 by omega]
          · first | (show _ < _; omega) | (simp only [cmp_Or_int__mJ0]; omega) | (simp only [cmp_Or_int__mJ0] at *; simp at *; omega)
    · intro b4
      try simp only [nrmT] at b4
      exact (orI_end h3 (by omega)).symm
theorem cmp_Or_int__pc (xs : List Int)  : PC Try.prog 234 [.sl (.ints xs)] (.one (.d (.int .i64 (orI xs)))) :=
  pc_wf @Try.call234 fun hw => pc_by (by kernel_rfl) Try.func234 @Try.call234 (by kernel_rfl) cmp_Or_int__C (cmp_Or_int__A xs) (by kernel_rfl) (cmp_Or_int__vc xs hw.1) (by kernel_rfl)
def cmp_Or_int__orc : List D → Orc := orcN [some .ints] fun ds => match ds with
  | [.sl (.ints xs)] => some (.one (.d (.int .i64 (orI xs))))
  | _ => none
def i_compareSets_C (f : FuncId) (ds : List D) : Orc := bif Nat.beq f 235 then cmp_Compare_int__orc ds else bif Nat.beq f 236 then slices_Compare_int_int__orc ds else bif Nat.beq f 234 then cmp_Or_int__orc ds else .no
def i_compareSets_A (xs : List Int) (ys : List Int) : Ann := .none
def i_compareSets_P (xs : List Int) (ys : List Int) : Prop :=
  (PC Try.prog 235 [.int .i64 (xs.length : Int), .int .i64 (ys.length : Int)] (.one (.d (.int .i64 (cmpI (xs.length : Int) (ys.length : Int)))))) ∧ (PC Try.prog 236 [.sl (.ints xs), .sl (.ints ys)] (.one (.d (.int .i64 (cmpL xs ys))))) ∧ ((2 : Nat) = 2) ∧ (PC Try.prog 234 [.sl (.ints ([(cmpI (xs.length : Int) (ys.length : Int)), (cmpL xs ys)]))] (.one (.d (.int .i64 (orI ([(cmpI (xs.length : Int) (ys.length : Int)), (cmpL xs ys)])))))) ∧ (((orI ([(cmpI (xs.length : Int) (ys.length : Int)), (cmpL xs ys)])) = (cmpS xs ys)))
theorem i_compareSets_vc (xs : List Int) (ys : List Int)  (w_xs : (xs.length : Int) ≤ 9223372036854775807) (w_ys : (ys.length : Int) ≤ 9223372036854775807) : i_compareSets_P xs ys := by
  unfold i_compareSets_P
  refine ⟨cmp_Compare_int__pc (xs.length : Int) (ys.length : Int), slices_Compare_int_int__pc xs ys, rfl, cmp_Or_int__pc ([(cmpI (xs.length : Int) (ys.length : Int)), (cmpL xs ys)]), ?_⟩
  · rw [orI_two]; rfl
theorem i_compareSets_pc (xs : List Int) (ys : List Int)  : PC Try.prog 208 [.sl (.ints xs), .sl (.ints ys)] (.one (.d (.int .i64 (cmpS xs ys)))) :=
  pc_wf @Try.call208 fun hw => pc_by (by kernel_rfl) Try.func208 @Try.call208 (by kernel_rfl) i_compareSets_C (i_compareSets_A xs ys) (by kernel_rfl) (i_compareSets_vc xs ys hw.1 hw.2.1) (by kernel_rfl)
theorem slices_SortFunc_int_int_rows_pu (xss : List (List Int)) (hz : xss.length < 4611686018427387904) : PU Try.prog 207 26 (.rows xss) (.rows (xss.mergeSort (fun x9 y9 => !(ltOf cmpS) y9 x9))) [.fn 208 0 []] false :=
  pu_sortFunc Try.laySortRows 26 xss (fun x => .sl (.ints x)) cmpS swoS totS 208 (fun x _ y _ => i_compareSets_pc x y) _ _ rfl rfl rfl (List.length_mergeSort _) (fun _ => rfl) (fun i x h => by simp [Mem.get, h]) (fun i x h => by simp [Mem.get, h]) hz @Try.call208
abbrev i_bag_list_d_JJ0 (b : Int) (out : List Int) (x : Int) : Prop := (0 ≤ x) ∧ (x ≤ 62) ∧ (out = members (fun k => b.toNat.testBit k) x.toNat)
abbrev i_bag_list_d_mJ0 (b : Int) (out : List Int) (x : Int) : Nat := (62 - x).toNat
def i_bag_list_d_C (f : FuncId) (ds : List D) : Orc := bif Nat.beq f 226 then i_bag_has_orc ds else .no
def i_bag_list_d_A (b : Int) : Ann := .two (.none) (.two (.none) (.two (.two (.none) (.loop (cut2 (fun (out : List Int) (x : Int) => i_bag_list_d_JJ0 b out x) (fun (out : List Int) (x : Int) => [(0, .d false (.int .u64 b)), (3, .own 1000000 out.length), (4, .d true (.int .i64 x))]) (fun (out : List Int) (x : Int) => [(1000000, .arr true 3 (.ints out))])) (fun g => i_bag_list_d_mJ0 b g.1 g.2) (fun _ => .none))) (.none)))
def i_bag_list_d_P (b : Int) : Prop :=
  ((∃ out' : List Int, ∃ x' : Int, (i_bag_list_d_JJ0 b out' x') ∧ (b = b) ∧ ((0 : Nat) = out'.length) ∧ ((0 : Int) = x') ∧ ([] = out')) ∧ (∀ out : List Int, ∀ x : Int, (i_bag_list_d_JJ0 b out x) → ((0 : Int) ≤ b ∧ (b : Int) ≤ 18446744073709551615) ∧ ((0 : Int) ≤ x) ∧ (((decide ((b / 2 ^ x.toNat) > 0)) = true → (PC Try.prog 226 [.int .u64 b, .int .i64 x] (.one (.d (.bool (b.toNat.testBit x.toNat))))) ∧ (((b.toNat.testBit x.toNat) = true → (out.length = out.length) ∧ ((1 : Nat) = 1) ∧ ((out.length + 1) * 8 ≤ 140737488355328) ∧ (-9223372036854775808 ≤ (x + 1) ∧ (x + 1) ≤ 9223372036854775807) ∧ (∃ out' : List Int, ∃ x' : Int, (i_bag_list_d_JJ0 b out' x') ∧ (i_bag_list_d_mJ0 b out' x' < i_bag_list_d_mJ0 b out x) ∧ (b = b) ∧ ((out.length + 1) = out'.length) ∧ ((x + 1) = x') ∧ ((out ++ [x]) = out'))) ∧ ((b.toNat.testBit x.toNat) = false → (-9223372036854775808 ≤ (x + 1) ∧ (x + 1) ≤ 9223372036854775807) ∧ (∃ out' : List Int, ∃ x' : Int, (i_bag_list_d_JJ0 b out' x') ∧ (i_bag_list_d_mJ0 b out' x' < i_bag_list_d_mJ0 b out x) ∧ (b = b) ∧ (out.length = out'.length) ∧ ((x + 1) = x') ∧ (out = out'))))) ∧ ((decide ((b / 2 ^ x.toNat) > 0)) = false → ((out.length = out.length) ∧ ((out : List Int) = (members (fun k => b.toNat.testBit k) 62)))))))
theorem i_bag_list_d_vc (b : Int) (hb : 0 ≤ b ∧ b ≤ 4611686018427387903)  : i_bag_list_d_P b := by
  unfold i_bag_list_d_P
  refine ⟨?_, ?_⟩
  · refine ⟨([]), 0, ?_⟩
    refine ⟨?_, rfl, rfl, rfl, ?_⟩
    · refine ⟨?_, ?_, ?_⟩
      · first | omega | rfl | (intro hg; simp only [nrmT] at hg; omega) | (intro g1 g2; simp [g1, g2]; done) | (intro g1; simp at g1 ⊢; simp [g1]; done) | (simp only [nrmT] at *; omega) | (simp at * <;> omega) | (simp_all <;> omega) | (simp_all; done)
      · first | omega | rfl | (intro hg; simp only [nrmT] at hg; omega) | (intro g1 g2; simp [g1, g2]; done) | (intro g1; simp at g1 ⊢; simp [g1]; done) | (simp only [nrmT] at *; omega) | (simp at * <;> omega) | (simp_all <;> omega) | (simp_all; done)
      · first | omega | rfl | (intro hg; simp only [nrmT] at hg; omega) | (intro g1 g2; simp [g1, g2]; done) | (intro g1; simp at g1 ⊢; simp [g1]; done) | (simp only [nrmT] at *; omega) | (simp at * <;> omega) | (simp_all <;> omega) | (simp_all; done)
    · first | omega | rfl | (intro hg; simp only [nrmT] at hg; omega) | (intro g1 g2; simp [g1, g2]; done) | (intro g1; simp at g1 ⊢; simp [g1]; done) | (simp only [nrmT] at *; omega) | (simp at * <;> omega) | (simp_all <;> omega) | (simp_all; done)
  · intro out x hJ
    obtain ⟨h1, h2, h3⟩ := hJ
    refine ⟨?_, ?_, ?_, ?_⟩
    · first | omega | rfl | (intro hg; simp only [nrmT] at hg; omega) | (intro g1 g2; simp [g1, g2]; done) | (intro g1; simp at g1 ⊢; simp [g1]; done) | (simp only [nrmT] at *; omega) | (simp at * <;> omega) | (simp_all <;> omega) | (simp_all; done)
    · first | omega | rfl | (intro hg; simp only [nrmT] at hg; omega) | (intro g1 g2; simp [g1, g2]; done) | (intro g1; simp at g1 ⊢; simp [g1]; done) | (simp only [nrmT] at *; omega) | (simp at * <;> omega) | (simp_all <;> omega) | (simp_all; done)
    · intro b1
      try simp only [nrmT] at b1
      refine ⟨?_, ?_, ?_⟩
      · refine i_bag_has_pc b x ?_ ?_
        · first | omega | rfl | (intro hg; simp only [nrmT] at hg; omega) | (intro g1 g2; simp [g1, g2]; done) | (intro g1; simp at g1 ⊢; simp [g1]; done) | (simp only [nrmT] at *; omega) | (simp at * <;> omega) | (simp_all <;> omega) | (simp_all; done)
        · first | omega | rfl | (intro hg; simp only [nrmT] at hg; omega) | (intro g1 g2; simp [g1, g2]; done) | (intro g1; simp at g1 ⊢; simp [g1]; done) | (simp only [nrmT] at *; omega) | (simp at * <;> omega) | (simp_all <;> omega) | (simp_all; done)
      · intro b2
        try simp only [nrmT] at b2
        refine ⟨rfl, rfl, ?_, ?_, ?_⟩
        · rw [h3]; have := members_len_le (fun k => b.toNat.testBit k) x.toNat; omega
        · first | omega | rfl | (intro hg; simp only [nrmT] at hg; omega) | (intro g1 g2; simp [g1, g2]; done) | (intro g1; simp at g1 ⊢; simp [g1]; done) | (simp only [nrmT] at *; omega) | (simp at * <;> omega) | (simp_all <;> omega) | (simp_all; done)
        · refine ⟨(out ++ [x]), (x + 1), ?_⟩
          refine ⟨?_, ?_, rfl, ?_, rfl, rfl⟩
          · refine ⟨?_, ?_, ?_⟩
            · first | omega | rfl | (intro hg; simp only [nrmT] at hg; omega) | (intro g1 g2; simp [g1, g2]; done) | (intro g1; simp at g1 ⊢; simp [g1]; done) | (simp only [nrmT] at *; omega) | (simp at * <;> omega) | (simp_all <;> omega) | (simp_all; done)
            · have := lt62 hb h2 b1; omega
            · rw [h3, show (x + 1).toNat = x.toNat + 1 by omega, members_succ, b2]; simp; try omega
          · have := lt62 hb h2 b1
            first | (show _ < _; omega) | (simp only [i_bag_list_d_mJ0]; omega) | (simp only [i_bag_list_d_mJ0] at *; simp at *; omega)
          · first | omega | rfl | (intro hg; simp only [nrmT] at hg; omega) | (intro g1 g2; simp [g1, g2]; done) | (intro g1; simp at g1 ⊢; simp [g1]; done) | (simp only [nrmT] at *; omega) | (simp at * <;> omega) | (simp_all <;> omega) | (simp_all; done)
      · intro b3
        try simp only [nrmT] at b3
        refine ⟨?_, ?_⟩
        · first | omega | rfl | (intro hg; simp only [nrmT] at hg; omega) | (intro g1 g2; simp [g1, g2]; done) | (intro g1; simp at g1 ⊢; simp [g1]; done) | (simp only [nrmT] at *; omega) | (simp at * <;> omega) | (simp_all <;> omega) | (simp_all; done)
        · refine ⟨out, (x + 1), ?_⟩
          refine ⟨?_, ?_, rfl, rfl, rfl, rfl⟩
          · refine ⟨?_, ?_, ?_⟩
            · first | omega | rfl | (intro hg; simp only [nrmT] at hg; omega) | (intro g1 g2; simp [g1, g2]; done) | (intro g1; simp at g1 ⊢; simp [g1]; done) | (simp only [nrmT] at *; omega) | (simp at * <;> omega) | (simp_all <;> omega) | (simp_all; done)
            · have := lt62 hb h2 b1; omega
            · rw [h3, show (x + 1).toNat = x.toNat + 1 by omega, members_succ, b3]; simp; try omega
          · have := lt62 hb h2 b1
            first | (show _ < _; omega) | (simp only [i_bag_list_d_mJ0]; omega) | (simp only [i_bag_list_d_mJ0] at *; simp at *; omega)
    · intro b4
      try simp only [nrmT] at b4
      refine ⟨rfl, ?_⟩
      · rw [h3]; refine (members_stop (fun k hk => bit_out hb.1 (m := x.toNat) (by omega) k hk) 62 (by omega)).symm
theorem i_bag_list_d_pc (b : Int) (hb : 0 ≤ b ∧ b ≤ 4611686018427387903) : PC Try.prog 188 [.int .u64 b] (.one (.d (.sl (.ints (members (fun k => b.toNat.testBit k) 62))))) :=
  pc_wf @Try.call188 fun _ => pc_by (by kernel_rfl) Try.func188 @Try.call188 (by kernel_rfl) i_bag_list_d_C (i_bag_list_d_A b) (by kernel_rfl) (i_bag_list_d_vc b hb) (by kernel_rfl)
abbrev i_sets_JJ0 (n : Int) (out : List (List Int)) (b : Int) : Prop := (1 ≤ b) ∧ (b ≤ ((2 ^ n.toNat : Nat) : Int)) ∧ (out = preS n.toNat (b.toNat - 1))
abbrev i_sets_mJ0 (n : Int) (out : List (List Int)) (b : Int) : Nat := (((2 ^ n.toNat : Nat) : Int) - b).toNat
abbrev i_sets_JA0 (n : Int) (out2 : List (List Int)) : Prop := (out2 = preS n.toNat (2 ^ n.toNat - 1))
def i_sets_C (f : FuncId) (ds : List D) : Orc := .no
def i_sets_A (n : Int) : Ann := .two (.none) (.two (.none) (.cut (.two (.none) (.loop (cut2 (fun (out : List (List Int)) (b : Int) => i_sets_JJ0 n out b) (fun (out : List (List Int)) (b : Int) => [(0, .d false (.int .i64 n)), (3, .own 1000000 out.length), (4, .d true (.int .u64 b))]) (fun (out : List (List Int)) (b : Int) => [(1000000, .arr true 26 (.rows out))])) (fun g => i_sets_mJ0 n g.1 g.2) (fun g => (fun (out : List (List Int)) (b : Int) => .two (.none) (.two (.reg [(2, .call none (.one (.d (.sl (.ints (members (fun k => b.toNat.testBit k) 62))))))]) (.none))) (g.1) (g.2)))) (cut1 (fun (out2 : List (List Int)) => i_sets_JA0 n out2) (fun (out2 : List (List Int)) => [(3, .own 1000050 out2.length)]) (fun (out2 : List (List Int)) => [(1000050, .arr true 26 (.rows out2))])) (fun g => (fun (out2 : List (List Int)) => .two (.mark [] [(1, .up (.rows (out2.mergeSort (fun x9 y9 => !(ltOf cmpS) y9 x9))) false)]) (.none)) g)))
def i_sets_P (n : Int) : Prop :=
  ((((∃ out' : List (List Int), ∃ b' : Int, (i_sets_JJ0 n out' b') ∧ (n = n) ∧ ((0 : Nat) = out'.length) ∧ ((1 : Int) = b') ∧ ([] = out')) ∧ (∀ out : List (List Int), ∀ b : Int, (i_sets_JJ0 n out b) → ((0 : Int) ≤ 1) ∧ ((0 : Int) ≤ n) ∧ ((0 : Int) ≤ ((1 : Int) * 2 ^ n.toNat) ∧ (((1 : Int) * 2 ^ n.toNat) : Int) ≤ 18446744073709551615) ∧ (((decide (b < ((1 : Int) * 2 ^ n.toNat))) = true → (PC Try.prog 188 [.int .u64 b] (.one (.d (.sl (.ints (members (fun k => b.toNat.testBit k) 62)))))) ∧ (out.length = out.length) ∧ ((1 : Nat) = 1) ∧ ((out.length + 1) * 24 ≤ 140737488355328) ∧ (0 ≤ (b + 1) ∧ (b + 1) ≤ 18446744073709551615) ∧ (∃ out' : List (List Int), ∃ b' : Int, (i_sets_JJ0 n out' b') ∧ (i_sets_mJ0 n out' b' < i_sets_mJ0 n out b) ∧ (n = n) ∧ ((out.length + 1) = out'.length) ∧ ((b + 1) = b') ∧ ((out ++ [(members (fun k => b.toNat.testBit k) 62)]) = out'))) ∧ ((decide (b < ((1 : Int) * 2 ^ n.toNat))) = false → (∃ out2' : List (List Int), (i_sets_JA0 n out2') ∧ (out.length = out2'.length) ∧ (out = out2'))))))) ∧ (∀ out2 : List (List Int), (i_sets_JA0 n out2) → (out2.length = out2.length) ∧ (PU Try.prog 207 26 (.rows out2) (.rows (out2.mergeSort (fun x9 y9 => !(ltOf cmpS) y9 x9))) [.fn 208 0 []] false) ∧ ((out2.length = (out2.mergeSort (fun x9 y9 => !(ltOf cmpS) y9 x9)).length) ∧ (((out2.mergeSort (fun x9 y9 => !(ltOf cmpS) y9 x9)) : List (List Int)) = setsL n.toNat))))
theorem i_sets_vc (n : Int) (hn : 0 ≤ n ∧ n ≤ 8)  : i_sets_P n := by
  unfold i_sets_P
  have p7 := pow8 (n := n.toNat) (by omega)
  have pp := Nat.two_pow_pos n.toNat
  have e0 := one_shl n.toNat
  have e1 : ((2 : Int) ^ n.toNat) = ((2 ^ n.toNat : Nat) : Int) := by simp
  refine ⟨?_, ?_⟩
  · refine ⟨?_, ?_⟩
    · refine ⟨([]), 1, ?_⟩
      refine ⟨?_, rfl, rfl, rfl, ?_⟩
      · refine ⟨?_, ?_, ?_⟩
        · first | omega | rfl | (intro hg; simp only [nrmT] at hg; omega) | (intro g1 g2; simp [g1, g2]; done) | (intro g1; simp at g1 ⊢; simp [g1]; done) | (simp only [nrmT] at *; omega) | (simp at * <;> omega) | (simp_all <;> omega) | (simp_all; done)
        · generalize 2 ^ n.toNat = M at *
          omega
        · rfl
      · first | omega | rfl | (intro hg; simp only [nrmT] at hg; omega) | (intro g1 g2; simp [g1, g2]; done) | (intro g1; simp at g1 ⊢; simp [g1]; done) | (simp only [nrmT] at *; omega) | (simp at * <;> omega) | (simp_all <;> omega) | (simp_all; done)
    · intro out b hJ
      obtain ⟨h1, h2, h3⟩ := hJ
      refine ⟨?_, ?_, ?_, ?_, ?_⟩
      · first | omega | rfl | (intro hg; simp only [nrmT] at hg; omega) | (intro g1 g2; simp [g1, g2]; done) | (intro g1; simp at g1 ⊢; simp [g1]; done) | (simp only [nrmT] at *; omega) | (simp at * <;> omega) | (simp_all <;> omega) | (simp_all; done)
      · first | omega | rfl | (intro hg; simp only [nrmT] at hg; omega) | (intro g1 g2; simp [g1, g2]; done) | (intro g1; simp at g1 ⊢; simp [g1]; done) | (simp only [nrmT] at *; omega) | (simp at * <;> omega) | (simp_all <;> omega) | (simp_all; done)
      · rw [Int.one_mul, e1]
        generalize 2 ^ n.toNat = M at *
        omega
      · intro b1
        try simp only [nrmT] at b1
        refine ⟨?_, rfl, rfl, ?_, ?_, ?_⟩
        · refine i_bag_list_d_pc b ?_
          · rw [Int.one_mul, e1] at b1
            generalize 2 ^ n.toNat = M at *
            omega
        · rw [Int.one_mul, e1] at b1
          rw [h3, preS_len]
          generalize 2 ^ n.toNat = M at *
          omega
        · rw [Int.one_mul, e1] at b1
          generalize 2 ^ n.toNat = M at *
          omega
        · refine ⟨(out ++ [(members (fun k => b.toNat.testBit k) 62)]), (b + 1), ?_⟩
          refine ⟨?_, ?_, rfl, ?_, rfl, rfl⟩
          · refine ⟨?_, ?_, ?_⟩
            · first | omega | rfl | (intro hg; simp only [nrmT] at hg; omega) | (intro g1 g2; simp [g1, g2]; done) | (intro g1; simp at g1 ⊢; simp [g1]; done) | (simp only [nrmT] at *; omega) | (simp at * <;> omega) | (simp_all <;> omega) | (simp_all; done)
            · rw [Int.one_mul, e1] at b1
              generalize 2 ^ n.toNat = M at *
              omega
            · rw [Int.one_mul, e1] at b1
              have hb : b.toNat < 2 ^ n.toNat := by
                generalize 2 ^ n.toNat = M at *
                omega
              rw [h3, show (b + 1).toNat - 1 = (b.toNat - 1) + 1 by omega, preS_succ, show b.toNat - 1 + 1 = b.toNat by omega, list62 (n := n.toNat) (by omega) hb]
          · rw [Int.one_mul, e1] at b1
            first | (show _ < _; omega) | (simp only [i_sets_mJ0]; omega) | (simp only [i_sets_mJ0] at *; simp at *; omega)
          · first | omega | rfl | (intro hg; simp only [nrmT] at hg; omega) | (intro g1 g2; simp [g1, g2]; done) | (intro g1; simp at g1 ⊢; simp [g1]; done) | (simp only [nrmT] at *; omega) | (simp at * <;> omega) | (simp_all <;> omega) | (simp_all; done)
      · intro b2
        try simp only [nrmT] at b2
        refine ⟨out, ?_⟩
        refine ⟨?_, rfl, rfl⟩
        · unfold i_sets_JA0
          rw [Int.one_mul, e1] at b2
          have hm : b.toNat - 1 = 2 ^ n.toNat - 1 := by
            generalize 2 ^ n.toNat = M at *
            omega
          rw [h3, hm]
  · intro out2 hJ
    have h8 := hJ
    refine ⟨rfl, ?_, ?_, ?_⟩
    · refine slices_SortFunc_int_int_rows_pu out2 ?_
      · rw [h8, preS_len]
        generalize 2 ^ n.toNat = M at *
        omega
    · simp
    · rw [h8]; rfl
theorem i_sets_pc (n : Int) (hn : 0 ≤ n ∧ n ≤ 8) : PC Try.prog 134 [.int .i64 n] (.one (.own 26 (.rows (setsL n.toNat)))) :=
  pc_wf @Try.call134 fun _ => pc_by (by kernel_rfl) Try.func134 @Try.call134 (by kernel_rfl) i_sets_C (i_sets_A n) (by kernel_rfl) (i_sets_vc n hn) (by kernel_rfl)
def i_sets_orc : List D → Orc := orcN [none] fun ds => match ds with
  | [.int .i64 n] => some (.one (.own 26 (.rows (setsL n.toNat))))
  | _ => none
def putFl (l : List Int) (xs : List Int) : List Int := xs.foldl putL l
theorem putFl_len : ∀ (xs l : List Int), (putFl l xs).length ≤ l.length + xs.length
  | [], _ => Nat.le_refl _
  | y :: r, l => by
    have h1 := putFl_len r (putL l y)
    have h2 := putL_len l y
    show (putFl (putL l y) r).length ≤ _
    simp only [List.length_cons]
    omega
theorem putFl_snoc (l xs : List Int) (y : Int) : putFl l (xs ++ [y]) = putL (putFl l xs) y := by simp [putFl]
def lnsD (Dist : List (List Int)) : List Int := putFl [] Dist.flatten
theorem flat_len {Dist : List (List Int)} {m : Nat} (h : ∀ l ∈ Dist, l.length ≤ m) : Dist.flatten.length ≤ Dist.length * m := by
  induction Dist with
  | nil => simp
  | cons x r ih =>
    have h1 := h x (by simp)
    have h2 := ih fun l hl => h l (by simp [hl])
    simp only [List.flatten_cons, List.length_append, List.length_cons, Nat.succ_mul]
    omega
theorem flat_step {xss : List (List Int)} {i : Int} (h0 : 0 ≤ i) (h : i < (xss.length : Int)) : (xss.take (i + 1).toNat).flatten = (xss.take i.toNat).flatten ++ xss.getD i.toNat [] := by
  rw [take_step (d := []) h0 h, List.flatten_append]
  simp
theorem gf_mem {Open : List Int} {Dist : List (List Int)} (h : goodField Open Dist = true) : ∀ l ∈ Dist, l.length = Open.length := fun l hl => by
  obtain ⟨k, hk, rfl⟩ := List.mem_iff_getElem.1 hl
  have h1 := (gf_row h hk).1
  rwa [getD_get hk] at h1
abbrev s_l5Lengths_JJ0 (Open : List Int) (Dist : List (List Int)) (out : List Int) (j : Int) : Prop := (0 ≤ j) ∧ (j ≤ (Dist.length : Int)) ∧ (out = putFl [] (Dist.take j.toNat).flatten)
abbrev s_l5Lengths_mJ0 (Open : List Int) (Dist : List (List Int)) (out : List Int) (j : Int) : Nat := (Dist.length - j).toNat
abbrev s_l5Lengths_JJ1 (Open : List Int) (Dist : List (List Int)) (out : List Int) (j : Int) (out2 : List Int) (a : Int) : Prop := (0 ≤ a) ∧ (a ≤ ((Dist.getD j.toNat []).length : Int)) ∧ (out2 = putFl [] ((Dist.take j.toNat).flatten ++ (Dist.getD j.toNat []).take a.toNat))
abbrev s_l5Lengths_mJ1 (Open : List Int) (Dist : List (List Int)) (out : List Int) (j : Int) (out2 : List Int) (a : Int) : Nat := ((Dist.getD j.toNat []).length - a).toNat
def s_l5Lengths_C (f : FuncId) (ds : List D) : Orc := bif Nat.beq f 202 then s_l1Put_orc ds else .no
def s_l5Lengths_A (Open : List Int) (Dist : List (List Int)) : Ann := .two (.none) (.two (.reg [(0, .frz)]) (.two (.two (.none) (.loop (cut2 (fun (out : List Int) (j : Int) => s_l5Lengths_JJ0 Open Dist out j) (fun (out : List Int) (j : Int) => [(1, .ptr 1 0), (3, .d true (.sl (.ints out))), (4, .d true (.int .i64 j))]) (fun (out : List Int) (j : Int) => [(1, .box 39 [.d false (.sl (.ints Open)), .d false (.sl (.rows Dist))])])) (fun g => s_l5Lengths_mJ0 Open Dist g.1 g.2) (fun g => (fun (out : List Int) (j : Int) => .two (.none) (.two (.two (.none) (.loop (cut2 (fun (out2 : List Int) (a : Int) => s_l5Lengths_JJ1 Open Dist out j out2 a) (fun (out2 : List Int) (a : Int) => [(1, .ptr 1 0), (3, .d true (.sl (.ints out2))), (4, .d true (.int .i64 j)), (5, .d true (.int .i64 a))]) (fun (out2 : List Int) (a : Int) => [(1, .box 39 [.d false (.sl (.ints Open)), .d false (.sl (.rows Dist))])])) (fun g => s_l5Lengths_mJ1 Open Dist out j g.1 g.2) (fun _ => .none))) (.none))) (g.1) (g.2)))) (.none)))
def s_l5Lengths_P (Open : List Int) (Dist : List (List Int)) : Prop :=
  ((∃ out' : List Int, ∃ j' : Int, (s_l5Lengths_JJ0 Open Dist out' j') ∧ ([] = out') ∧ ((0 : Int) = j') ∧ (Open = Open) ∧ (Dist = Dist)) ∧ (∀ out : List Int, ∀ j : Int, (s_l5Lengths_JJ0 Open Dist out j) → (((decide (j < (Dist.length : Int))) = true → ((∃ out2' : List Int, ∃ a' : Int, (s_l5Lengths_JJ1 Open Dist out j out2' a') ∧ (out = out2') ∧ (j = j) ∧ ((0 : Int) = a') ∧ (Open = Open) ∧ (Dist = Dist)) ∧ (∀ out2 : List Int, ∀ a : Int, (s_l5Lengths_JJ1 Open Dist out j out2 a) → ((0 : Int) ≤ j) ∧ ((j : Int) < Dist.length) ∧ (j.toNat < Dist.length) ∧ (((decide (a < (((Dist.getD j.toNat []).length) : Int))) = true → ((0 : Int) ≤ j) ∧ ((j : Int) < Dist.length) ∧ (j.toNat < Dist.length) ∧ ((0 : Int) ≤ a) ∧ ((a : Int) < (Dist.getD j.toNat []).length) ∧ (a.toNat < (Dist.getD j.toNat []).length) ∧ (PCs Try.prog 202 [.sl (.ints out2), .int .i64 ((Dist.getD j.toNat []).getD a.toNat 0)] 0 (.sl (.ints (putL out2 ((Dist.getD j.toNat []).getD a.toNat 0))))) ∧ (-9223372036854775808 ≤ (a + 1) ∧ (a + 1) ≤ 9223372036854775807) ∧ (∃ out2' : List Int, ∃ a' : Int, (s_l5Lengths_JJ1 Open Dist out j out2' a') ∧ (s_l5Lengths_mJ1 Open Dist out j out2' a' < s_l5Lengths_mJ1 Open Dist out j out2 a) ∧ ((putL out2 ((Dist.getD j.toNat []).getD a.toNat 0)) = out2') ∧ (j = j) ∧ ((a + 1) = a') ∧ (Open = Open) ∧ (Dist = Dist))) ∧ ((decide (a < (((Dist.getD j.toNat []).length) : Int))) = false → (-9223372036854775808 ≤ (j + 1) ∧ (j + 1) ≤ 9223372036854775807) ∧ (∃ out' : List Int, ∃ j' : Int, (s_l5Lengths_JJ0 Open Dist out' j') ∧ (s_l5Lengths_mJ0 Open Dist out' j' < s_l5Lengths_mJ0 Open Dist out j) ∧ (out2 = out') ∧ ((j + 1) = j') ∧ (Open = Open) ∧ (Dist = Dist))))))) ∧ ((decide (j < (Dist.length : Int))) = false → (((out : List Int) = (lnsD Dist)))))))
theorem s_l5Lengths_vc (Open : List Int) (Dist : List (List Int)) (hg : goodField Open Dist = true) (w_Open : (Open.length : Int) ≤ 9223372036854775807) (w_Dist : (Dist.length : Int) ≤ 9223372036854775807) (v_Dist : ∀ x9 ∈ Dist, (x9.length : Int) ≤ 9223372036854775807) : s_l5Lengths_P Open Dist := by
  unfold s_l5Lengths_P
  obtain ⟨g1, g2, g3⟩ := gf_open hg
  refine ⟨?_, ?_⟩
  · refine ⟨([]), 0, ?_⟩
    refine ⟨?_, ?_, rfl, rfl, rfl⟩
    · refine ⟨?_, ?_, ?_⟩
      · first | omega | rfl | (intro hg; simp only [nrmT] at hg; omega) | (intro g1 g2; simp [g1, g2]; done) | (intro g1; simp at g1 ⊢; simp [g1]; done) | (simp only [nrmT] at *; omega) | (simp at * <;> omega) | (simp_all <;> omega) | (simp_all; done)
      · first | omega | rfl | (intro hg; simp only [nrmT] at hg; omega) | (intro g1 g2; simp [g1, g2]; done) | (intro g1; simp at g1 ⊢; simp [g1]; done) | (simp only [nrmT] at *; omega) | (simp at * <;> omega) | (simp_all <;> omega) | (simp_all; done)
      · first | omega | rfl | (intro hg; simp only [nrmT] at hg; omega) | (intro g1 g2; simp [g1, g2]; done) | (intro g1; simp at g1 ⊢; simp [g1]; done) | (simp only [nrmT] at *; omega) | (simp at * <;> omega) | (simp_all <;> omega) | (simp_all; done)
    · first | omega | rfl | (intro hg; simp only [nrmT] at hg; omega) | (intro g1 g2; simp [g1, g2]; done) | (intro g1; simp at g1 ⊢; simp [g1]; done) | (simp only [nrmT] at *; omega) | (simp at * <;> omega) | (simp_all <;> omega) | (simp_all; done)
  · intro out j hJ
    obtain ⟨h1, h2, h3⟩ := hJ
    refine ⟨?_, ?_⟩
    · intro b1
      try simp only [nrmT] at b1
      refine ⟨?_, ?_⟩
      · refine ⟨out, 0, ?_⟩
        refine ⟨?_, rfl, rfl, rfl, rfl, rfl⟩
        · refine ⟨?_, ?_, ?_⟩
          · first | omega | rfl | (intro hg; simp only [nrmT] at hg; omega) | (intro g1 g2; simp [g1, g2]; done) | (intro g1; simp at g1 ⊢; simp [g1]; done) | (simp only [nrmT] at *; omega) | (simp at * <;> omega) | (simp_all <;> omega) | (simp_all; done)
          · first | omega | rfl | (intro hg; simp only [nrmT] at hg; omega) | (intro g1 g2; simp [g1, g2]; done) | (intro g1; simp at g1 ⊢; simp [g1]; done) | (simp only [nrmT] at *; omega) | (simp at * <;> omega) | (simp_all <;> omega) | (simp_all; done)
          · rw [h3]; simp
      · intro out2 a hJ
        obtain ⟨h5, h6, h7⟩ := hJ
        refine ⟨?_, ?_, ?_, ?_, ?_⟩
        · first | omega | rfl | (intro hg; simp only [nrmT] at hg; omega) | (intro g1 g2; simp [g1, g2]; done) | (intro g1; simp at g1 ⊢; simp [g1]; done) | (simp only [nrmT] at *; omega) | (simp at * <;> omega) | (simp_all <;> omega) | (simp_all; done)
        · first | omega | rfl | (intro hg; simp only [nrmT] at hg; omega) | (intro g1 g2; simp [g1, g2]; done) | (intro g1; simp at g1 ⊢; simp [g1]; done) | (simp only [nrmT] at *; omega) | (simp at * <;> omega) | (simp_all <;> omega) | (simp_all; done)
        · first | omega | rfl | (intro hg; simp only [nrmT] at hg; omega) | (intro g1 g2; simp [g1, g2]; done) | (intro g1; simp at g1 ⊢; simp [g1]; done) | (simp only [nrmT] at *; omega) | (simp at * <;> omega) | (simp_all <;> omega) | (simp_all; done)
        · intro b2
          try simp only [nrmT] at b2
          refine ⟨?_, ?_, ?_, ?_, ?_, ?_, ?_, ?_, ?_⟩
          · first | omega | rfl | (intro hg; simp only [nrmT] at hg; omega) | (intro g1 g2; simp [g1, g2]; done) | (intro g1; simp at g1 ⊢; simp [g1]; done) | (simp only [nrmT] at *; omega) | (simp at * <;> omega) | (simp_all <;> omega) | (simp_all; done)
          · first | omega | rfl | (intro hg; simp only [nrmT] at hg; omega) | (intro g1 g2; simp [g1, g2]; done) | (intro g1; simp at g1 ⊢; simp [g1]; done) | (simp only [nrmT] at *; omega) | (simp at * <;> omega) | (simp_all <;> omega) | (simp_all; done)
          · first | omega | rfl | (intro hg; simp only [nrmT] at hg; omega) | (intro g1 g2; simp [g1, g2]; done) | (intro g1; simp at g1 ⊢; simp [g1]; done) | (simp only [nrmT] at *; omega) | (simp at * <;> omega) | (simp_all <;> omega) | (simp_all; done)
          · first | omega | rfl | (intro hg; simp only [nrmT] at hg; omega) | (intro g1 g2; simp [g1, g2]; done) | (intro g1; simp at g1 ⊢; simp [g1]; done) | (simp only [nrmT] at *; omega) | (simp at * <;> omega) | (simp_all <;> omega) | (simp_all; done)
          · first | omega | rfl | (intro hg; simp only [nrmT] at hg; omega) | (intro g1 g2; simp [g1, g2]; done) | (intro g1; simp at g1 ⊢; simp [g1]; done) | (simp only [nrmT] at *; omega) | (simp at * <;> omega) | (simp_all <;> omega) | (simp_all; done)
          · first | omega | rfl | (intro hg; simp only [nrmT] at hg; omega) | (intro g1 g2; simp [g1, g2]; done) | (intro g1; simp at g1 ⊢; simp [g1]; done) | (simp only [nrmT] at *; omega) | (simp at * <;> omega) | (simp_all <;> omega) | (simp_all; done)
          · refine s_l1Put_pc out2 ((Dist.getD j.toNat []).getD a.toNat 0) ?_
            · have rl := (gf_row hg (i := j.toNat) (by omega)).1
              have hb := flat_len (Dist := Dist.take j.toNat) (m := 7) (fun l hl => by rw [gf_mem hg l (List.mem_of_mem_take hl)]; exact g2)
              have hb2 : (Dist.take j.toNat).length ≤ 7 := by rw [List.length_take]; omega
              have hb3 := putFl_len ((Dist.take j.toNat).flatten ++ (Dist.getD j.toNat []).take a.toNat) []
              rw [← h7, List.length_append, List.length_take] at hb3
              simp only [List.length_nil] at hb3
              omega
          · have rl := (gf_row hg (i := j.toNat) (by omega)).1
            omega
          · refine ⟨(putL out2 ((Dist.getD j.toNat []).getD a.toNat 0)), (a + 1), ?_⟩
            refine ⟨?_, ?_, rfl, rfl, rfl, rfl, rfl⟩
            · refine ⟨?_, ?_, ?_⟩
              · first | omega | rfl | (intro hg; simp only [nrmT] at hg; omega) | (intro g1 g2; simp [g1, g2]; done) | (intro g1; simp at g1 ⊢; simp [g1]; done) | (simp only [nrmT] at *; omega) | (simp at * <;> omega) | (simp_all <;> omega) | (simp_all; done)
              · first | omega | rfl | (intro hg; simp only [nrmT] at hg; omega) | (intro g1 g2; simp [g1, g2]; done) | (intro g1; simp at g1 ⊢; simp [g1]; done) | (simp only [nrmT] at *; omega) | (simp at * <;> omega) | (simp_all <;> omega) | (simp_all; done)
              · rw [take_step (d := 0) h5 (by omega), ← List.append_assoc, putFl_snoc, h7]
            · first | (show _ < _; omega) | (simp only [s_l5Lengths_mJ1]; omega) | (simp only [s_l5Lengths_mJ1] at *; simp at *; omega)
        · intro b3
          try simp only [nrmT] at b3
          refine ⟨?_, ?_⟩
          · first | omega | rfl | (intro hg; simp only [nrmT] at hg; omega) | (intro g1 g2; simp [g1, g2]; done) | (intro g1; simp at g1 ⊢; simp [g1]; done) | (simp only [nrmT] at *; omega) | (simp at * <;> omega) | (simp_all <;> omega) | (simp_all; done)
          · refine ⟨out2, (j + 1), ?_⟩
            refine ⟨?_, ?_, rfl, rfl, rfl, rfl⟩
            · refine ⟨?_, ?_, ?_⟩
              · first | omega | rfl | (intro hg; simp only [nrmT] at hg; omega) | (intro g1 g2; simp [g1, g2]; done) | (intro g1; simp at g1 ⊢; simp [g1]; done) | (simp only [nrmT] at *; omega) | (simp at * <;> omega) | (simp_all <;> omega) | (simp_all; done)
              · first | omega | rfl | (intro hg; simp only [nrmT] at hg; omega) | (intro g1 g2; simp [g1, g2]; done) | (intro g1; simp at g1 ⊢; simp [g1]; done) | (simp only [nrmT] at *; omega) | (simp at * <;> omega) | (simp_all <;> omega) | (simp_all; done)
              · rw [flat_step h1 (by omega), h7, take_all (xs := Dist.getD j.toNat []) (by omega)]
            · first | (show _ < _; omega) | (simp only [s_l5Lengths_mJ0]; omega) | (simp only [s_l5Lengths_mJ0] at *; simp at *; omega)
    · intro b4
      try simp only [nrmT] at b4
      rw [h3, take_all (by omega)]; rfl
theorem s_l5Lengths_pc (Open : List Int) (Dist : List (List Int)) (hg : goodField Open Dist = true) : PC Try.prog 203 [.agg [.sl (.ints Open), .sl (.rows Dist)]] (.one (.d (.sl (.ints (lnsD Dist))))) :=
  pc_wf @Try.call203 fun hw => pc_by (by kernel_rfl) Try.func203 @Try.call203 (by kernel_rfl) s_l5Lengths_C (s_l5Lengths_A Open Dist) (by kernel_rfl) (s_l5Lengths_vc Open Dist hg hw.1.1 hw.1.2.1.1 hw.1.2.1.2) (by kernel_rfl)
def s_l5Lengths_orc : List D → Orc := orcN [none] fun ds => match ds with
  | [.agg [.sl (.ints Open), .sl (.rows Dist)]] => some (.one (.d (.sl (.ints (lnsD Dist)))))
  | _ => none
theorem rising_of {l : List Int} {lo hi : Int} (ha : Asc l) (hb : ∀ x ∈ l, lo ≤ x ∧ x ≤ hi) : rising l lo hi = true :=
  allTo_iff.2 fun k hk => by
    unfold risingP
    rw [Bool.and_eq_true, Bool.or_eq_true]
    refine ⟨decide_eq_true (hb _ (getD_mem hk)), ?_⟩
    by_cases e : k = 0
    · exact .inl (decide_eq_true e)
    · right
      have := List.pairwise_iff_getElem.1 ha (k - 1) k (by omega) hk (by omega)
      rw [getD_get hk, getD_get (by omega)]
      exact decide_eq_true this
theorem lst_asc {n c : Nat} : Asc (lst n c) := asc_members _ _
theorem set_two {Open : List Int} {Dist : List (List Int)} (hg : goodField Open Dist = true) {s : List Int} (hs : s ∈ setsL (Open.length : Int).toNat) :
    (goodField Open Dist && rising s 0 ((Open.length : Int) - 1) && decide (0 < s.length)) = true ∧ s.length ≤ 7 := by
  obtain ⟨g1, g2, g3⟩ := gf_open hg
  rw [Int.toNat_natCast] at hs
  obtain ⟨c, h1, h2, rfl⟩ := setsL_mem.1 hs
  have hl := lst_len (n := Open.length) (code := c)
  refine ⟨?_, by omega⟩
  rw [hg, rising_of lst_asc (fun x hx => by have := lst_in x hx; omega), decide_eq_true (lst_pos h1 h2)]
  rfl
theorem sets_small {n : Nat} (h : n ≤ 7) : (setsL n).length ≤ 127 := by
  rw [setsL_len]
  have := Nat.pow_le_pow_right (n := 2) (by omega) h
  have e : (2 : Nat) ^ 7 = 128 := by decide
  omega
def maxF (xs : List Int) (b : Int) (k : Nat) : Int := max b (xs.getD k 0)
def maxTo (xs : List Int) (k : Nat) : Int := foldTo (maxF xs) (xs.getD 0 0) k
def maxL (xs : List Int) : Int := maxTo xs xs.length
theorem maxTo_succ (xs : List Int) (k : Nat) : maxTo xs (k + 1) = max (maxTo xs k) (xs.getD k 0) := rfl
theorem maxTo_le (xs : List Int) : ∀ k, 0 < k → (∀ j, j < k → xs.getD j 0 ≤ maxTo xs k) ∧ ∃ j, j < k ∧ maxTo xs k = xs.getD j 0
  | 0, h => by omega
  | k + 1, _ => by
    rw [maxTo_succ]
    by_cases hk : 0 < k
    · obtain ⟨h1, j, h2, h3⟩ := maxTo_le xs k hk
      refine ⟨fun i hi => ?_, ?_⟩
      · by_cases e : i = k
        · subst e; omega
        · have := h1 i (by omega); omega
      · by_cases e : xs.getD k 0 ≤ maxTo xs k
        · exact ⟨j, by omega, by omega⟩
        · exact ⟨k, by omega, by omega⟩
    · have : k = 0 := by omega
      subst this
      have e : maxTo xs 0 = xs.getD 0 0 := rfl
      refine ⟨fun i hi => ?_, 0, by omega, by omega⟩
      have : i = 0 := by omega
      subst this; omega
def rchF (Dist : List (List Int)) (set : List Int) (m : Int) (j : Nat) : Int := max m (lenAt Dist set j)
def rchTo (Dist : List (List Int)) (set : List Int) (k : Nat) : Int := foldTo (rchF Dist set) 0 k
def rchOf (Dist : List (List Int)) (set : List Int) : Int := rchTo Dist set Dist.length
theorem rchTo_succ (Dist : List (List Int)) (set : List Int) (k : Nat) : rchTo Dist set (k + 1) = max (rchTo Dist set k) (lenAt Dist set k) := rfl
theorem rchTo_le (Dist : List (List Int)) (set : List Int) : ∀ k, 0 ≤ rchTo Dist set k ∧ (∀ j, j < k → lenAt Dist set j ≤ rchTo Dist set k) ∧ (rchTo Dist set k = 0 ∨ ∃ j, j < k ∧ rchTo Dist set k = lenAt Dist set j)
  | 0 => ⟨Int.le_refl _, fun j hj => by omega, .inl rfl⟩
  | k + 1 => by
    obtain ⟨h1, h2, h3⟩ := rchTo_le Dist set k
    rw [rchTo_succ]
    refine ⟨by omega, fun j hj => ?_, ?_⟩
    · by_cases e : j = k
      · subst e; omega
      · have := h2 j (by omega); omega
    · by_cases e : lenAt Dist set k ≤ rchTo Dist set k
      · rcases h3 with h3 | ⟨j, h3, h4⟩
        · left; omega
        · right; exact ⟨j, by omega, by omega⟩
      · right; exact ⟨k, by omega, by omega⟩
theorem max_far (Dist : List (List Int)) (set : List Int) : maxL (lensL Dist set Dist.length ++ [0]) = rchOf Dist set := by
  have el : (lensL Dist set Dist.length ++ [0]).length = Dist.length + 1 := by simp [lensL_len]
  have ge : ∀ j, j < Dist.length → (lensL Dist set Dist.length ++ [0]).getD j 0 = lenAt Dist set j := fun j hj => by
    rw [← lensL_getD Dist set Dist.length j hj, List.getD_eq_getElem?_getD, List.getElem?_append_left (by rw [lensL_len]; exact hj), ← List.getD_eq_getElem?_getD]
  have gl : (lensL Dist set Dist.length ++ [0]).getD Dist.length 0 = 0 := by
    rw [List.getD_eq_getElem?_getD, List.getElem?_append_right (by rw [lensL_len]; exact Nat.le_refl _), lensL_len, Nat.sub_self]; rfl
  obtain ⟨h1, j, h2, h3⟩ := maxTo_le (lensL Dist set Dist.length ++ [0]) (Dist.length + 1) (by omega)
  obtain ⟨k1, k2, k3⟩ := rchTo_le Dist set Dist.length
  unfold maxL rchOf
  rw [el]
  have a0 := h1 Dist.length (by omega)
  rw [gl] at a0
  have u : maxTo (lensL Dist set Dist.length ++ [0]) (Dist.length + 1) ≤ rchTo Dist set Dist.length := by
    rw [h3]
    by_cases e : j = Dist.length
    · rw [e, gl]; exact k1
    · rw [ge j (by omega)]; exact k2 j (by omega)
  have l : rchTo Dist set Dist.length ≤ maxTo (lensL Dist set Dist.length ++ [0]) (Dist.length + 1) := by
    rcases k3 with k3 | ⟨i, k3, k4⟩
    · omega
    · have := h1 i (by omega)
      rw [ge i k3] at this
      omega
  omega
def covI (Open : List Int) (Dist : List (List Int)) (r : Int) : Int := idxI (fun s => decide (rchOf Dist s ≤ r)) (setsL (Open.length : Int).toNat)
def covOk (Open : List Int) (Dist : List (List Int)) (r : Int) : Bool := (goodField Open Dist && decide (0 ≤ r)) && decide (0 ≤ covI Open Dist r)
def covSites (Open : List Int) (Dist : List (List Int)) (r : Int) : List Int := if covOk Open Dist r = true then (setsL (Open.length : Int).toNat).getD (covI Open Dist r).toNat [] else []
theorem cov_hit {Open : List Int} {Dist : List (List Int)} {r i : Int} (hg : goodField Open Dist = true) (hr : 0 ≤ r) (h0 : 0 ≤ i) (h : covI Open Dist r = i) : covOk Open Dist r = true ∧ covSites Open Dist r = (setsL (Open.length : Int).toNat).getD i.toNat [] := by
  have e : covOk Open Dist r = true := by rw [covOk, hg, decide_eq_true hr, h, decide_eq_true h0]; rfl
  exact ⟨e, by rw [covSites, if_pos e, h]⟩
theorem cov_miss {Open : List Int} {Dist : List (List Int)} {r : Int} (h : (goodField Open Dist && decide (0 ≤ r)) = false ∨ covI Open Dist r = -1) : covOk Open Dist r = false ∧ covSites Open Dist r = [] := by
  have e : covOk Open Dist r = false := by
    rw [covOk]
    rcases h with h | h
    · rw [h]; rfl
    · rw [h, decide_eq_false (show ¬ (0 : Int) ≤ -1 by omega), Bool.and_false]
  exact ⟨e, by rw [covSites, e]; rfl⟩
abbrev slices_Max_int_int__JJ0 (xs : List Int) (m : Int) (i : Int) : Prop := (1 ≤ i) ∧ (i ≤ (xs.length : Int)) ∧ (m = maxTo xs i.toNat)
abbrev slices_Max_int_int__mJ0 (xs : List Int) (m : Int) (i : Int) : Nat := (xs.length - i).toNat
def slices_Max_int_int__C (f : FuncId) (ds : List D) : Orc := .no
def slices_Max_int_int__A (xs : List Int) : Ann := .two (.none) (.two (.two (.none) (.goF (.none))) (.two (.none) (.two (.two (.none) (.loop (cut2 (fun (m : Int) (i : Int) => slices_Max_int_int__JJ0 xs m i) (fun (m : Int) (i : Int) => [(0, .d false (.sl (.ints xs))), (3, .d true (.int .i64 m)), (4, .d true (.int .i64 i))]) (fun (m : Int) (i : Int) => [])) (fun g => slices_Max_int_int__mJ0 xs g.1 g.2) (fun _ => .none))) (.none))))
def slices_Max_int_int__P (xs : List Int) : Prop :=
  ((decide ((xs.length : Int) < 1)) = false) ∧ ((0 : Int) ≤ 0) ∧ ((0 : Int) < xs.length) ∧ (0 < xs.length) ∧ ((∃ m' : Int, ∃ i' : Int, (slices_Max_int_int__JJ0 xs m' i') ∧ (xs = xs) ∧ ((xs.getD 0 0) = m') ∧ ((1 : Int) = i')) ∧ (∀ m : Int, ∀ i : Int, (slices_Max_int_int__JJ0 xs m i) → (((decide (i < (xs.length : Int))) = true → ((0 : Int) ≤ i) ∧ ((i : Int) < xs.length) ∧ (i.toNat < xs.length) ∧ (-9223372036854775808 ≤ (i + 1) ∧ (i + 1) ≤ 9223372036854775807) ∧ (∃ m' : Int, ∃ i' : Int, (slices_Max_int_int__JJ0 xs m' i') ∧ (slices_Max_int_int__mJ0 xs m' i' < slices_Max_int_int__mJ0 xs m i) ∧ (xs = xs) ∧ ((max m (xs.getD i.toNat 0)) = m') ∧ ((i + 1) = i'))) ∧ ((decide (i < (xs.length : Int))) = false → ((m = (maxL xs)))))))
theorem slices_Max_int_int__vc (xs : List Int) (hp : 0 < xs.length) (w_xs : (xs.length : Int) ≤ 9223372036854775807) : slices_Max_int_int__P xs := by
  unfold slices_Max_int_int__P
  refine ⟨?_, ?_, ?_, ?_, ?_, ?_⟩
  · exact decide_eq_false (by omega)
  · first | omega | rfl | (intro hg; simp only [nrmT] at hg; omega) | (intro g1 g2; simp [g1, g2]; done) | (intro g1; simp at g1 ⊢; simp [g1]; done) | (simp only [nrmT] at *; omega) | (simp at * <;> omega) | (simp_all <;> omega) | (simp_all; done)
  · first | omega | rfl | (intro hg; simp only [nrmT] at hg; omega) | (intro g1 g2; simp [g1, g2]; done) | (intro g1; simp at g1 ⊢; simp [g1]; done) | (simp only [nrmT] at *; omega) | (simp at * <;> omega) | (simp_all <;> omega) | (simp_all; done)
  · first | omega | rfl | (intro hg; simp only [nrmT] at hg; omega) | (intro g1 g2; simp [g1, g2]; done) | (intro g1; simp at g1 ⊢; simp [g1]; done) | (simp only [nrmT] at *; omega) | (simp at * <;> omega) | (simp_all <;> omega) | (simp_all; done)
  · refine ⟨(xs.getD 0 0), 1, ?_⟩
    refine ⟨?_, rfl, rfl, rfl⟩
    · refine ⟨?_, ?_, ?_⟩
      · first | omega | rfl | (intro hg; simp only [nrmT] at hg; omega) | (intro g1 g2; simp [g1, g2]; done) | (intro g1; simp at g1 ⊢; simp [g1]; done) | (simp only [nrmT] at *; omega) | (simp at * <;> omega) | (simp_all <;> omega) | (simp_all; done)
      · first | omega | rfl | (intro hg; simp only [nrmT] at hg; omega) | (intro g1 g2; simp [g1, g2]; done) | (intro g1; simp at g1 ⊢; simp [g1]; done) | (simp only [nrmT] at *; omega) | (simp at * <;> omega) | (simp_all <;> omega) | (simp_all; done)
      · show _ = max (xs.getD 0 0) (xs.getD 0 0)
        omega
  · intro m i hJ
    obtain ⟨h1, h2, h3⟩ := hJ
    refine ⟨?_, ?_⟩
    · intro b1
      try simp only [nrmT] at b1
      refine ⟨?_, ?_, ?_, ?_, ?_⟩
      · first | omega | rfl | (intro hg; simp only [nrmT] at hg; omega) | (intro g1 g2; simp [g1, g2]; done) | (intro g1; simp at g1 ⊢; simp [g1]; done) | (simp only [nrmT] at *; omega) | (simp at * <;> omega) | (simp_all <;> omega) | (simp_all; done)
      · first | omega | rfl | (intro hg; simp only [nrmT] at hg; omega) | (intro g1 g2; simp [g1, g2]; done) | (intro g1; simp at g1 ⊢; simp [g1]; done) | (simp only [nrmT] at *; omega) | (simp at * <;> omega) | (simp_all <;> omega) | (simp_all; done)
      · first | omega | rfl | (intro hg; simp only [nrmT] at hg; omega) | (intro g1 g2; simp [g1, g2]; done) | (intro g1; simp at g1 ⊢; simp [g1]; done) | (simp only [nrmT] at *; omega) | (simp at * <;> omega) | (simp_all <;> omega) | (simp_all; done)
      · first | omega | rfl | (intro hg; simp only [nrmT] at hg; omega) | (intro g1 g2; simp [g1, g2]; done) | (intro g1; simp at g1 ⊢; simp [g1]; done) | (simp only [nrmT] at *; omega) | (simp at * <;> omega) | (simp_all <;> omega) | (simp_all; done)
      · refine ⟨(max m (xs.getD i.toNat 0)), (i + 1), ?_⟩
        refine ⟨?_, ?_, rfl, rfl, rfl⟩
        · refine ⟨?_, ?_, ?_⟩
          · first | omega | rfl | (intro hg; simp only [nrmT] at hg; omega) | (intro g1 g2; simp [g1, g2]; done) | (intro g1; simp at g1 ⊢; simp [g1]; done) | (simp only [nrmT] at *; omega) | (simp at * <;> omega) | (simp_all <;> omega) | (simp_all; done)
          · first | omega | rfl | (intro hg; simp only [nrmT] at hg; omega) | (intro g1 g2; simp [g1, g2]; done) | (intro g1; simp at g1 ⊢; simp [g1]; done) | (simp only [nrmT] at *; omega) | (simp at * <;> omega) | (simp_all <;> omega) | (simp_all; done)
          · rw [h3, show (i + 1).toNat = i.toNat + 1 by omega, maxTo_succ]
        · first | (show _ < _; omega) | (simp only [slices_Max_int_int__mJ0]; omega) | (simp only [slices_Max_int_int__mJ0] at *; simp at *; omega)
    · intro b2
      try simp only [nrmT] at b2
      unfold maxL; rw [h3, show i.toNat = xs.length by omega]
theorem slices_Max_int_int__pc (xs : List Int) (hp : 0 < xs.length) : PC Try.prog 209 [.sl (.ints xs)] (.one (.d (.int .i64 (maxL xs)))) :=
  pc_wf @Try.call209 fun hw => pc_by (by kernel_rfl) Try.func209 @Try.call209 (by kernel_rfl) slices_Max_int_int__C (slices_Max_int_int__A xs) (by kernel_rfl) (slices_Max_int_int__vc xs hp hw.1) (by kernel_rfl)
def slices_Max_int_int__orc : List D → Orc := orcN [some .ints] fun ds => match ds with
  | [.sl (.ints xs)] => some (.one (.d (.int .i64 (maxL xs))))
  | _ => none
def i_Field_reach_C (f : FuncId) (ds : List D) : Orc := bif Nat.beq f 210 then i_Field_lengths_orc ds else bif Nat.beq f 209 then slices_Max_int_int__orc ds else .no
def i_Field_reach_A (Open : List Int) (Dist : List (List Int)) (set : List Int) : Ann := .none
def i_Field_reach_P (Open : List Int) (Dist : List (List Int)) (set : List Int) : Prop :=
  (PC Try.prog 210 [.agg [.sl (.ints Open), .sl (.rows Dist)], .sl (.ints set)] (.one (.own 3 (.ints (lensL Dist set Dist.length))))) ∧ ((lensL Dist set Dist.length).length = (lensL Dist set Dist.length).length) ∧ ((1 : Nat) = 1) ∧ (((lensL Dist set Dist.length).length + 1) * 8 ≤ 140737488355328) ∧ (((lensL Dist set Dist.length).length + 1) = (lensL Dist set Dist.length ++ [0]).length) ∧ (PC Try.prog 209 [.sl (.ints (lensL Dist set Dist.length ++ [0]))] (.one (.d (.int .i64 (maxL (lensL Dist set Dist.length ++ [0])))))) ∧ (((maxL (lensL Dist set Dist.length ++ [0])) = (rchOf Dist set)))
theorem i_Field_reach_vc (Open : List Int) (Dist : List (List Int)) (set : List Int) (ht : (goodField Open Dist && rising set 0 ((Open.length : Int) - 1) && decide (0 < set.length)) = true) (w_Open : (Open.length : Int) ≤ 9223372036854775807) (w_Dist : (Dist.length : Int) ≤ 9223372036854775807) (v_Dist : ∀ x9 ∈ Dist, (x9.length : Int) ≤ 9223372036854775807) (w_set : (set.length : Int) ≤ 9223372036854775807) : i_Field_reach_P Open Dist set := by
  unfold i_Field_reach_P
  obtain ⟨hg, hs, hp⟩ := two_facts ht
  obtain ⟨g1, g2, g3⟩ := gf_open hg
  refine ⟨?_, rfl, rfl, ?_, ?_, ?_, ?_⟩
  · refine i_Field_lengths_pc Open Dist set ?_
    · exact ht
  · rw [lensL_len]; omega
  · first | omega | rfl | (intro hg; simp only [nrmT] at hg; omega) | (intro g1 g2; simp [g1, g2]; done) | (intro g1; simp at g1 ⊢; simp [g1]; done) | (simp only [nrmT] at *; omega) | (simp at * <;> omega) | (simp_all <;> omega) | (simp_all; done)
  · refine slices_Max_int_int__pc (lensL Dist set Dist.length ++ [0]) ?_
    · simp
  · exact max_far Dist set
theorem i_Field_reach_pc (Open : List Int) (Dist : List (List Int)) (set : List Int) (ht : (goodField Open Dist && rising set 0 ((Open.length : Int) - 1) && decide (0 < set.length)) = true) : PC Try.prog 135 [.agg [.sl (.ints Open), .sl (.rows Dist)], .sl (.ints set)] (.one (.d (.int .i64 (rchOf Dist set)))) :=
  pc_wf @Try.call135 fun hw => pc_by (by kernel_rfl) Try.func135 @Try.call135 (by kernel_rfl) i_Field_reach_C (i_Field_reach_A Open Dist set) (by kernel_rfl) (i_Field_reach_vc Open Dist set ht hw.1.1 hw.1.2.1.1 hw.1.2.1.2 hw.2.1) (by kernel_rfl)
def i_Field_reach_orc : List D → Orc := orcN [none, some .ints] fun ds => match ds with
  | [.agg [.sl (.ints Open), .sl (.rows Dist)], .sl (.ints set)] => some (.one (.d (.int .i64 (rchOf Dist set))))
  | _ => none
abbrev i_CoveringSites_JJ0 (Open : List Int) (Dist : List (List Int)) (r : Int) (i : Int) : Prop := (0 ≤ i) ∧ (i ≤ ((setsL (Open.length : Int).toNat).length : Int)) ∧ (∀ k, k < i.toNat → (fun s => decide (rchOf Dist s ≤ r)) ((setsL (Open.length : Int).toNat).getD k []) = false)
abbrev i_CoveringSites_mJ0 (Open : List Int) (Dist : List (List Int)) (r : Int) (i : Int) : Nat := ((setsL (Open.length : Int).toNat).length - i).toNat
def i_CoveringSites_C (f : FuncId) (ds : List D) : Orc := bif Nat.beq f 133 then i_isRadius_orc ds else bif Nat.beq f 134 then i_sets_orc ds else bif Nat.beq f 135 then i_Field_reach_orc ds else .no
def i_CoveringSites_A (Open : List Int) (Dist : List (List Int)) (r : Int) : Ann := .two (.none) (.two (.none) (.two (.two (.none) (.loop (cut1 (fun (i : Int) => i_CoveringSites_JJ0 Open Dist r i) (fun (i : Int) => [(1, .d false (.int .i64 r)), (2, .ptr 2 0), (15, .own 15 ((setsL (Open.length : Int).toNat).length)), (16, .d true (.int .i64 (((setsL (Open.length : Int).toNat).length) : Int))), (17, .d true (.int .i64 i))]) (fun (i : Int) => [(2, .box 39 [.d false (.sl (.ints Open)), .d false (.sl (.rows Dist))]), (15, .arr true 26 (.rows (setsL (Open.length : Int).toNat)))])) (fun g => i_CoveringSites_mJ0 Open Dist r g) (fun _ => .none))) (.none)))
def i_CoveringSites_P (Open : List Int) (Dist : List (List Int)) (r : Int) : Prop :=
  (PC Try.prog 133 [.agg [.sl (.ints Open), .sl (.rows Dist)], .int .i64 r] (.one (.d (.bool (goodField Open Dist && decide (0 ≤ r)))))) ∧ (((!(goodField Open Dist && decide (0 ≤ r))) = true → (((covSites Open Dist r).length = 0) ∧ (false = (covOk Open Dist r)))) ∧ ((!(goodField Open Dist && decide (0 ≤ r))) = false → (PC Try.prog 134 [.int .i64 (Open.length : Int)] (.one (.own 26 (.rows (setsL (Open.length : Int).toNat))))) ∧ ((∃ i' : Int, (i_CoveringSites_JJ0 Open Dist r i') ∧ (r = r) ∧ ((setsL (Open.length : Int).toNat).length = (setsL (Open.length : Int).toNat).length) ∧ ((((setsL (Open.length : Int).toNat).length) : Int) = (((setsL (Open.length : Int).toNat).length) : Int)) ∧ ((0 : Int) = i') ∧ (Open = Open) ∧ (Dist = Dist) ∧ (setsL (Open.length : Int).toNat = setsL (Open.length : Int).toNat)) ∧ (∀ i : Int, (i_CoveringSites_JJ0 Open Dist r i) → (((decide (i < (((setsL (Open.length : Int).toNat).length) : Int))) = true → ((0 : Int) ≤ i) ∧ ((i : Int) < (((setsL (Open.length : Int).toNat).length) : Int)) ∧ (i.toNat < (setsL (Open.length : Int).toNat).length) ∧ (PC Try.prog 135 [.agg [.sl (.ints Open), .sl (.rows Dist)], .sl (.ints ((setsL (Open.length : Int).toNat).getD i.toNat []))] (.one (.d (.int .i64 (rchOf Dist ((setsL (Open.length : Int).toNat).getD i.toNat [])))))) ∧ (((decide ((rchOf Dist ((setsL (Open.length : Int).toNat).getD i.toNat [])) ≤ r)) = true → (((((setsL (Open.length : Int).toNat).getD i.toNat []) : List Int) = (covSites Open Dist r)) ∧ (true = (covOk Open Dist r)))) ∧ ((decide ((rchOf Dist ((setsL (Open.length : Int).toNat).getD i.toNat [])) ≤ r)) = false → (-9223372036854775808 ≤ (i + 1) ∧ (i + 1) ≤ 9223372036854775807) ∧ (∃ i' : Int, (i_CoveringSites_JJ0 Open Dist r i') ∧ (i_CoveringSites_mJ0 Open Dist r i' < i_CoveringSites_mJ0 Open Dist r i) ∧ (r = r) ∧ ((setsL (Open.length : Int).toNat).length = (setsL (Open.length : Int).toNat).length) ∧ ((((setsL (Open.length : Int).toNat).length) : Int) = (((setsL (Open.length : Int).toNat).length) : Int)) ∧ ((i + 1) = i') ∧ (Open = Open) ∧ (Dist = Dist) ∧ (setsL (Open.length : Int).toNat = setsL (Open.length : Int).toNat))))) ∧ ((decide (i < (((setsL (Open.length : Int).toNat).length) : Int))) = false → (((covSites Open Dist r).length = 0) ∧ (false = (covOk Open Dist r)))))))))
theorem i_CoveringSites_vc (Open : List Int) (Dist : List (List Int)) (r : Int)  (w_Open : (Open.length : Int) ≤ 9223372036854775807) (w_Dist : (Dist.length : Int) ≤ 9223372036854775807) (v_Dist : ∀ x9 ∈ Dist, (x9.length : Int) ≤ 9223372036854775807) : i_CoveringSites_P Open Dist r := by
  unfold i_CoveringSites_P
  refine ⟨i_isRadius_pc Open Dist r, ?_, ?_⟩
  · intro b1
    try simp only [Bool.not_eq_true', Bool.not_eq_false', Bool.not_not] at b1
    refine ⟨?_, ?_⟩
    · obtain ⟨c1, c2⟩ := cov_miss (Open := Open) (Dist := Dist) (r := r) (.inl (by simpa using b1))
      first | exact c2.symm | (rw [c2]; rfl)
    · obtain ⟨c1, c2⟩ := cov_miss (Open := Open) (Dist := Dist) (r := r) (.inl (by simpa using b1))
      exact c1.symm
  · intro b2
    try simp only [Bool.not_eq_true', Bool.not_eq_false', Bool.not_not] at b2
    refine ⟨?_, ?_, ?_⟩
    · refine i_sets_pc (Open.length : Int) ?_
      · have hgr : (goodField Open Dist && decide (0 ≤ r)) = true := by simpa using b2
        rw [Bool.and_eq_true] at hgr
        obtain ⟨hg, hr⟩ := hgr
        have hr := of_decide_eq_true hr
        have := gf_open hg
        omega
    · refine ⟨0, ?_⟩
      refine ⟨?_, rfl, rfl, rfl, rfl, rfl, rfl, rfl⟩
      · refine ⟨?_, ?_, ?_⟩
        · first | omega | rfl | (intro hg; simp only [nrmT] at hg; omega) | (intro g1 g2; simp [g1, g2]; done) | (intro g1; simp at g1 ⊢; simp [g1]; done) | (simp only [nrmT] at *; omega) | (simp at * <;> omega) | (simp_all <;> omega) | (simp_all; done)
        · first | omega | rfl | (intro hg; simp only [nrmT] at hg; omega) | (intro g1 g2; simp [g1, g2]; done) | (intro g1; simp at g1 ⊢; simp [g1]; done) | (simp only [nrmT] at *; omega) | (simp at * <;> omega) | (simp_all <;> omega) | (simp_all; done)
        · intro k hk; exact absurd hk (by simp)
    · intro i hJ
      obtain ⟨h1, h2, h3⟩ := hJ
      refine ⟨?_, ?_⟩
      · intro b3
        try simp only [nrmT] at b3
        refine ⟨?_, ?_, ?_, ?_, ?_, ?_⟩
        · first | omega | rfl | (intro hg; simp only [nrmT] at hg; omega) | (intro g1 g2; simp [g1, g2]; done) | (intro g1; simp at g1 ⊢; simp [g1]; done) | (simp only [nrmT] at *; omega) | (simp at * <;> omega) | (simp_all <;> omega) | (simp_all; done)
        · first | omega | rfl | (intro hg; simp only [nrmT] at hg; omega) | (intro g1 g2; simp [g1, g2]; done) | (intro g1; simp at g1 ⊢; simp [g1]; done) | (simp only [nrmT] at *; omega) | (simp at * <;> omega) | (simp_all <;> omega) | (simp_all; done)
        · first | omega | rfl | (intro hg; simp only [nrmT] at hg; omega) | (intro g1 g2; simp [g1, g2]; done) | (intro g1; simp at g1 ⊢; simp [g1]; done) | (simp only [nrmT] at *; omega) | (simp at * <;> omega) | (simp_all <;> omega) | (simp_all; done)
        · refine i_Field_reach_pc Open Dist ((setsL (Open.length : Int).toNat).getD i.toNat []) ?_
          · have hgr : (goodField Open Dist && decide (0 ≤ r)) = true := by simpa using b2
            rw [Bool.and_eq_true] at hgr
            obtain ⟨hg, hr⟩ := hgr
            have hr := of_decide_eq_true hr
            have ht2 := (set_two hg (getD_memI (d := []) h1 (by omega : i < ((setsL (Open.length : Int).toNat).length : Int)))).1
            exact ht2
        · intro b4
          try simp only [nrmT] at b4
          refine ⟨?_, ?_⟩
          · have hgr : (goodField Open Dist && decide (0 ≤ r)) = true := by simpa using b2
            rw [Bool.and_eq_true] at hgr
            obtain ⟨hg, hr⟩ := hgr
            have hr := of_decide_eq_true hr
            have ht2 := (set_two hg (getD_memI (d := []) h1 (by omega : i < ((setsL (Open.length : Int).toNat).length : Int)))).1
            obtain ⟨c1, c2⟩ := cov_hit hg hr h1 (idx_found (p := fun s => decide (rchOf Dist s ≤ r)) (d := []) h1 (by omega) h3 (by simpa using b4)).symm
            exact c2.symm
          · have hgr : (goodField Open Dist && decide (0 ≤ r)) = true := by simpa using b2
            rw [Bool.and_eq_true] at hgr
            obtain ⟨hg, hr⟩ := hgr
            have hr := of_decide_eq_true hr
            have ht2 := (set_two hg (getD_memI (d := []) h1 (by omega : i < ((setsL (Open.length : Int).toNat).length : Int)))).1
            obtain ⟨c1, c2⟩ := cov_hit hg hr h1 (idx_found (p := fun s => decide (rchOf Dist s ≤ r)) (d := []) h1 (by omega) h3 (by simpa using b4)).symm
            exact c1.symm
        · intro b5
          try simp only [nrmT] at b5
          refine ⟨?_, ?_⟩
          · have hgr : (goodField Open Dist && decide (0 ≤ r)) = true := by simpa using b2
            rw [Bool.and_eq_true] at hgr
            obtain ⟨hg, hr⟩ := hgr
            have hr := of_decide_eq_true hr
            have := gf_open hg
            have := sets_small (n := (Open.length : Int).toNat) (by omega)
            omega
          · refine ⟨(i + 1), ?_⟩
            refine ⟨?_, ?_, rfl, rfl, rfl, rfl, rfl, rfl, rfl⟩
            · refine ⟨?_, ?_, ?_⟩
              · first | omega | rfl | (intro hg; simp only [nrmT] at hg; omega) | (intro g1 g2; simp [g1, g2]; done) | (intro g1; simp at g1 ⊢; simp [g1]; done) | (simp only [nrmT] at *; omega) | (simp at * <;> omega) | (simp_all <;> omega) | (simp_all; done)
              · first | omega | rfl | (intro hg; simp only [nrmT] at hg; omega) | (intro g1 g2; simp [g1, g2]; done) | (intro g1; simp at g1 ⊢; simp [g1]; done) | (simp only [nrmT] at *; omega) | (simp at * <;> omega) | (simp_all <;> omega) | (simp_all; done)
              · exact idx_step (p := fun s => decide (rchOf Dist s ≤ r)) h1 h3 (by simpa using b5)
            · first | (show _ < _; omega) | (simp only [i_CoveringSites_mJ0]; omega) | (simp only [i_CoveringSites_mJ0] at *; simp at *; omega)
      · intro b6
        try simp only [nrmT] at b6
        refine ⟨?_, ?_⟩
        · have hgr : (goodField Open Dist && decide (0 ≤ r)) = true := by simpa using b2
          rw [Bool.and_eq_true] at hgr
          obtain ⟨hg, hr⟩ := hgr
          have hr := of_decide_eq_true hr
          obtain ⟨c1, c2⟩ := cov_miss (Open := Open) (Dist := Dist) (r := r) (.inr (idx_none (p := fun s => decide (rchOf Dist s ≤ r)) (d := []) (by omega) h3))
          first | exact c2.symm | (rw [c2]; rfl)
        · have hgr : (goodField Open Dist && decide (0 ≤ r)) = true := by simpa using b2
          rw [Bool.and_eq_true] at hgr
          obtain ⟨hg, hr⟩ := hgr
          have hr := of_decide_eq_true hr
          obtain ⟨c1, c2⟩ := cov_miss (Open := Open) (Dist := Dist) (r := r) (.inr (idx_none (p := fun s => decide (rchOf Dist s ≤ r)) (d := []) (by omega) h3))
          exact c1.symm
theorem i_CoveringSites_pc (Open : List Int) (Dist : List (List Int)) (r : Int)  : PC Try.prog 40 [.agg [.sl (.ints Open), .sl (.rows Dist)], .int .i64 r] (.tup [.d (.sl (.ints (covSites Open Dist r))), .d (.bool (covOk Open Dist r))]) :=
  pc_wf @Try.call40 fun hw => pc_by (by kernel_rfl) Try.func40 @Try.call40 (by kernel_rfl) i_CoveringSites_C (i_CoveringSites_A Open Dist r) (by kernel_rfl) (i_CoveringSites_vc Open Dist r hw.1.1 hw.1.2.1.1 hw.1.2.1.2) (by kernel_rfl)
def i_CoveringSites_orc : List D → Orc := orcN [none, none] fun ds => match ds with
  | [.agg [.sl (.ints Open), .sl (.rows Dist)], .int .i64 r] => some (.tup [.d (.sl (.ints (covSites Open Dist r))), .d (.bool (covOk Open Dist r))])
  | _ => none
theorem cond_and {a b : Bool} : cond a b false = (a && b) := by cases a <;> rfl
/-- How far a cursor has read, and its seed. -/
structure Cur where
  pos : Int
  seed : Int
abbrev cur0 : Cur := ⟨0, 0⟩
def okC (c : Cur) (b : Int) : Prop := 0 ≤ c.pos ∧ c.pos ≤ b ∧ 0 ≤ c.seed ∧ c.seed ≤ 18446744073709551615
theorem cond_cur_pos (g : Bool) (a b : Cur) : cond g a.pos b.pos = (cond g a b).pos := by cases g <;> rfl
theorem cond_cur_seed (g : Bool) (a b : Cur) : cond g a.seed b.seed = (cond g a b).seed := by cases g <;> rfl
def nxB (code : List Nat) (c : Cur) : Int := if c.pos < (code.length : Int) then ((code.getD c.pos.toNat 0 : Nat) : Int) else 0
def nextC (code : List Nat) (c : Cur) : Cur := ⟨c.pos + 1, IntKind.u64.wrap (IntKind.u64.wrap (IntKind.u64.wrap (c.seed * 6364136223846793005) + nxB code c) + 462197)⟩
def nextV (code : List Nat) (c : Cur) : Int := if c.pos + 1 ≤ (code.length : Int) then nxB code c else ((((nextC code c).seed / 2 ^ 40).toNat &&& 255 : Nat) : Int)
theorem wrap_u64 (n : Int) : 0 ≤ IntKind.u64.wrap n ∧ IntKind.u64.wrap n ≤ 18446744073709551615 := by
  have h : IntKind.u64.wrap n = n % 18446744073709551616 := rfl
  omega
theorem nxB_in {code : List Nat} (hb : ∀ x9 ∈ code, x9 < 256) (c : Cur) (h0 : 0 ≤ c.pos) : 0 ≤ nxB code c ∧ nxB code c ≤ 255 := by
  unfold nxB
  split
  · have := hb _ (getD_mem (d := 0) (show c.pos.toNat < code.length by omega))
    omega
  · omega
theorem and255 (n : Nat) : n &&& 255 ≤ 255 := Nat.and_le_right
theorem nextV_in {code : List Nat} (hb : ∀ x9 ∈ code, x9 < 256) {c : Cur} (h0 : 0 ≤ c.pos) : 0 ≤ nextV code c ∧ nextV code c ≤ 255 := by
  unfold nextV
  split
  · exact nxB_in hb c h0
  · have := and255 ((nextC code c).seed / 2 ^ 40).toNat
    omega
theorem ok_next {code : List Nat} {c : Cur} {b : Int} (h : okC c b) : okC (nextC code c) (b + 1) := by
  obtain ⟨h1, h2, _, _⟩ := h
  exact ⟨by show 0 ≤ c.pos + 1; omega, by show c.pos + 1 ≤ b + 1; omega, (wrap_u64 _).1, (wrap_u64 _).2⟩
theorem okC_le {c : Cur} {b b' : Int} (h : okC c b) (hb : b ≤ b') : okC c b' := ⟨h.1, Int.le_trans h.2.1 hb, h.2.2⟩
def s_l1Cur_next_C (f : FuncId) (ds : List D) : Orc := .no
def s_l1Cur_next_A (u : Value) (code : List Nat) (c : Cur) : Ann := .two (.none) (.two (.none) (.two (.none) (.two (.none) (.two (.reg [(5, .wrap), (8, .wrap), (9, .wrap)]) (.none)))))
def s_l1Cur_next_P (u : Value) (code : List Nat) (c : Cur) : Prop :=
  (true = true) ∧ (((decide (c.pos < (code.length : Int))) = true → (true = true) ∧ ((0 : Int) ≤ c.pos) ∧ ((c.pos : Int) < code.length) ∧ (c.pos.toNat < code.length) ∧ (-9223372036854775808 ≤ ((code.getD c.pos.toNat 0 : Nat) : Int) ∧ ((code.getD c.pos.toNat 0 : Nat) : Int) ≤ 9223372036854775807) ∧ (-9223372036854775808 ≤ (c.pos + 1) ∧ (c.pos + 1) ≤ 9223372036854775807) ∧ (0 ≤ ((code.getD c.pos.toNat 0 : Nat) : Int) ∧ ((code.getD c.pos.toNat 0 : Nat) : Int) ≤ 18446744073709551615) ∧ (true = true) ∧ (((decide ((c.pos + 1) ≤ (code.length : Int))) = true → (((.lit u (.sl (.bytes code)) : D) = .lit u (.sl (.bytes code))) ∧ ((c.pos + 1) = (nextC code c).pos) ∧ ((IntKind.u64.wrap ((IntKind.u64.wrap ((IntKind.u64.wrap (c.seed * 6364136223846793005)) + ((code.getD c.pos.toNat 0 : Nat) : Int))) + 462197)) = (nextC code c).seed) ∧ (((code.getD c.pos.toNat 0 : Nat) : Int) = (nextV code c)))) ∧ ((decide ((c.pos + 1) ≤ (code.length : Int))) = false → ((0 : Int) ≤ (IntKind.u64.wrap ((IntKind.u64.wrap ((IntKind.u64.wrap (c.seed * 6364136223846793005)) + ((code.getD c.pos.toNat 0 : Nat) : Int))) + 462197)) ∧ ((IntKind.u64.wrap ((IntKind.u64.wrap ((IntKind.u64.wrap (c.seed * 6364136223846793005)) + ((code.getD c.pos.toNat 0 : Nat) : Int))) + 462197)) : Int) ≤ 18446744073709551615) ∧ ((0 : Int) ≤ 40) ∧ ((0 : Int) ≤ ((IntKind.u64.wrap ((IntKind.u64.wrap ((IntKind.u64.wrap (c.seed * 6364136223846793005)) + ((code.getD c.pos.toNat 0 : Nat) : Int))) + 462197)) / 2 ^ 40) ∧ (((IntKind.u64.wrap ((IntKind.u64.wrap ((IntKind.u64.wrap (c.seed * 6364136223846793005)) + ((code.getD c.pos.toNat 0 : Nat) : Int))) + 462197)) / 2 ^ 40) : Int) ≤ 18446744073709551615) ∧ ((0 : Int) ≤ 255 ∧ (255 : Int) ≤ 18446744073709551615) ∧ (-9223372036854775808 ≤ ((((IntKind.u64.wrap ((IntKind.u64.wrap ((IntKind.u64.wrap (c.seed * 6364136223846793005)) + ((code.getD c.pos.toNat 0 : Nat) : Int))) + 462197)) / 2 ^ 40).toNat &&& 255 : Nat) : Int) ∧ ((((IntKind.u64.wrap ((IntKind.u64.wrap ((IntKind.u64.wrap (c.seed * 6364136223846793005)) + ((code.getD c.pos.toNat 0 : Nat) : Int))) + 462197)) / 2 ^ 40).toNat &&& 255 : Nat) : Int) ≤ 9223372036854775807) ∧ (((.lit u (.sl (.bytes code)) : D) = .lit u (.sl (.bytes code))) ∧ ((c.pos + 1) = (nextC code c).pos) ∧ ((IntKind.u64.wrap ((IntKind.u64.wrap ((IntKind.u64.wrap (c.seed * 6364136223846793005)) + ((code.getD c.pos.toNat 0 : Nat) : Int))) + 462197)) = (nextC code c).seed) ∧ (((((IntKind.u64.wrap ((IntKind.u64.wrap ((IntKind.u64.wrap (c.seed * 6364136223846793005)) + ((code.getD c.pos.toNat 0 : Nat) : Int))) + 462197)) / 2 ^ 40).toNat &&& 255 : Nat) : Int) = (nextV code c)))))) ∧ ((decide (c.pos < (code.length : Int))) = false → (-9223372036854775808 ≤ (c.pos + 1) ∧ (c.pos + 1) ≤ 9223372036854775807) ∧ (0 ≤ (0 : Int) ∧ (0 : Int) ≤ 18446744073709551615) ∧ (true = true) ∧ (((decide ((c.pos + 1) ≤ (code.length : Int))) = true → (((.lit u (.sl (.bytes code)) : D) = .lit u (.sl (.bytes code))) ∧ ((c.pos + 1) = (nextC code c).pos) ∧ ((IntKind.u64.wrap ((IntKind.u64.wrap ((IntKind.u64.wrap (c.seed * 6364136223846793005)) + 0)) + 462197)) = (nextC code c).seed) ∧ ((0 : Int) = (nextV code c)))) ∧ ((decide ((c.pos + 1) ≤ (code.length : Int))) = false → ((0 : Int) ≤ (IntKind.u64.wrap ((IntKind.u64.wrap ((IntKind.u64.wrap (c.seed * 6364136223846793005)) + 0)) + 462197)) ∧ ((IntKind.u64.wrap ((IntKind.u64.wrap ((IntKind.u64.wrap (c.seed * 6364136223846793005)) + 0)) + 462197)) : Int) ≤ 18446744073709551615) ∧ ((0 : Int) ≤ 40) ∧ ((0 : Int) ≤ ((IntKind.u64.wrap ((IntKind.u64.wrap ((IntKind.u64.wrap (c.seed * 6364136223846793005)) + 0)) + 462197)) / 2 ^ 40) ∧ (((IntKind.u64.wrap ((IntKind.u64.wrap ((IntKind.u64.wrap (c.seed * 6364136223846793005)) + 0)) + 462197)) / 2 ^ 40) : Int) ≤ 18446744073709551615) ∧ ((0 : Int) ≤ 255 ∧ (255 : Int) ≤ 18446744073709551615) ∧ (-9223372036854775808 ≤ ((((IntKind.u64.wrap ((IntKind.u64.wrap ((IntKind.u64.wrap (c.seed * 6364136223846793005)) + 0)) + 462197)) / 2 ^ 40).toNat &&& 255 : Nat) : Int) ∧ ((((IntKind.u64.wrap ((IntKind.u64.wrap ((IntKind.u64.wrap (c.seed * 6364136223846793005)) + 0)) + 462197)) / 2 ^ 40).toNat &&& 255 : Nat) : Int) ≤ 9223372036854775807) ∧ (((.lit u (.sl (.bytes code)) : D) = .lit u (.sl (.bytes code))) ∧ ((c.pos + 1) = (nextC code c).pos) ∧ ((IntKind.u64.wrap ((IntKind.u64.wrap ((IntKind.u64.wrap (c.seed * 6364136223846793005)) + 0)) + 462197)) = (nextC code c).seed) ∧ (((((IntKind.u64.wrap ((IntKind.u64.wrap ((IntKind.u64.wrap (c.seed * 6364136223846793005)) + 0)) + 462197)) / 2 ^ 40).toNat &&& 255 : Nat) : Int) = (nextV code c)))))))
theorem s_l1Cur_next_vc (u : Value) (code : List Nat) (c : Cur) (hb : ∀ x9 ∈ code, x9 < 256) (hc : okC c 1000000000000)  : s_l1Cur_next_P u code c := by
  unfold s_l1Cur_next_P
  obtain ⟨c1, c2, c3, c4⟩ := hc
  have nb := nxB_in hb c c1
  have w64 := wrap_u64
  refine ⟨rfl, ?_, ?_⟩
  · intro b1
    try simp only [nrmT] at b1
    refine ⟨rfl, ?_, ?_, ?_, ?_, ?_, ?_, rfl, ?_, ?_⟩
    · first | omega | rfl | (intro hg; simp only [nrmT] at hg; omega) | (intro g1 g2; simp [g1, g2]; done) | (intro g1; simp at g1 ⊢; simp [g1]; done) | (simp only [nrmT] at *; omega) | (simp at * <;> omega) | (simp_all <;> omega) | (simp_all; done)
    · first | omega | rfl | (intro hg; simp only [nrmT] at hg; omega) | (intro g1 g2; simp [g1, g2]; done) | (intro g1; simp at g1 ⊢; simp [g1]; done) | (simp only [nrmT] at *; omega) | (simp at * <;> omega) | (simp_all <;> omega) | (simp_all; done)
    · first | omega | rfl | (intro hg; simp only [nrmT] at hg; omega) | (intro g1 g2; simp [g1, g2]; done) | (intro g1; simp at g1 ⊢; simp [g1]; done) | (simp only [nrmT] at *; omega) | (simp at * <;> omega) | (simp_all <;> omega) | (simp_all; done)
    · have := hb _ (getD_mem (d := 0) (show c.pos.toNat < code.length by omega))
      omega
    · first | omega | rfl | (intro hg; simp only [nrmT] at hg; omega) | (intro g1 g2; simp [g1, g2]; done) | (intro g1; simp at g1 ⊢; simp [g1]; done) | (simp only [nrmT] at *; omega) | (simp at * <;> omega) | (simp_all <;> omega) | (simp_all; done)
    · have := hb _ (getD_mem (d := 0) (show c.pos.toNat < code.length by omega))
      omega
    · intro b2
      try simp only [nrmT] at b2
      refine ⟨rfl, ?_, ?_, ?_⟩
      · first | omega | rfl | (intro hg; simp only [nrmT] at hg; omega) | (intro g1 g2; simp [g1, g2]; done) | (intro g1; simp at g1 ⊢; simp [g1]; done) | (simp only [nrmT] at *; omega) | (simp at * <;> omega) | (simp_all <;> omega) | (simp_all; done)
      · have hs : (nextC code c).seed = IntKind.u64.wrap (IntKind.u64.wrap (IntKind.u64.wrap (c.seed * 6364136223846793005) + nxB code c) + 462197) := rfl
        first | rw [show nxB code c = ((code.getD c.pos.toNat 0 : Nat) : Int) from if_pos (by omega)] at hs | rw [show nxB code c = 0 from if_neg (by omega)] at hs
        first | exact hs.symm | (exfalso; omega)
      · unfold nextV nxB; rw [if_pos (by omega), if_pos (by omega)]
    · intro b3
      try simp only [nrmT] at b3
      refine ⟨?_, ?_, ?_, ?_, ?_, rfl, ?_, ?_, ?_⟩
      · have := hb _ (getD_mem (d := 0) (show c.pos.toNat < code.length by omega))
        omega
      · first | omega | rfl | (intro hg; simp only [nrmT] at hg; omega) | (intro g1 g2; simp [g1, g2]; done) | (intro g1; simp at g1 ⊢; simp [g1]; done) | (simp only [nrmT] at *; omega) | (simp at * <;> omega) | (simp_all <;> omega) | (simp_all; done)
      · have := hb _ (getD_mem (d := 0) (show c.pos.toNat < code.length by omega))
        omega
      · first | omega | rfl | (intro hg; simp only [nrmT] at hg; omega) | (intro g1 g2; simp [g1, g2]; done) | (intro g1; simp at g1 ⊢; simp [g1]; done) | (simp only [nrmT] at *; omega) | (simp at * <;> omega) | (simp_all <;> omega) | (simp_all; done)
      · have := hb _ (getD_mem (d := 0) (show c.pos.toNat < code.length by omega))
        omega
      · first | omega | rfl | (intro hg; simp only [nrmT] at hg; omega) | (intro g1 g2; simp [g1, g2]; done) | (intro g1; simp at g1 ⊢; simp [g1]; done) | (simp only [nrmT] at *; omega) | (simp at * <;> omega) | (simp_all <;> omega) | (simp_all; done)
      · have hs : (nextC code c).seed = IntKind.u64.wrap (IntKind.u64.wrap (IntKind.u64.wrap (c.seed * 6364136223846793005) + nxB code c) + 462197) := rfl
        first | rw [show nxB code c = ((code.getD c.pos.toNat 0 : Nat) : Int) from if_pos (by omega)] at hs | rw [show nxB code c = 0 from if_neg (by omega)] at hs
        first | exact hs.symm | (exfalso; omega)
      · have hs : (nextC code c).seed = IntKind.u64.wrap (IntKind.u64.wrap (IntKind.u64.wrap (c.seed * 6364136223846793005) + nxB code c) + 462197) := rfl
        first | rw [show nxB code c = ((code.getD c.pos.toNat 0 : Nat) : Int) from if_pos (by omega)] at hs | rw [show nxB code c = 0 from if_neg (by omega)] at hs
        unfold nextV
        rw [if_neg (by omega), hs]
  · intro b4
    try simp only [nrmT] at b4
    refine ⟨?_, ?_, rfl, ?_, ?_⟩
    · first | omega | rfl | (intro hg; simp only [nrmT] at hg; omega) | (intro g1 g2; simp [g1, g2]; done) | (intro g1; simp at g1 ⊢; simp [g1]; done) | (simp only [nrmT] at *; omega) | (simp at * <;> omega) | (simp_all <;> omega) | (simp_all; done)
    · first | omega | rfl | (intro hg; simp only [nrmT] at hg; omega) | (intro g1 g2; simp [g1, g2]; done) | (intro g1; simp at g1 ⊢; simp [g1]; done) | (simp only [nrmT] at *; omega) | (simp at * <;> omega) | (simp_all <;> omega) | (simp_all; done)
    · intro b5
      try simp only [nrmT] at b5
      refine ⟨rfl, ?_, ?_, ?_⟩
      · first | omega | rfl | (intro hg; simp only [nrmT] at hg; omega) | (intro g1 g2; simp [g1, g2]; done) | (intro g1; simp at g1 ⊢; simp [g1]; done) | (simp only [nrmT] at *; omega) | (simp at * <;> omega) | (simp_all <;> omega) | (simp_all; done)
      · have hs : (nextC code c).seed = IntKind.u64.wrap (IntKind.u64.wrap (IntKind.u64.wrap (c.seed * 6364136223846793005) + nxB code c) + 462197) := rfl
        first | rw [show nxB code c = ((code.getD c.pos.toNat 0 : Nat) : Int) from if_pos (by omega)] at hs | rw [show nxB code c = 0 from if_neg (by omega)] at hs
        first | exact hs.symm | (exfalso; omega)
      · first | omega | rfl | (intro hg; simp only [nrmT] at hg; omega) | (intro g1 g2; simp [g1, g2]; done) | (intro g1; simp at g1 ⊢; simp [g1]; done) | (simp only [nrmT] at *; omega) | (simp at * <;> omega) | (simp_all <;> omega) | (simp_all; done)
    · intro b6
      try simp only [nrmT] at b6
      refine ⟨?_, ?_, ?_, ?_, ?_, rfl, ?_, ?_, ?_⟩
      · exact w64 _
      · first | omega | rfl | (intro hg; simp only [nrmT] at hg; omega) | (intro g1 g2; simp [g1, g2]; done) | (intro g1; simp at g1 ⊢; simp [g1]; done) | (simp only [nrmT] at *; omega) | (simp at * <;> omega) | (simp_all <;> omega) | (simp_all; done)
      · have := w64 (IntKind.u64.wrap (IntKind.u64.wrap (c.seed * 6364136223846793005) + 0) + 462197)
        generalize IntKind.u64.wrap (IntKind.u64.wrap (IntKind.u64.wrap (c.seed * 6364136223846793005) + 0) + 462197) = z at *
        omega
      · first | omega | rfl | (intro hg; simp only [nrmT] at hg; omega) | (intro g1 g2; simp [g1, g2]; done) | (intro g1; simp at g1 ⊢; simp [g1]; done) | (simp only [nrmT] at *; omega) | (simp at * <;> omega) | (simp_all <;> omega) | (simp_all; done)
      · have := and255 ((IntKind.u64.wrap (IntKind.u64.wrap (IntKind.u64.wrap (c.seed * 6364136223846793005) + 0) + 462197)) / 2 ^ 40).toNat
        omega
      · first | omega | rfl | (intro hg; simp only [nrmT] at hg; omega) | (intro g1 g2; simp [g1, g2]; done) | (intro g1; simp at g1 ⊢; simp [g1]; done) | (simp only [nrmT] at *; omega) | (simp at * <;> omega) | (simp_all <;> omega) | (simp_all; done)
      · have hs : (nextC code c).seed = IntKind.u64.wrap (IntKind.u64.wrap (IntKind.u64.wrap (c.seed * 6364136223846793005) + nxB code c) + 462197) := rfl
        first | rw [show nxB code c = ((code.getD c.pos.toNat 0 : Nat) : Int) from if_pos (by omega)] at hs | rw [show nxB code c = 0 from if_neg (by omega)] at hs
        first | exact hs.symm | (exfalso; omega)
      · have hs : (nextC code c).seed = IntKind.u64.wrap (IntKind.u64.wrap (IntKind.u64.wrap (c.seed * 6364136223846793005) + nxB code c) + 462197) := rfl
        first | rw [show nxB code c = ((code.getD c.pos.toNat 0 : Nat) : Int) from if_pos (by omega)] at hs | rw [show nxB code c = 0 from if_neg (by omega)] at hs
        unfold nextV
        rw [if_neg (by omega), hs]
theorem s_l1Cur_next_pk (code : List Nat) (c : Cur) (hb : ∀ x9 ∈ code, x9 < 256) (hc : okC c 1000000000000) : PK Try.prog 195 98 (.sl (.bytes code)) [.int .i64 c.pos, .int .u64 c.seed] [.int .i64 (nextC code c).pos, .int .u64 (nextC code c).seed] [] (.one (.d (.int .i64 (nextV code c)))) :=
  pk_by (Q := fun u => s_l1Cur_next_P u code c) (by kernel_rfl) Try.func195 @Try.call195 (by kernel_rfl) s_l1Cur_next_C (fun u => s_l1Cur_next_A u code c) (by kernel_rfl) (fun u => s_l1Cur_next_vc u code c hb hc) (fun u => by kernel_rfl)
def pickC (code : List Nat) (c : Cur) (n : Int) : Cur := if n ≤ 1 then c else if n > 200 then nextC code (nextC code c) else nextC code c
def pickV (code : List Nat) (c : Cur) (n : Int) : Int := if n ≤ 1 then 0 else (if n > 200 then nextV code c * 256 + nextV code (nextC code c) else nextV code c) % n
theorem ok_pick {code : List Nat} {c : Cur} {n b : Int} (h : okC c b) : okC (pickC code c n) (b + 2) := by
  unfold pickC
  split
  · exact okC_le h (by omega)
  · split
    · have := ok_next (code := code) (ok_next (code := code) h)
      exact okC_le this (by omega)
    · exact okC_le (ok_next h) (by omega)
theorem pickV_in (code : List Nat) (c : Cur) {n : Int} (hn : 1 ≤ n) : 0 ≤ pickV code c n ∧ pickV code c n < n := by
  unfold pickV
  split
  · omega
  · exact ⟨Int.emod_nonneg _ (by omega), Int.emod_lt_of_pos _ (by omega)⟩
theorem pickV_le (code : List Nat) (c : Cur) (n : Int) : 0 ≤ pickV code c n := by
  by_cases h : 1 ≤ n
  · exact (pickV_in code c h).1
  · unfold pickV; rw [if_pos (by omega)]; omega
def s_l1Cur_pick_C (f : FuncId) (ds : List D) : Orc := .no
def s_l1Cur_pick_A (u : Value) (code : List Nat) (c : Cur) (n : Int) : Ann := .two (.none) (.two (.none) (.two (.mark [] [(1, .cell [.int .i64 ((nextC code c).pos), .int .u64 ((nextC code c).seed)] (.one (.d (.int .i64 (nextV code c)))))]) (.two (.two (.none) (.two (.mark [] [(3, .cell [.int .i64 ((nextC code (nextC code c)).pos), .int .u64 ((nextC code (nextC code c)).seed)] (.one (.d (.int .i64 (nextV code (nextC code c))))))]) (.none))) (.none))))
def s_l1Cur_pick_P (u : Value) (code : List Nat) (c : Cur) (n : Int) : Prop :=
  (((decide (n ≤ 1)) = true → (((.lit u (.sl (.bytes code)) : D) = .lit u (.sl (.bytes code))) ∧ (c.pos = (pickC code c n).pos) ∧ (c.seed = (pickC code c n).seed) ∧ ((0 : Int) = (pickV code c n)))) ∧ ((decide (n ≤ 1)) = false → (PK Try.prog 195 98 (.sl (.bytes code)) [.int .i64 c.pos, .int .u64 c.seed] [.int .i64 ((nextC code c).pos), .int .u64 ((nextC code c).seed)] [] (.one (.d (.int .i64 (nextV code c))))) ∧ (((decide (n > 200)) = true → (-9223372036854775808 ≤ ((nextV code c) * 256) ∧ ((nextV code c) * 256) ≤ 9223372036854775807) ∧ (PK Try.prog 195 98 (.sl (.bytes code)) [.int .i64 ((nextC code c).pos), .int .u64 ((nextC code c).seed)] [.int .i64 ((nextC code (nextC code c)).pos), .int .u64 ((nextC code (nextC code c)).seed)] [] (.one (.d (.int .i64 (nextV code (nextC code c)))))) ∧ (-9223372036854775808 ≤ (((nextV code c) * 256) + (nextV code (nextC code c))) ∧ (((nextV code c) * 256) + (nextV code (nextC code c))) ≤ 9223372036854775807) ∧ ((0 : Int) ≤ (((nextV code c) * 256) + (nextV code (nextC code c)))) ∧ ((1 : Int) ≤ n) ∧ (((.lit u (.sl (.bytes code)) : D) = .lit u (.sl (.bytes code))) ∧ ((nextC code (nextC code c)).pos = (pickC code c n).pos) ∧ ((nextC code (nextC code c)).seed = (pickC code c n).seed) ∧ (((((nextV code c) * 256) + (nextV code (nextC code c))) % n) = (pickV code c n)))) ∧ ((decide (n > 200)) = false → ((0 : Int) ≤ (nextV code c)) ∧ ((1 : Int) ≤ n) ∧ (((.lit u (.sl (.bytes code)) : D) = .lit u (.sl (.bytes code))) ∧ ((nextC code c).pos = (pickC code c n).pos) ∧ ((nextC code c).seed = (pickC code c n).seed) ∧ (((nextV code c) % n) = (pickV code c n)))))))
theorem s_l1Cur_pick_vc (u : Value) (code : List Nat) (c : Cur) (n : Int) (hb : ∀ x9 ∈ code, x9 < 256) (hc : okC c 900000000000)  : s_l1Cur_pick_P u code c n := by
  unfold s_l1Cur_pick_P
  refine ⟨?_, ?_⟩
  · intro b1
    try simp only [nrmT] at b1
    refine ⟨rfl, ?_, ?_, ?_⟩
    · unfold pickC; first | rw [if_pos (by omega)] | rw [if_neg (by omega), if_pos (by omega)] | rw [if_neg (by omega), if_neg (by omega)]
    · unfold pickC; first | rw [if_pos (by omega)] | rw [if_neg (by omega), if_pos (by omega)] | rw [if_neg (by omega), if_neg (by omega)]
    · unfold pickV; first | rw [if_pos (by omega)] | rw [if_neg (by omega), if_pos (by omega)] | rw [if_neg (by omega), if_neg (by omega)]
  · intro b2
    try simp only [nrmT] at b2
    refine ⟨?_, ?_, ?_⟩
    · refine s_l1Cur_next_pk code c ?_ ?_
      · exact hb
      · exact okC_le (by repeat (first | assumption | apply ok_pick | apply ok_next)) (by omega)
    · intro b3
      try simp only [nrmT] at b3
      refine ⟨?_, ?_, ?_, ?_, ?_, rfl, ?_, ?_, ?_⟩
      · have q0 := nextV_in hb (c := c) hc.1
        have q1 := nextV_in hb (c := nextC code c) (ok_next hc).1
        omega
      · refine s_l1Cur_next_pk code (nextC code c) ?_ ?_
        · exact hb
        · exact okC_le (by repeat (first | assumption | apply ok_pick | apply ok_next)) (by omega)
      · have q0 := nextV_in hb (c := c) hc.1
        have q1 := nextV_in hb (c := nextC code c) (ok_next hc).1
        omega
      · have q0 := nextV_in hb (c := c) hc.1
        have q1 := nextV_in hb (c := nextC code c) (ok_next hc).1
        omega
      · first | omega | rfl | (intro hg; simp only [nrmT] at hg; omega) | (intro g1 g2; simp [g1, g2]; done) | (intro g1; simp at g1 ⊢; simp [g1]; done) | (simp only [nrmT] at *; omega) | (simp at * <;> omega) | (simp_all <;> omega) | (simp_all; done)
      · unfold pickC; first | rw [if_pos (by omega)] | rw [if_neg (by omega), if_pos (by omega)] | rw [if_neg (by omega), if_neg (by omega)]
      · unfold pickC; first | rw [if_pos (by omega)] | rw [if_neg (by omega), if_pos (by omega)] | rw [if_neg (by omega), if_neg (by omega)]
      · unfold pickV; first | rw [if_pos (by omega)] | rw [if_neg (by omega), if_pos (by omega)] | rw [if_neg (by omega), if_neg (by omega)]
    · intro b4
      try simp only [nrmT] at b4
      refine ⟨?_, ?_, rfl, ?_, ?_, ?_⟩
      · have q0 := nextV_in hb (c := c) hc.1
        have q1 := nextV_in hb (c := nextC code c) (ok_next hc).1
        omega
      · first | omega | rfl | (intro hg; simp only [nrmT] at hg; omega) | (intro g1 g2; simp [g1, g2]; done) | (intro g1; simp at g1 ⊢; simp [g1]; done) | (simp only [nrmT] at *; omega) | (simp at * <;> omega) | (simp_all <;> omega) | (simp_all; done)
      · unfold pickC; first | rw [if_pos (by omega)] | rw [if_neg (by omega), if_pos (by omega)] | rw [if_neg (by omega), if_neg (by omega)]
      · unfold pickC; first | rw [if_pos (by omega)] | rw [if_neg (by omega), if_pos (by omega)] | rw [if_neg (by omega), if_neg (by omega)]
      · unfold pickV; first | rw [if_pos (by omega)] | rw [if_neg (by omega), if_pos (by omega)] | rw [if_neg (by omega), if_neg (by omega)]
theorem s_l1Cur_pick_pk (code : List Nat) (c : Cur) (n : Int) (hb : ∀ x9 ∈ code, x9 < 256) (hc : okC c 900000000000) : PK Try.prog 107 98 (.sl (.bytes code)) [.int .i64 c.pos, .int .u64 c.seed] [.int .i64 (pickC code c n).pos, .int .u64 (pickC code c n).seed] [.int .i64 n] (.one (.d (.int .i64 (pickV code c n)))) :=
  pk_by (Q := fun u => s_l1Cur_pick_P u code c n) (by kernel_rfl) Try.func107 @Try.call107 (by kernel_rfl) s_l1Cur_pick_C (fun u => s_l1Cur_pick_A u code c n) (by kernel_rfl) (fun u => s_l1Cur_pick_vc u code c n hb hc) (fun u => by kernel_rfl)
def s_l1Cur_among_C (f : FuncId) (ds : List D) : Orc := .no
def s_l1Cur_among_A (u : Value) (code : List Nat) (c : Cur) (list : List Int) : Ann := .two (.none) (.two (.mark [] [(4, .cell [.int .i64 ((pickC code c (list.length : Int)).pos), .int .u64 ((pickC code c (list.length : Int)).seed)] (.one (.d (.int .i64 (pickV code c (list.length : Int))))))]) (.none))
def s_l1Cur_among_P (u : Value) (code : List Nat) (c : Cur) (list : List Int) : Prop :=
  (PK Try.prog 107 98 (.sl (.bytes code)) [.int .i64 c.pos, .int .u64 c.seed] [.int .i64 ((pickC code c (list.length : Int)).pos), .int .u64 ((pickC code c (list.length : Int)).seed)] [.int .i64 (list.length : Int)] (.one (.d (.int .i64 (pickV code c (list.length : Int)))))) ∧ ((0 : Int) ≤ (pickV code c (list.length : Int))) ∧ (((pickV code c (list.length : Int)) : Int) < list.length) ∧ ((pickV code c (list.length : Int)).toNat < list.length) ∧ (((.lit u (.sl (.bytes code)) : D) = .lit u (.sl (.bytes code))) ∧ ((pickC code c (list.length : Int)).pos = (pickC code c (list.length : Int)).pos) ∧ ((pickC code c (list.length : Int)).seed = (pickC code c (list.length : Int)).seed) ∧ ((list.getD ((pickV code c (list.length : Int)).toNat) 0) = (list.getD (pickV code c (list.length : Int)).toNat 0)))
theorem s_l1Cur_among_vc (u : Value) (code : List Nat) (c : Cur) (list : List Int) (hb : ∀ x9 ∈ code, x9 < 256) (hc : okC c 800000000000) (hl : 0 < list.length)  : s_l1Cur_among_P u code c list := by
  unfold s_l1Cur_among_P
  refine ⟨?_, ?_, ?_, ?_, rfl, rfl, rfl, ?_⟩
  · refine s_l1Cur_pick_pk code c (list.length : Int) ?_ ?_
    · exact hb
    · exact okC_le (by repeat (first | assumption | apply ok_pick | apply ok_next)) (by omega)
  · have := pickV_in code c (n := (list.length : Int)) (by omega)
    omega
  · have := pickV_in code c (n := (list.length : Int)) (by omega)
    omega
  · have := pickV_in code c (n := (list.length : Int)) (by omega)
    omega
  · have := pickV_in code c (n := (list.length : Int)) (by omega)
    omega
theorem s_l1Cur_among_pk (code : List Nat) (c : Cur) (list : List Int) (hb : ∀ x9 ∈ code, x9 < 256) (hc : okC c 800000000000) (hl : 0 < list.length) : PK Try.prog 106 98 (.sl (.bytes code)) [.int .i64 c.pos, .int .u64 c.seed] [.int .i64 (pickC code c (list.length : Int)).pos, .int .u64 (pickC code c (list.length : Int)).seed] [.sl (.ints list)] (.one (.d (.int .i64 (list.getD (pickV code c (list.length : Int)).toNat 0)))) :=
  pk_by (Q := fun u => s_l1Cur_among_P u code c list) (by kernel_rfl) Try.func106 @Try.call106 (by kernel_rfl) s_l1Cur_among_C (fun u => s_l1Cur_among_A u code c list) (by kernel_rfl) (fun u => s_l1Cur_among_vc u code c list hb hc hl) (fun u => by kernel_rfl)
def s_l1Cur_one_C (f : FuncId) (ds : List D) : Orc := .no
def s_l1Cur_one_A (u : Value) (code : List Nat) (c : Cur) (n : Int) : Ann := .two (.none) (.two (.mark [] [(2, .cell [.int .i64 ((pickC code c n).pos), .int .u64 ((pickC code c n).seed)] (.one (.d (.int .i64 (pickV code c n)))))]) (.none))
def s_l1Cur_one_P (u : Value) (code : List Nat) (c : Cur) (n : Int) : Prop :=
  (PK Try.prog 107 98 (.sl (.bytes code)) [.int .i64 c.pos, .int .u64 c.seed] [.int .i64 ((pickC code c n).pos), .int .u64 ((pickC code c n).seed)] [.int .i64 n] (.one (.d (.int .i64 (pickV code c n))))) ∧ (((.lit u (.sl (.bytes code)) : D) = .lit u (.sl (.bytes code))) ∧ ((pickC code c n).pos = (pickC code c n).pos) ∧ ((pickC code c n).seed = (pickC code c n).seed) ∧ (((pickV code c n) == 0) = (pickV code c n == 0)))
theorem s_l1Cur_one_vc (u : Value) (code : List Nat) (c : Cur) (n : Int) (hb : ∀ x9 ∈ code, x9 < 256) (hc : okC c 800000000000)  : s_l1Cur_one_P u code c n := by
  unfold s_l1Cur_one_P
  refine ⟨?_, rfl, rfl, rfl, ?_⟩
  · refine s_l1Cur_pick_pk code c n ?_ ?_
    · exact hb
    · exact okC_le (by repeat (first | assumption | apply ok_pick | apply ok_next)) (by omega)
  · first | omega | rfl | (intro hg; simp only [nrmT] at hg; omega) | (intro g1 g2; simp [g1, g2]; done) | (intro g1; simp at g1 ⊢; simp [g1]; done) | (simp only [nrmT] at *; omega) | (simp at * <;> omega) | (simp_all <;> omega) | (simp_all; done)
theorem s_l1Cur_one_pk (code : List Nat) (c : Cur) (n : Int) (hb : ∀ x9 ∈ code, x9 < 256) (hc : okC c 800000000000) : PK Try.prog 108 98 (.sl (.bytes code)) [.int .i64 c.pos, .int .u64 c.seed] [.int .i64 (pickC code c n).pos, .int .u64 (pickC code c n).seed] [.int .i64 n] (.one (.d (.bool (pickV code c n == 0)))) :=
  pk_by (Q := fun u => s_l1Cur_one_P u code c n) (by kernel_rfl) Try.func108 @Try.call108 (by kernel_rfl) s_l1Cur_one_C (fun u => s_l1Cur_one_A u code c n) (by kernel_rfl) (fun u => s_l1Cur_one_vc u code c n hb hc) (fun u => by kernel_rfl)
theorem okC0 : okC cur0 0 := by unfold okC; decide
theorem getD_snoc {α : Type} {l : List α} {x d : α} {j : Nat} (h : j < (l ++ [x]).length) : (l ++ [x]).getD j d = if j < l.length then l.getD j d else x := by
  rw [List.length_append, List.length_singleton] at h
  by_cases e : j < l.length
  · rw [if_pos e]; simp [List.getElem?_append_left e]
  · have : j = l.length := by omega
    rw [if_neg e, this]
    simp
abbrev s_l1Put_o_JJ0 (u : Value) (l : List Int) (n : Int) (k : Int) : Prop := (0 ≤ k) ∧ (k ≤ (l.length : Int)) ∧ (∀ j, j < k.toNat → l.getD j 0 < n)
abbrev s_l1Put_o_mJ0 (u : Value) (l : List Int) (n : Int) (k : Int) : Nat := (l.length - k).toNat
def s_l1Put_o_C (f : FuncId) (ds : List D) : Orc := .no
def s_l1Put_o_A (u : Value) (l : List Int) (n : Int) : Ann := .two (.none) (.two (.none) (.two (.loop (cut1 (fun (k : Int) => s_l1Put_o_JJ0 u l n k) (fun (k : Int) => [(0, .d false (.lit u (.sl (.ints l)))), (1, .d false (.int .i64 n)), (5, .d true (.int .i64 k))]) (fun (k : Int) => [])) (fun g => s_l1Put_o_mJ0 u l n g) (fun _ => .none)) (.none)))
def s_l1Put_o_P (u : Value) (l : List Int) (n : Int) : Prop :=
  ((∃ k' : Int, (s_l1Put_o_JJ0 u l n k') ∧ ((.lit u (.sl (.ints l)) : D) = .lit u (.sl (.ints l))) ∧ (n = n) ∧ ((0 : Int) = k')) ∧ (∀ k : Int, (s_l1Put_o_JJ0 u l n k) → ((decide (k < (l.length : Int))) = true → (decide (k < (l.length : Int))) = true) ∧ ((decide (k < (l.length : Int))) = true → (decide (k < (l.length : Int))) = true) ∧ (((decide (k < (l.length : Int))) = true → (0 : Int) ≤ k)) ∧ (((decide (k < (l.length : Int))) = true → (k : Int) < l.length)) ∧ ((decide (k < (l.length : Int))) = true → (decide (k < (l.length : Int))) = true) ∧ (((decide (k < (l.length : Int))) = true → k.toNat < l.length)) ∧ ((decide (k < (l.length : Int))) = true → (decide (k < (l.length : Int))) = true) ∧ ((decide (k < (l.length : Int))) = true → (decide (k < (l.length : Int))) = true) ∧ (true = true) ∧ (((decide (k < (l.length : Int))) = true → (decide (k < (l.length : Int))) = true)) ∧ (((decide (k < (l.length : Int))) = false → true = true)) ∧ (((cond (decide (k < (l.length : Int))) (decide ((l.getD k.toNat 0) < n)) false) = true → (-9223372036854775808 ≤ (k + 1) ∧ (k + 1) ≤ 9223372036854775807) ∧ (∃ k' : Int, (s_l1Put_o_JJ0 u l n k') ∧ (s_l1Put_o_mJ0 u l n k' < s_l1Put_o_mJ0 u l n k) ∧ ((.lit u (.sl (.ints l)) : D) = .lit u (.sl (.ints l))) ∧ (n = n) ∧ ((k + 1) = k'))) ∧ ((cond (decide (k < (l.length : Int))) (decide ((l.getD k.toNat 0) < n)) false) = false → ((decide (k < (l.length : Int))) = true → (decide (k < (l.length : Int))) = true) ∧ ((decide (k < (l.length : Int))) = true → (decide (k < (l.length : Int))) = true) ∧ (((decide (k < (l.length : Int))) = true → (0 : Int) ≤ k)) ∧ (((decide (k < (l.length : Int))) = true → (k : Int) < l.length)) ∧ ((decide (k < (l.length : Int))) = true → (decide (k < (l.length : Int))) = true) ∧ (((decide (k < (l.length : Int))) = true → k.toNat < l.length)) ∧ ((decide (k < (l.length : Int))) = true → (decide (k < (l.length : Int))) = true) ∧ ((decide (k < (l.length : Int))) = true → (decide (k < (l.length : Int))) = true) ∧ (true = true) ∧ (((decide (k < (l.length : Int))) = true → (decide (k < (l.length : Int))) = true)) ∧ (((decide (k < (l.length : Int))) = false → true = true)) ∧ (((cond (decide (k < (l.length : Int))) ((l.getD k.toNat 0) == n) false) = true → (((.lit u (.sl (.ints l)) : D) = .lit u (.sl (.ints l))) ∧ (((putL l n) : List Int) = l))) ∧ ((cond (decide (k < (l.length : Int))) ((l.getD k.toNat 0) == n) false) = false → (true = true) ∧ ((0 : Int) ≤ k) ∧ ((k : Int) ≤ l.length) ∧ ((0 : Nat) = 0) ∧ (True) ∧ ((0 + ((l.take k.toNat).drop 0).length) * 8 ≤ 140737488355328) ∧ ((0 + ((l.take k.toNat).drop 0).length) = ([] ++ ((l.take k.toNat).drop 0)).length) ∧ ((1 : Nat) = 1) ∧ ((([] ++ ((l.take k.toNat).drop 0)).length + 1) * 8 ≤ 140737488355328) ∧ ((0 : Int) ≤ k) ∧ ((k : Int) ≤ l.length) ∧ (((0 + ((l.take k.toNat).drop 0).length) + 1) = (([] ++ ((l.take k.toNat).drop 0)) ++ [n]).length) ∧ (True) ∧ (((([] ++ ((l.take k.toNat).drop 0)) ++ [n]).length + ((l.take l.length).drop k.toNat).length) * 8 ≤ 140737488355328) ∧ (((((0 + ((l.take k.toNat).drop 0).length) + 1) + ((l.take l.length).drop k.toNat).length) = ((([] ++ ((l.take k.toNat).drop 0)) ++ [n]) ++ ((l.take l.length).drop k.toNat)).length) ∧ ((((([] ++ ((l.take k.toNat).drop 0)) ++ [n]) ++ ((l.take l.length).drop k.toNat)) : List Int) = (putL l n)))))))))
theorem s_l1Put_o_vc (u : Value) (l : List Int) (n : Int) (hl : l.length ≤ 1048576)  : s_l1Put_o_P u l n := by
  unfold s_l1Put_o_P
  refine ⟨?_, ?_⟩
  · refine ⟨0, ?_⟩
    refine ⟨?_, rfl, rfl, rfl⟩
    · refine ⟨?_, ?_, ?_⟩
      · first | omega | rfl | (intro hg; simp only [nrmT] at hg; omega) | (intro g1 g2; simp [g1, g2]; done) | (intro g1; simp at g1 ⊢; simp [g1]; done) | (simp only [nrmT] at *; omega) | (simp at * <;> omega) | (simp_all <;> omega) | (simp_all; done)
      · first | omega | rfl | (intro hg; simp only [nrmT] at hg; omega) | (intro g1 g2; simp [g1, g2]; done) | (intro g1; simp at g1 ⊢; simp [g1]; done) | (simp only [nrmT] at *; omega) | (simp at * <;> omega) | (simp_all <;> omega) | (simp_all; done)
      · first | omega | rfl | (intro hg; simp only [nrmT] at hg; omega) | (intro g1 g2; simp [g1, g2]; done) | (intro g1; simp at g1 ⊢; simp [g1]; done) | (simp only [nrmT] at *; omega) | (simp at * <;> omega) | (simp_all <;> omega) | (simp_all; done)
  · intro k hJ
    obtain ⟨h1, h2, h3⟩ := hJ
    refine ⟨id, id, ?_, ?_, id, ?_, id, id, rfl, id, fun _ => rfl, ?_, ?_⟩
    · first | omega | rfl | (intro hg; simp only [nrmT] at hg; omega) | (intro g1 g2; simp [g1, g2]; done) | (intro g1; simp at g1 ⊢; simp [g1]; done) | (simp only [nrmT] at *; omega) | (simp at * <;> omega) | (simp_all <;> omega) | (simp_all; done)
    · first | omega | rfl | (intro hg; simp only [nrmT] at hg; omega) | (intro g1 g2; simp [g1, g2]; done) | (intro g1; simp at g1 ⊢; simp [g1]; done) | (simp only [nrmT] at *; omega) | (simp at * <;> omega) | (simp_all <;> omega) | (simp_all; done)
    · first | omega | rfl | (intro hg; simp only [nrmT] at hg; omega) | (intro g1 g2; simp [g1, g2]; done) | (intro g1; simp at g1 ⊢; simp [g1]; done) | (simp only [nrmT] at *; omega) | (simp at * <;> omega) | (simp_all <;> omega) | (simp_all; done)
    · intro b1
      refine ⟨?_, ?_⟩
      · have h5 : k < (l.length : Int) ∧ l.getD k.toNat 0 < n := by
          revert b1; by_cases h : k < (l.length : Int)
          · rw [decide_eq_true h]; intro g; exact ⟨h, by simpa using g⟩
          · rw [decide_eq_false h]; intro g; cases g
        omega
      · refine ⟨(k + 1), ?_⟩
        refine ⟨?_, ?_, rfl, rfl, rfl⟩
        · refine ⟨?_, ?_, ?_⟩
          · omega
          · have h5 : k < (l.length : Int) ∧ l.getD k.toNat 0 < n := by
              revert b1; by_cases h : k < (l.length : Int)
              · rw [decide_eq_true h]; intro g; exact ⟨h, by simpa using g⟩
              · rw [decide_eq_false h]; intro g; cases g
            omega
          · have h5 : k < (l.length : Int) ∧ l.getD k.toNat 0 < n := by
              revert b1; by_cases h : k < (l.length : Int)
              · rw [decide_eq_true h]; intro g; exact ⟨h, by simpa using g⟩
              · rw [decide_eq_false h]; intro g; cases g
            intro j hj
            by_cases e : j = k.toNat
            · rw [e]; exact h5.2
            · exact h3 j (by omega)
        · have h5 : k < (l.length : Int) ∧ l.getD k.toNat 0 < n := by
            revert b1; by_cases h : k < (l.length : Int)
            · rw [decide_eq_true h]; intro g; exact ⟨h, by simpa using g⟩
            · rw [decide_eq_false h]; intro g; cases g
          first | (show _ < _; omega) | (simp only [s_l1Put_o_mJ0]; omega) | (simp only [s_l1Put_o_mJ0] at *; simp at *; omega)
    · intro b2
      refine ⟨id, id, ?_, ?_, id, ?_, id, id, rfl, id, fun _ => rfl, ?_, ?_⟩
      · first | omega | rfl | (intro hg; simp only [nrmT] at hg; omega) | (intro g1 g2; simp [g1, g2]; done) | (intro g1; simp at g1 ⊢; simp [g1]; done) | (simp only [nrmT] at *; omega) | (simp at * <;> omega) | (simp_all <;> omega) | (simp_all; done)
      · first | omega | rfl | (intro hg; simp only [nrmT] at hg; omega) | (intro g1 g2; simp [g1, g2]; done) | (intro g1; simp at g1 ⊢; simp [g1]; done) | (simp only [nrmT] at *; omega) | (simp at * <;> omega) | (simp_all <;> omega) | (simp_all; done)
      · first | omega | rfl | (intro hg; simp only [nrmT] at hg; omega) | (intro g1 g2; simp [g1, g2]; done) | (intro g1; simp at g1 ⊢; simp [g1]; done) | (simp only [nrmT] at *; omega) | (simp at * <;> omega) | (simp_all <;> omega) | (simp_all; done)
      · intro b3
        refine ⟨rfl, ?_⟩
        · have h6 : k.toNat < l.length → ¬ l.getD k.toNat 0 < n := by
            intro g1 g2
            rw [decide_eq_true (show k < (l.length : Int) by omega), decide_eq_true g2] at b2
            cases b2
          have h7 : k < (l.length : Int) ∧ l.getD k.toNat 0 = n := by
            revert b3; by_cases h : k < (l.length : Int)
            · rw [decide_eq_true h]; intro g; exact ⟨h, by simpa using g⟩
            · rw [decide_eq_false h]; intro g; cases g
          rw [putL_at l n k.toNat (by omega) h3 h6, if_pos ⟨by omega, h7.2⟩]
      · intro b4
        refine ⟨rfl, ?_, ?_, rfl, trivial, ?_, ?_, rfl, ?_, ?_, ?_, ?_, trivial, ?_, ?_, ?_⟩
        · first | omega | rfl | (intro hg; simp only [nrmT] at hg; omega) | (intro g1 g2; simp [g1, g2]; done) | (intro g1; simp at g1 ⊢; simp [g1]; done) | (simp only [nrmT] at *; omega) | (simp at * <;> omega) | (simp_all <;> omega) | (simp_all; done)
        · first | omega | rfl | (intro hg; simp only [nrmT] at hg; omega) | (intro g1 g2; simp [g1, g2]; done) | (intro g1; simp at g1 ⊢; simp [g1]; done) | (simp only [nrmT] at *; omega) | (simp at * <;> omega) | (simp_all <;> omega) | (simp_all; done)
        · first | (simp only [List.length_append, List.length_take, List.length_drop, List.length_cons, List.length_nil]; done) | (simp only [List.length_append, List.length_take, List.length_drop, List.length_cons, List.length_nil]; omega)
        · first | (simp only [List.length_append, List.length_take, List.length_drop, List.length_cons, List.length_nil]; done) | (simp only [List.length_append, List.length_take, List.length_drop, List.length_cons, List.length_nil]; omega)
        · first | (simp only [List.length_append, List.length_take, List.length_drop, List.length_cons, List.length_nil]; done) | (simp only [List.length_append, List.length_take, List.length_drop, List.length_cons, List.length_nil]; omega)
        · first | omega | rfl | (intro hg; simp only [nrmT] at hg; omega) | (intro g1 g2; simp [g1, g2]; done) | (intro g1; simp at g1 ⊢; simp [g1]; done) | (simp only [nrmT] at *; omega) | (simp at * <;> omega) | (simp_all <;> omega) | (simp_all; done)
        · first | omega | rfl | (intro hg; simp only [nrmT] at hg; omega) | (intro g1 g2; simp [g1, g2]; done) | (intro g1; simp at g1 ⊢; simp [g1]; done) | (simp only [nrmT] at *; omega) | (simp at * <;> omega) | (simp_all <;> omega) | (simp_all; done)
        · first | (simp only [List.length_append, List.length_take, List.length_drop, List.length_cons, List.length_nil]; done) | (simp only [List.length_append, List.length_take, List.length_drop, List.length_cons, List.length_nil]; omega)
        · first | (simp only [List.length_append, List.length_take, List.length_drop, List.length_cons, List.length_nil]; done) | (simp only [List.length_append, List.length_take, List.length_drop, List.length_cons, List.length_nil]; omega)
        · first | (simp only [List.length_append, List.length_take, List.length_drop, List.length_cons, List.length_nil]; done) | (simp only [List.length_append, List.length_take, List.length_drop, List.length_cons, List.length_nil]; omega)
        · have h6 : k.toNat < l.length → ¬ l.getD k.toNat 0 < n := by
            intro g1 g2
            rw [decide_eq_true (show k < (l.length : Int) by omega), decide_eq_true g2] at b2
            cases b2
          have h7 : ¬ (k.toNat < l.length ∧ l.getD k.toNat 0 = n) := by
            rintro ⟨g1, g2⟩
            rw [decide_eq_true (show k < (l.length : Int) by omega), g2] at b4
            simp at b4
          rw [putL_at l n k.toNat (by omega) h3 h6, if_neg h7]
          simp
theorem s_l1Put_o_po (l : List Int) (n : Int) (hl : l.length ≤ 1048576) : PO Try.prog 202 3 l (putL l n) [.int .i64 n] :=
  po_by (Q := fun u => s_l1Put_o_P u l n) (by kernel_rfl) Try.func202 @Try.call202 (by kernel_rfl) s_l1Put_o_C (fun u => s_l1Put_o_A u l n) (by kernel_rfl) (fun u => s_l1Put_o_vc u l n hl) (fun u => by kernel_rfl)
def lnF (code : List Nat) (s : List Int × Cur) (_ : Nat) : List Int × Cur := (putL s.1 (pickV code s.2 30), pickC code s.2 30)
def lnTo (code : List Nat) (c : Cur) (k : Nat) : List Int × Cur := foldTo (lnF code) ([], pickC code c 7) k
def lnN (code : List Nat) (c : Cur) : Int := 1 + pickV code c 7
def lnE (code : List Nat) (c : Cur) : List Int × Cur := lnTo code c (lnN code c).toNat
theorem lnTo_succ (code : List Nat) (c : Cur) (k : Nat) : lnTo code c (k + 1) = lnF code (lnTo code c k) k := rfl
theorem lnN_in (code : List Nat) (c : Cur) : 1 ≤ lnN code c ∧ lnN code c ≤ 7 := by
  have := pickV_in code c (n := 7) (by omega)
  unfold lnN
  omega
theorem lnTo_ok (code : List Nat) {c : Cur} {b : Int} (h : okC c b) : ∀ k, okC (lnTo code c k).2 (b + 2 + 2 * k) ∧ (lnTo code c k).1.length ≤ k
  | 0 => ⟨okC_le (ok_pick h) (by omega), Nat.le_refl _⟩
  | k + 1 => by
    obtain ⟨h1, h2⟩ := lnTo_ok code h k
    rw [lnTo_succ]
    refine ⟨okC_le (ok_pick h1) (by omega), ?_⟩
    have := putL_len (lnTo code c k).1 (pickV code (lnTo code c k).2 30)
    unfold lnF
    dsimp only
    omega
def clF (code : List Nat) (s : List Int × Int × Cur) (_ : Nat) : List Int × Int × Cur := (s.1 ++ [s.2.1 + pickV code s.2.2 7], s.2.1 + pickV code s.2.2 7, pickC code s.2.2 7)
def clTo (code : List Nat) (c : Cur) (k : Nat) : List Int × Int × Cur := foldTo (clF code) ([], 0, pickC code (lnE code c).2 8) k
def clN (code : List Nat) (c : Cur) : Int := pickV code (lnE code c).2 8
def clE (code : List Nat) (c : Cur) : List Int × Int × Cur := clTo code c (clN code c).toNat
theorem clTo_succ (code : List Nat) (c : Cur) (k : Nat) : clTo code c (k + 1) = clF code (clTo code c k) k := rfl
theorem clN_in (code : List Nat) (c : Cur) : 0 ≤ clN code c ∧ clN code c < 8 := pickV_in code _ (n := 8) (by omega)
theorem clTo_ok (code : List Nat) {c : Cur} {b : Int} (h : okC c b) : ∀ k, okC (clTo code c k).2.2 (b + 18 + 2 * k) ∧ (clTo code c k).1.length = k ∧ 0 ≤ (clTo code c k).2.1 ∧ (clTo code c k).2.1 ≤ 6 * k
  | 0 => by
    have h1 := (lnTo_ok code h (lnN code c).toNat).1
    have h2 := lnN_in code c
    exact ⟨okC_le (ok_pick h1) (by omega), rfl, Int.le_refl _, Int.le_refl _⟩
  | k + 1 => by
    obtain ⟨h1, h2, h3, h4⟩ := clTo_ok code h k
    have h5 := pickV_in code (clTo code c k).2.2 (n := 7) (by omega)
    rw [clTo_succ]
    refine ⟨okC_le (ok_pick h1) (by omega), ?_, ?_, ?_⟩
    · show ((clTo code c k).1 ++ [(clTo code c k).2.1 + pickV code (clTo code c k).2.2 7]).length = k + 1
      simp [h2]
    · show 0 ≤ (clTo code c k).2.1 + pickV code (clTo code c k).2.2 7
      omega
    · show (clTo code c k).2.1 + pickV code (clTo code c k).2.2 7 ≤ 6 * ((k + 1 : Nat) : Int)
      omega
def lineV (code : List Nat) (c : Cur) : Int := pickV code (clE code c).2.2 30
def lineK (code : List Nat) (c : Cur) : Cur := pickC code (clE code c).2.2 30
def lineX (code : List Nat) (c : Cur) : Int := ([0, 99, 100, -1] : List Int).getD (pickV code (lineK code c) 4).toNat 0
def lineC (code : List Nat) (c : Cur) : Cur := if lineV code c = 0 ∨ lineV code c = 1 then pickC code (lineK code c) 4 else lineK code c
def lineS (code : List Nat) (c : Cur) : List Int := if lineV code c = 0 then (lnE code c).1 ++ [lineX code c] else if lineV code c = 2 then [] else (lnE code c).1
def lineL (code : List Nat) (c : Cur) : List Int := if lineV code c = 1 then (clE code c).1 ++ [lineX code c] else (clE code c).1
theorem ok_line {code : List Nat} {c : Cur} {b : Int} (h : okC c b) : okC (lineC code c) (b + 40) := by
  have h1 := (clTo_ok code h (clN code c).toNat).1
  have h2 := clN_in code c
  have h3 : okC (lineK code c) (b + 34) := okC_le (ok_pick h1) (by omega)
  unfold lineC
  split
  · exact okC_le (ok_pick h3) (by omega)
  · exact okC_le h3 (by omega)
abbrev s_l1Cur_line_JJ0 (u : Value) (code : List Nat) (c : Cur) (sites : List Int) (n : Int) (c1 : Cur) : Prop := (0 ≤ n) ∧ (n ≤ lnN code c) ∧ (sites = (lnTo code c (lnN code c - n).toNat).1) ∧ (c1 = (lnTo code c (lnN code c - n).toNat).2)
abbrev s_l1Cur_line_mJ0 (u : Value) (code : List Nat) (c : Cur) (sites : List Int) (n : Int) (c1 : Cur) : Nat := n.toNat
abbrev s_l1Cur_line_JA0 (u : Value) (code : List Nat) (c : Cur) (sites1 : List Int) (c2 : Cur) : Prop := (sites1 = (lnE code c).1) ∧ (c2 = (lnE code c).2)
abbrev s_l1Cur_line_JJ1 (u : Value) (code : List Nat) (c : Cur) (sites1 : List Int) (c2 : Cur) (clients : List Int) (now : Int) (m : Int) (c3 : Cur) : Prop := (0 ≤ m) ∧ (m ≤ clN code c) ∧ (clients = (clTo code c (clN code c - m).toNat).1) ∧ (now = (clTo code c (clN code c - m).toNat).2.1) ∧ (c3 = (clTo code c (clN code c - m).toNat).2.2)
abbrev s_l1Cur_line_mJ1 (u : Value) (code : List Nat) (c : Cur) (sites1 : List Int) (c2 : Cur) (clients : List Int) (now : Int) (m : Int) (c3 : Cur) : Nat := m.toNat
abbrev s_l1Cur_line_JA1 (u : Value) (code : List Nat) (c : Cur) (sites1 : List Int) (c2 : Cur) (clients1 : List Int) (c4 : Cur) : Prop := (clients1 = (clE code c).1) ∧ (c4 = (clE code c).2.2)
def s_l1Cur_line_C (f : FuncId) (ds : List D) : Orc := .no
def s_l1Cur_line_A (u : Value) (code : List Nat) (c : Cur) : Ann := .two (.none) (.two (.none) (.cut (.two (.mark [] [(1, .cell [.int .i64 ((pickC code c 7).pos), .int .u64 ((pickC code c 7).seed)] (.one (.d (.int .i64 (pickV code c 7)))))]) (.loop (cut3 (fun (sites : List Int) (n : Int) (c1 : Cur) => s_l1Cur_line_JJ0 u code c sites n c1) (fun (sites : List Int) (n : Int) (c1 : Cur) => [(0, .ptr 0 0), (4, .own 1000000 sites.length), (5, .own 10 0), (6, .d true (.int .i64 n))]) (fun (sites : List Int) (n : Int) (c1 : Cur) => [(1000000, .arr true 3 (.ints sites)), (0, .box 98 [.d false (.lit u (.sl (.bytes code))), .d true (.int .i64 c1.pos), .d true (.int .u64 c1.seed)]), (10, .arr true 3 (.ints ([])))])) (fun g => s_l1Cur_line_mJ0 u code c g.1 g.2.1 g.2.2) (fun g => (fun (sites : List Int) (n : Int) (c1 : Cur) => .two (.none) (.two (.mark [] [(2, .cell [.int .i64 ((pickC code c1 30).pos), .int .u64 ((pickC code c1 30).seed)] (.one (.d (.int .i64 (pickV code c1 30))))), (3, .put (putL sites (pickV code c1 30)))]) (.none))) (g.1) (g.2.1) (g.2.2)))) (cut2 (fun (sites1 : List Int) (c2 : Cur) => s_l1Cur_line_JA0 u code c sites1 c2) (fun (sites1 : List Int) (c2 : Cur) => [(0, .ptr 0 0), (4, .own 1000050 sites1.length), (5, .own 10 0)]) (fun (sites1 : List Int) (c2 : Cur) => [(1000050, .arr true 3 (.ints sites1)), (0, .box 98 [.d false (.lit u (.sl (.bytes code))), .d true (.int .i64 c2.pos), .d true (.int .u64 c2.seed)]), (10, .arr true 3 (.ints ([])))])) (fun g => (fun (sites1 : List Int) (c2 : Cur) => .two (.none) (.cut (.two (.mark [] [(1, .cell [.int .i64 ((pickC code c2 8).pos), .int .u64 ((pickC code c2 8).seed)] (.one (.d (.int .i64 (pickV code c2 8)))))]) (.loop (cut4 (fun (clients : List Int) (now : Int) (m : Int) (c3 : Cur) => s_l1Cur_line_JJ1 u code c sites1 c2 clients now m c3) (fun (clients : List Int) (now : Int) (m : Int) (c3 : Cur) => [(0, .ptr 0 0), (4, .own 1000050 sites1.length), (5, .own 1000100 clients.length), (7, .d true (.int .i64 now)), (8, .d true (.int .i64 m))]) (fun (clients : List Int) (now : Int) (m : Int) (c3 : Cur) => [(1000100, .arr true 3 (.ints clients)), (0, .box 98 [.d false (.lit u (.sl (.bytes code))), .d true (.int .i64 c3.pos), .d true (.int .u64 c3.seed)]), (1000050, .arr true 3 (.ints sites1))])) (fun g => s_l1Cur_line_mJ1 u code c sites1 c2 g.1 g.2.1 g.2.2.1 g.2.2.2) (fun g => (fun (clients : List Int) (now : Int) (m : Int) (c3 : Cur) => .two (.none) (.two (.two (.mark [] [(2, .cell [.int .i64 ((pickC code c3 7).pos), .int .u64 ((pickC code c3 7).seed)] (.one (.d (.int .i64 (pickV code c3 7)))))]) (.none)) (.none))) (g.1) (g.2.1) (g.2.2.1) (g.2.2.2)))) (cut2 (fun (clients1 : List Int) (c4 : Cur) => s_l1Cur_line_JA1 u code c sites1 c2 clients1 c4) (fun (clients1 : List Int) (c4 : Cur) => [(0, .ptr 0 0), (4, .own 1000050 sites1.length), (5, .own 1000150 clients1.length)]) (fun (clients1 : List Int) (c4 : Cur) => [(1000150, .arr true 3 (.ints clients1)), (0, .box 98 [.d false (.lit u (.sl (.bytes code))), .d true (.int .i64 c4.pos), .d true (.int .u64 c4.seed)]), (1000050, .arr true 3 (.ints sites1))])) (fun g => (fun (clients1 : List Int) (c4 : Cur) => .two (.two (.mark [] [(1, .cell [.int .i64 ((pickC code c4 30).pos), .int .u64 ((pickC code c4 30).seed)] (.one (.d (.int .i64 (pickV code c4 30)))))]) (.two (.none) (.two (.mark [] [(3, .cell [.int .i64 ((pickC code (pickC code c4 30) (([0, 99, 100, (-1)]).length : Int)).pos), .int .u64 ((pickC code (pickC code c4 30) (([0, 99, 100, (-1)]).length : Int)).seed)] (.one (.d (.int .i64 (([0, 99, 100, (-1)]).getD (pickV code (pickC code c4 30) (([0, 99, 100, (-1)]).length : Int)).toNat 0)))))]) (.two (.none) (.two (.mark [] [(3, .cell [.int .i64 ((pickC code (pickC code c4 30) (([0, 99, 100, (-1)]).length : Int)).pos), .int .u64 ((pickC code (pickC code c4 30) (([0, 99, 100, (-1)]).length : Int)).seed)] (.one (.d (.int .i64 (([0, 99, 100, (-1)]).getD (pickV code (pickC code c4 30) (([0, 99, 100, (-1)]).length : Int)).toNat 0)))))]) (.none)))))) (.none)) (g.1) (g.2)))) (g.1) (g.2))))
def s_l1Cur_line_P (u : Value) (code : List Nat) (c : Cur) : Prop :=
  (((PK Try.prog 107 98 (.sl (.bytes code)) [.int .i64 c.pos, .int .u64 c.seed] [.int .i64 ((pickC code c 7).pos), .int .u64 ((pickC code c 7).seed)] [.int .i64 7] (.one (.d (.int .i64 (pickV code c 7))))) ∧ (-9223372036854775808 ≤ (1 + (pickV code c 7)) ∧ (1 + (pickV code c 7)) ≤ 9223372036854775807) ∧ ((∃ sites' : List Int, ∃ n' : Int, ∃ c1' : Cur, (s_l1Cur_line_JJ0 u code c sites' n' c1') ∧ ((0 : Nat) = sites'.length) ∧ ((0 : Nat) = 0) ∧ ((1 + (pickV code c 7)) = n') ∧ ([] = sites') ∧ ((.lit u (.sl (.bytes code)) : D) = .lit u (.sl (.bytes code))) ∧ ((pickC code c 7).pos = c1'.pos) ∧ ((pickC code c 7).seed = c1'.seed) ∧ (([] : List Int) = [])) ∧ (∀ sites : List Int, ∀ n : Int, ∀ c1 : Cur, (s_l1Cur_line_JJ0 u code c sites n c1) → (((decide (n > 0)) = true → (PK Try.prog 107 98 (.sl (.bytes code)) [.int .i64 c1.pos, .int .u64 c1.seed] [.int .i64 ((pickC code c1 30).pos), .int .u64 ((pickC code c1 30).seed)] [.int .i64 30] (.one (.d (.int .i64 (pickV code c1 30))))) ∧ (sites.length = sites.length) ∧ (PO Try.prog 202 3 sites (putL sites (pickV code c1 30)) [.int .i64 (pickV code c1 30)]) ∧ (-9223372036854775808 ≤ (n - 1) ∧ (n - 1) ≤ 9223372036854775807) ∧ (∃ sites' : List Int, ∃ n' : Int, ∃ c1' : Cur, (s_l1Cur_line_JJ0 u code c sites' n' c1') ∧ (s_l1Cur_line_mJ0 u code c sites' n' c1' < s_l1Cur_line_mJ0 u code c sites n c1) ∧ ((putL sites (pickV code c1 30)).length = sites'.length) ∧ ((0 : Nat) = 0) ∧ ((n - 1) = n') ∧ ((putL sites (pickV code c1 30)) = sites') ∧ ((.lit u (.sl (.bytes code)) : D) = .lit u (.sl (.bytes code))) ∧ ((pickC code c1 30).pos = c1'.pos) ∧ ((pickC code c1 30).seed = c1'.seed) ∧ (([] : List Int) = []))) ∧ ((decide (n > 0)) = false → (∃ sites1' : List Int, ∃ c2' : Cur, (s_l1Cur_line_JA0 u code c sites1' c2') ∧ (sites.length = sites1'.length) ∧ ((0 : Nat) = 0) ∧ (sites = sites1') ∧ ((.lit u (.sl (.bytes code)) : D) = .lit u (.sl (.bytes code))) ∧ (c1.pos = c2'.pos) ∧ (c1.seed = c2'.seed) ∧ (([] : List Int) = []))))))) ∧ (∀ sites1 : List Int, ∀ c2 : Cur, (s_l1Cur_line_JA0 u code c sites1 c2) → (((PK Try.prog 107 98 (.sl (.bytes code)) [.int .i64 c2.pos, .int .u64 c2.seed] [.int .i64 ((pickC code c2 8).pos), .int .u64 ((pickC code c2 8).seed)] [.int .i64 8] (.one (.d (.int .i64 (pickV code c2 8))))) ∧ ((∃ clients' : List Int, ∃ now' : Int, ∃ m' : Int, ∃ c3' : Cur, (s_l1Cur_line_JJ1 u code c sites1 c2 clients' now' m' c3') ∧ (sites1.length = sites1.length) ∧ ((0 : Nat) = clients'.length) ∧ ((0 : Int) = now') ∧ ((pickV code c2 8) = m') ∧ ([] = clients') ∧ ((.lit u (.sl (.bytes code)) : D) = .lit u (.sl (.bytes code))) ∧ ((pickC code c2 8).pos = c3'.pos) ∧ ((pickC code c2 8).seed = c3'.seed) ∧ (sites1 = sites1)) ∧ (∀ clients : List Int, ∀ now : Int, ∀ m : Int, ∀ c3 : Cur, (s_l1Cur_line_JJ1 u code c sites1 c2 clients now m c3) → (((decide (m > 0)) = true → (PK Try.prog 107 98 (.sl (.bytes code)) [.int .i64 c3.pos, .int .u64 c3.seed] [.int .i64 ((pickC code c3 7).pos), .int .u64 ((pickC code c3 7).seed)] [.int .i64 7] (.one (.d (.int .i64 (pickV code c3 7))))) ∧ (-9223372036854775808 ≤ (now + (pickV code c3 7)) ∧ (now + (pickV code c3 7)) ≤ 9223372036854775807) ∧ (clients.length = clients.length) ∧ ((1 : Nat) = 1) ∧ ((clients.length + 1) * 8 ≤ 140737488355328) ∧ (-9223372036854775808 ≤ (m - 1) ∧ (m - 1) ≤ 9223372036854775807) ∧ (∃ clients' : List Int, ∃ now' : Int, ∃ m' : Int, ∃ c3' : Cur, (s_l1Cur_line_JJ1 u code c sites1 c2 clients' now' m' c3') ∧ (s_l1Cur_line_mJ1 u code c sites1 c2 clients' now' m' c3' < s_l1Cur_line_mJ1 u code c sites1 c2 clients now m c3) ∧ (sites1.length = sites1.length) ∧ ((clients.length + 1) = clients'.length) ∧ ((now + (pickV code c3 7)) = now') ∧ ((m - 1) = m') ∧ ((clients ++ [(now + (pickV code c3 7))]) = clients') ∧ ((.lit u (.sl (.bytes code)) : D) = .lit u (.sl (.bytes code))) ∧ ((pickC code c3 7).pos = c3'.pos) ∧ ((pickC code c3 7).seed = c3'.seed) ∧ (sites1 = sites1))) ∧ ((decide (m > 0)) = false → (∃ clients1' : List Int, ∃ c4' : Cur, (s_l1Cur_line_JA1 u code c sites1 c2 clients1' c4') ∧ (sites1.length = sites1.length) ∧ (clients.length = clients1'.length) ∧ (clients = clients1') ∧ ((.lit u (.sl (.bytes code)) : D) = .lit u (.sl (.bytes code))) ∧ (c3.pos = c4'.pos) ∧ (c3.seed = c4'.seed) ∧ (sites1 = sites1))))))) ∧ (∀ clients1 : List Int, ∀ c4 : Cur, (s_l1Cur_line_JA1 u code c sites1 c2 clients1 c4) → (PK Try.prog 107 98 (.sl (.bytes code)) [.int .i64 c4.pos, .int .u64 c4.seed] [.int .i64 ((pickC code c4 30).pos), .int .u64 ((pickC code c4 30).seed)] [.int .i64 30] (.one (.d (.int .i64 (pickV code c4 30))))) ∧ ((((pickV code c4 30) == 0) = true → ((4 : Nat) = 4) ∧ (PK Try.prog 106 98 (.sl (.bytes code)) [.int .i64 ((pickC code c4 30).pos), .int .u64 ((pickC code c4 30).seed)] [.int .i64 ((pickC code (pickC code c4 30) (([0, 99, 100, (-1)]).length : Int)).pos), .int .u64 ((pickC code (pickC code c4 30) (([0, 99, 100, (-1)]).length : Int)).seed)] [.sl (.ints ([0, 99, 100, (-1)]))] (.one (.d (.int .i64 (([0, 99, 100, (-1)]).getD (pickV code (pickC code c4 30) (([0, 99, 100, (-1)]).length : Int)).toNat 0))))) ∧ (sites1.length = sites1.length) ∧ ((1 : Nat) = 1) ∧ ((sites1.length + 1) * 8 ≤ 140737488355328) ∧ (((.lit u (.sl (.bytes code)) : D) = .lit u (.sl (.bytes code))) ∧ ((pickC code (pickC code c4 30) (([0, 99, 100, (-1)]).length : Int)).pos = (lineC code c).pos) ∧ ((pickC code (pickC code c4 30) (([0, 99, 100, (-1)]).length : Int)).seed = (lineC code c).seed) ∧ ((sites1.length + 1) = (sites1 ++ [(([0, 99, 100, (-1)]).getD (pickV code (pickC code c4 30) (([0, 99, 100, (-1)]).length : Int)).toNat 0)]).length) ∧ (((sites1 ++ [(([0, 99, 100, (-1)]).getD (pickV code (pickC code c4 30) (([0, 99, 100, (-1)]).length : Int)).toNat 0)]) : List Int) = lineS code c) ∧ (clients1.length = clients1.length) ∧ ((clients1 : List Int) = lineL code c))) ∧ (((pickV code c4 30) == 0) = false → ((((pickV code c4 30) == 1) = true → ((4 : Nat) = 4) ∧ (PK Try.prog 106 98 (.sl (.bytes code)) [.int .i64 ((pickC code c4 30).pos), .int .u64 ((pickC code c4 30).seed)] [.int .i64 ((pickC code (pickC code c4 30) (([0, 99, 100, (-1)]).length : Int)).pos), .int .u64 ((pickC code (pickC code c4 30) (([0, 99, 100, (-1)]).length : Int)).seed)] [.sl (.ints ([0, 99, 100, (-1)]))] (.one (.d (.int .i64 (([0, 99, 100, (-1)]).getD (pickV code (pickC code c4 30) (([0, 99, 100, (-1)]).length : Int)).toNat 0))))) ∧ (clients1.length = clients1.length) ∧ ((1 : Nat) = 1) ∧ ((clients1.length + 1) * 8 ≤ 140737488355328) ∧ (((.lit u (.sl (.bytes code)) : D) = .lit u (.sl (.bytes code))) ∧ ((pickC code (pickC code c4 30) (([0, 99, 100, (-1)]).length : Int)).pos = (lineC code c).pos) ∧ ((pickC code (pickC code c4 30) (([0, 99, 100, (-1)]).length : Int)).seed = (lineC code c).seed) ∧ (sites1.length = sites1.length) ∧ ((sites1 : List Int) = lineS code c) ∧ ((clients1.length + 1) = (clients1 ++ [(([0, 99, 100, (-1)]).getD (pickV code (pickC code c4 30) (([0, 99, 100, (-1)]).length : Int)).toNat 0)]).length) ∧ (((clients1 ++ [(([0, 99, 100, (-1)]).getD (pickV code (pickC code c4 30) (([0, 99, 100, (-1)]).length : Int)).toNat 0)]) : List Int) = lineL code c))) ∧ (((pickV code c4 30) == 1) = false → ((((pickV code c4 30) == 2) = true → (((.lit u (.sl (.bytes code)) : D) = .lit u (.sl (.bytes code))) ∧ ((pickC code c4 30).pos = (lineC code c).pos) ∧ ((pickC code c4 30).seed = (lineC code c).seed) ∧ ((0 : Nat) = 0) ∧ (([] : List Int) = lineS code c) ∧ (clients1.length = clients1.length) ∧ ((clients1 : List Int) = lineL code c))) ∧ (((pickV code c4 30) == 2) = false → (((.lit u (.sl (.bytes code)) : D) = .lit u (.sl (.bytes code))) ∧ ((pickC code c4 30).pos = (lineC code c).pos) ∧ ((pickC code c4 30).seed = (lineC code c).seed) ∧ (sites1.length = sites1.length) ∧ ((sites1 : List Int) = lineS code c) ∧ (clients1.length = clients1.length) ∧ ((clients1 : List Int) = lineL code c))))))))))))
theorem s_l1Cur_line_vc (u : Value) (code : List Nat) (c : Cur) (hb : ∀ x9 ∈ code, x9 < 256) (hc : okC c 1000000)  : s_l1Cur_line_P u code c := by
  unfold s_l1Cur_line_P
  have nn := lnN_in code c
  have mn := clN_in code c
  have so := lnTo_ok code hc
  have sc := clTo_ok code hc
  refine ⟨?_, ?_⟩
  · refine ⟨?_, ?_, ?_, ?_⟩
    · refine s_l1Cur_pick_pk code c 7 ?_ ?_
      · exact hb
      · exact okC_le hc (by omega)
    · have := pickV_in code c (n := 7) (by omega)
      omega
    · refine ⟨([]), (1 + (pickV code c 7)), (pickC code c 7), ?_⟩
      refine ⟨?_, rfl, rfl, rfl, ?_, rfl, rfl, rfl, rfl⟩
      · refine ⟨?_, ?_, ?_, ?_⟩
        · have := pickV_in code c (n := 7) (by omega)
          omega
        · first | omega | exact Int.le_refl _
        · show _ = (lnTo code c (lnN code c - lnN code c).toNat).1
          rw [Int.sub_self]; rfl
        · show _ = (lnTo code c (lnN code c - lnN code c).toNat).2
          rw [Int.sub_self]; rfl
      · first | omega | rfl | (intro hg; simp only [nrmT] at hg; omega) | (intro g1 g2; simp [g1, g2]; done) | (intro g1; simp at g1 ⊢; simp [g1]; done) | (simp only [nrmT] at *; omega) | (simp at * <;> omega) | (simp_all <;> omega) | (simp_all; done)
    · intro sites n c1 hJ
      obtain ⟨h1, h2, h3, h4⟩ := hJ
      refine ⟨?_, ?_⟩
      · intro b1
        try simp only [nrmT] at b1
        refine ⟨?_, rfl, ?_, ?_, ?_⟩
        · refine s_l1Cur_pick_pk code c1 30 ?_ ?_
          · exact hb
          · have ho := (so (lnN code c - n).toNat).1
            rw [← h4] at ho
            exact okC_le ho (by omega)
        · refine s_l1Put_o_po sites (pickV code c1 30) ?_
          · have := (so (lnN code c - n).toNat).2
            rw [h3]; omega
        · first | omega | rfl | (intro hg; simp only [nrmT] at hg; omega) | (intro g1 g2; simp [g1, g2]; done) | (intro g1; simp at g1 ⊢; simp [g1]; done) | (simp only [nrmT] at *; omega) | (simp at * <;> omega) | (simp_all <;> omega) | (simp_all; done)
        · refine ⟨(putL sites (pickV code c1 30)), (n - 1), (pickC code c1 30), ?_⟩
          refine ⟨?_, ?_, rfl, rfl, rfl, rfl, rfl, rfl, rfl, rfl⟩
          · refine ⟨?_, ?_, ?_, ?_⟩
            · first | omega | rfl | (intro hg; simp only [nrmT] at hg; omega) | (intro g1 g2; simp [g1, g2]; done) | (intro g1; simp at g1 ⊢; simp [g1]; done) | (simp only [nrmT] at *; omega) | (simp at * <;> omega) | (simp_all <;> omega) | (simp_all; done)
            · first | omega | exact Int.le_refl _
            · rw [show (lnN code c - (n - 1)).toNat = (lnN code c - n).toNat + 1 by omega, lnTo_succ]
              show _ = putL (lnTo code c (lnN code c - n).toNat).1 (pickV code (lnTo code c (lnN code c - n).toNat).2 30)
              rw [← h3, ← h4]
            · rw [show (lnN code c - (n - 1)).toNat = (lnN code c - n).toNat + 1 by omega, lnTo_succ]
              show _ = pickC code (lnTo code c (lnN code c - n).toNat).2 30
              rw [← h4]
          · first | (show _ < _; omega) | (simp only [s_l1Cur_line_mJ0]; omega) | (simp only [s_l1Cur_line_mJ0] at *; simp at *; omega)
      · intro b2
        try simp only [nrmT] at b2
        refine ⟨sites, c1, ?_⟩
        refine ⟨?_, rfl, rfl, rfl, rfl, rfl, rfl, rfl⟩
        · refine ⟨?_, ?_⟩
          · rw [h3]; unfold lnE; rw [show lnN code c - n = lnN code c by omega]
          · rw [h4]; unfold lnE; rw [show lnN code c - n = lnN code c by omega]
  · intro sites1 c2 hJ
    obtain ⟨k1, k2⟩ := hJ
    refine ⟨?_, ?_⟩
    · refine ⟨?_, ?_, ?_⟩
      · refine s_l1Cur_pick_pk code c2 8 ?_ ?_
        · exact hb
        · rw [k2]
          exact okC_le (so (lnN code c).toNat).1 (by omega)
      · refine ⟨([]), 0, (pickV code c2 8), (pickC code c2 8), ?_⟩
        refine ⟨?_, rfl, rfl, rfl, rfl, ?_, rfl, rfl, rfl, rfl⟩
        · refine ⟨?_, ?_, ?_, ?_, ?_⟩
          · exact pickV_le _ _ _
          · first | omega | (rw [k2]; exact Int.le_refl _)
          · rw [show clN code c - pickV code c2 8 = 0 by rw [k2]; unfold clN; omega]
            first | rfl | (rw [k2]; rfl)
          · rw [show clN code c - pickV code c2 8 = 0 by rw [k2]; unfold clN; omega]
            first | rfl | (rw [k2]; rfl)
          · rw [show clN code c - pickV code c2 8 = 0 by rw [k2]; unfold clN; omega]
            first | rfl | (rw [k2]; rfl)
        · first | omega | rfl | (intro hg; simp only [nrmT] at hg; omega) | (intro g1 g2; simp [g1, g2]; done) | (intro g1; simp at g1 ⊢; simp [g1]; done) | (simp only [nrmT] at *; omega) | (simp at * <;> omega) | (simp_all <;> omega) | (simp_all; done)
      · intro clients now m c3 hJ
        obtain ⟨j1, j2, j3, j4, j5⟩ := hJ
        refine ⟨?_, ?_⟩
        · intro b3
          try simp only [nrmT] at b3
          refine ⟨?_, ?_, rfl, rfl, ?_, ?_, ?_⟩
          · refine s_l1Cur_pick_pk code c3 7 ?_ ?_
            · exact hb
            · have ho := (sc (clN code c - m).toNat).1
              rw [← j5] at ho
              exact okC_le ho (by omega)
          · have q := sc (clN code c - m).toNat
            have p1 := pickV_in code c3 (n := 7) (by omega)
            rw [← j4] at q
            omega
          · have q := (sc (clN code c - m).toNat).2.1
            rw [j3, q]; omega
          · first | omega | rfl | (intro hg; simp only [nrmT] at hg; omega) | (intro g1 g2; simp [g1, g2]; done) | (intro g1; simp at g1 ⊢; simp [g1]; done) | (simp only [nrmT] at *; omega) | (simp at * <;> omega) | (simp_all <;> omega) | (simp_all; done)
          · refine ⟨(clients ++ [(now + (pickV code c3 7))]), (now + (pickV code c3 7)), (m - 1), (pickC code c3 7), ?_⟩
            refine ⟨?_, ?_, rfl, ?_, rfl, rfl, rfl, rfl, rfl, rfl, rfl⟩
            · refine ⟨?_, ?_, ?_, ?_, ?_⟩
              · first | omega | rfl | (intro hg; simp only [nrmT] at hg; omega) | (intro g1 g2; simp [g1, g2]; done) | (intro g1; simp at g1 ⊢; simp [g1]; done) | (simp only [nrmT] at *; omega) | (simp at * <;> omega) | (simp_all <;> omega) | (simp_all; done)
              · first | omega | (rw [k2]; exact Int.le_refl _)
              · rw [show (clN code c - (m - 1)).toNat = (clN code c - m).toNat + 1 by omega, clTo_succ]
                show _ = (clTo code c (clN code c - m).toNat).1 ++ [(clTo code c (clN code c - m).toNat).2.1 + pickV code (clTo code c (clN code c - m).toNat).2.2 7]
                rw [← j3, ← j4, ← j5]
              · rw [show (clN code c - (m - 1)).toNat = (clN code c - m).toNat + 1 by omega, clTo_succ]
                show _ = (clTo code c (clN code c - m).toNat).2.1 + pickV code (clTo code c (clN code c - m).toNat).2.2 7
                rw [← j4, ← j5]
              · rw [show (clN code c - (m - 1)).toNat = (clN code c - m).toNat + 1 by omega, clTo_succ]
                show _ = pickC code (clTo code c (clN code c - m).toNat).2.2 7
                rw [← j5]
            · first | (show _ < _; omega) | (simp only [s_l1Cur_line_mJ1]; omega) | (simp only [s_l1Cur_line_mJ1] at *; simp at *; omega)
            · first | omega | rfl | (intro hg; simp only [nrmT] at hg; omega) | (intro g1 g2; simp [g1, g2]; done) | (intro g1; simp at g1 ⊢; simp [g1]; done) | (simp only [nrmT] at *; omega) | (simp at * <;> omega) | (simp_all <;> omega) | (simp_all; done)
        · intro b4
          try simp only [nrmT] at b4
          refine ⟨clients, c3, ?_⟩
          refine ⟨?_, rfl, rfl, rfl, rfl, rfl, rfl, rfl⟩
          · refine ⟨?_, ?_⟩
            · rw [j3]; unfold clE; rw [show clN code c - m = clN code c by omega]
            · rw [j5]; unfold clE; rw [show clN code c - m = clN code c by omega]
    · intro clients1 c4 hJ
      obtain ⟨k3, k4⟩ := hJ
      refine ⟨?_, ?_, ?_⟩
      · refine s_l1Cur_pick_pk code c4 30 ?_ ?_
        · exact hb
        · rw [k4]
          exact okC_le (sc (clN code c).toNat).1 (by omega)
      · intro b5
        try simp only [nrmT] at b5
        refine ⟨rfl, ?_, rfl, rfl, ?_, rfl, ?_, ?_, ?_, ?_, rfl, ?_⟩
        · refine s_l1Cur_among_pk code (pickC code c4 30) ([0, 99, 100, (-1)]) ?_ ?_ ?_
          · exact hb
          · refine okC_le (ok_pick (b := 1000100) ?_) (by omega)
            rw [k4]
            exact okC_le (sc (clN code c).toNat).1 (by omega)
          · first | omega | rfl | (intro hg; simp only [nrmT] at hg; omega) | (intro g1 g2; simp [g1, g2]; done) | (intro g1; simp at g1 ⊢; simp [g1]; done) | (simp only [nrmT] at *; omega) | (simp at * <;> omega) | (simp_all <;> omega) | (simp_all; done)
        · have q := (so (lnN code c).toNat).2
          rw [k1]; show ((lnTo code c (lnN code c).toNat).1.length + 1) * 8 ≤ _
          omega
        · have hv : lineV code c = pickV code c4 30 := by rw [k4]; rfl
          have hk : lineK code c = pickC code c4 30 := by rw [k4]; rfl
          unfold lineC
          first | (rw [if_pos (by rw [hv]; omega), hk]; rfl) | (rw [if_neg (by rw [hv]; omega), hk])
        · have hv : lineV code c = pickV code c4 30 := by rw [k4]; rfl
          have hk : lineK code c = pickC code c4 30 := by rw [k4]; rfl
          unfold lineC
          first | (rw [if_pos (by rw [hv]; omega), hk]; rfl) | (rw [if_neg (by rw [hv]; omega), hk])
        · first | omega | rfl | (intro hg; simp only [nrmT] at hg; omega) | (intro g1 g2; simp [g1, g2]; done) | (intro g1; simp at g1 ⊢; simp [g1]; done) | (simp only [nrmT] at *; omega) | (simp at * <;> omega) | (simp_all <;> omega) | (simp_all; done)
        · have hv : lineV code c = pickV code c4 30 := by rw [k4]; rfl
          have hk : lineK code c = pickC code c4 30 := by rw [k4]; rfl
          unfold lineS
          first | (rw [if_pos (by rw [hv]; omega), k1]; unfold lineX; rw [hk]; rfl) | (rw [if_neg (by rw [hv]; omega), if_pos (by rw [hv]; omega)]) | (rw [if_neg (by rw [hv]; omega), if_neg (by rw [hv]; omega), k1])
        · have hv : lineV code c = pickV code c4 30 := by rw [k4]; rfl
          have hk : lineK code c = pickC code c4 30 := by rw [k4]; rfl
          unfold lineL
          first | (rw [if_pos (by rw [hv]; omega), k3]; unfold lineX; rw [hk]; rfl) | (rw [if_neg (by rw [hv]; omega), k3])
      · intro b6
        try simp only [nrmT] at b6
        refine ⟨?_, ?_⟩
        · intro b7
          try simp only [nrmT] at b7
          refine ⟨rfl, ?_, rfl, rfl, ?_, rfl, ?_, ?_, rfl, ?_, ?_, ?_⟩
          · refine s_l1Cur_among_pk code (pickC code c4 30) ([0, 99, 100, (-1)]) ?_ ?_ ?_
            · exact hb
            · refine okC_le (ok_pick (b := 1000100) ?_) (by omega)
              rw [k4]
              exact okC_le (sc (clN code c).toNat).1 (by omega)
            · first | omega | rfl | (intro hg; simp only [nrmT] at hg; omega) | (intro g1 g2; simp [g1, g2]; done) | (intro g1; simp at g1 ⊢; simp [g1]; done) | (simp only [nrmT] at *; omega) | (simp at * <;> omega) | (simp_all <;> omega) | (simp_all; done)
          · have q := (sc (clN code c).toNat).2.1
            rw [k3]; show ((clTo code c (clN code c).toNat).1.length + 1) * 8 ≤ _
            omega
          · have hv : lineV code c = pickV code c4 30 := by rw [k4]; rfl
            have hk : lineK code c = pickC code c4 30 := by rw [k4]; rfl
            unfold lineC
            first | (rw [if_pos (by rw [hv]; omega), hk]; rfl) | (rw [if_neg (by rw [hv]; omega), hk])
          · have hv : lineV code c = pickV code c4 30 := by rw [k4]; rfl
            have hk : lineK code c = pickC code c4 30 := by rw [k4]; rfl
            unfold lineC
            first | (rw [if_pos (by rw [hv]; omega), hk]; rfl) | (rw [if_neg (by rw [hv]; omega), hk])
          · have hv : lineV code c = pickV code c4 30 := by rw [k4]; rfl
            have hk : lineK code c = pickC code c4 30 := by rw [k4]; rfl
            unfold lineS
            first | (rw [if_pos (by rw [hv]; omega), k1]; unfold lineX; rw [hk]; rfl) | (rw [if_neg (by rw [hv]; omega), if_pos (by rw [hv]; omega)]) | (rw [if_neg (by rw [hv]; omega), if_neg (by rw [hv]; omega), k1])
          · first | omega | rfl | (intro hg; simp only [nrmT] at hg; omega) | (intro g1 g2; simp [g1, g2]; done) | (intro g1; simp at g1 ⊢; simp [g1]; done) | (simp only [nrmT] at *; omega) | (simp at * <;> omega) | (simp_all <;> omega) | (simp_all; done)
          · have hv : lineV code c = pickV code c4 30 := by rw [k4]; rfl
            have hk : lineK code c = pickC code c4 30 := by rw [k4]; rfl
            unfold lineL
            first | (rw [if_pos (by rw [hv]; omega), k3]; unfold lineX; rw [hk]; rfl) | (rw [if_neg (by rw [hv]; omega), k3])
        · intro b8
          try simp only [nrmT] at b8
          refine ⟨?_, ?_⟩
          · intro b9
            try simp only [nrmT] at b9
            refine ⟨rfl, ?_, ?_, rfl, ?_, rfl, ?_⟩
            · have hv : lineV code c = pickV code c4 30 := by rw [k4]; rfl
              have hk : lineK code c = pickC code c4 30 := by rw [k4]; rfl
              unfold lineC
              first | (rw [if_pos (by rw [hv]; omega), hk]; rfl) | (rw [if_neg (by rw [hv]; omega), hk])
            · have hv : lineV code c = pickV code c4 30 := by rw [k4]; rfl
              have hk : lineK code c = pickC code c4 30 := by rw [k4]; rfl
              unfold lineC
              first | (rw [if_pos (by rw [hv]; omega), hk]; rfl) | (rw [if_neg (by rw [hv]; omega), hk])
            · have hv : lineV code c = pickV code c4 30 := by rw [k4]; rfl
              have hk : lineK code c = pickC code c4 30 := by rw [k4]; rfl
              unfold lineS
              first | (rw [if_pos (by rw [hv]; omega), k1]; unfold lineX; rw [hk]; rfl) | (rw [if_neg (by rw [hv]; omega), if_pos (by rw [hv]; omega)]) | (rw [if_neg (by rw [hv]; omega), if_neg (by rw [hv]; omega), k1])
            · have hv : lineV code c = pickV code c4 30 := by rw [k4]; rfl
              have hk : lineK code c = pickC code c4 30 := by rw [k4]; rfl
              unfold lineL
              first | (rw [if_pos (by rw [hv]; omega), k3]; unfold lineX; rw [hk]; rfl) | (rw [if_neg (by rw [hv]; omega), k3])
          · intro b10
            try simp only [nrmT] at b10
            refine ⟨rfl, ?_, ?_, rfl, ?_, rfl, ?_⟩
            · have hv : lineV code c = pickV code c4 30 := by rw [k4]; rfl
              have hk : lineK code c = pickC code c4 30 := by rw [k4]; rfl
              unfold lineC
              first | (rw [if_pos (by rw [hv]; omega), hk]; rfl) | (rw [if_neg (by rw [hv]; omega), hk])
            · have hv : lineV code c = pickV code c4 30 := by rw [k4]; rfl
              have hk : lineK code c = pickC code c4 30 := by rw [k4]; rfl
              unfold lineC
              first | (rw [if_pos (by rw [hv]; omega), hk]; rfl) | (rw [if_neg (by rw [hv]; omega), hk])
            · have hv : lineV code c = pickV code c4 30 := by rw [k4]; rfl
              have hk : lineK code c = pickC code c4 30 := by rw [k4]; rfl
              unfold lineS
              first | (rw [if_pos (by rw [hv]; omega), k1]; unfold lineX; rw [hk]; rfl) | (rw [if_neg (by rw [hv]; omega), if_pos (by rw [hv]; omega)]) | (rw [if_neg (by rw [hv]; omega), if_neg (by rw [hv]; omega), k1])
            · have hv : lineV code c = pickV code c4 30 := by rw [k4]; rfl
              have hk : lineK code c = pickC code c4 30 := by rw [k4]; rfl
              unfold lineL
              first | (rw [if_pos (by rw [hv]; omega), k3]; unfold lineX; rw [hk]; rfl) | (rw [if_neg (by rw [hv]; omega), k3])
theorem s_l1Cur_line_pk (code : List Nat) (c : Cur) (hb : ∀ x9 ∈ code, x9 < 256) (hc : okC c 1000000) : PK Try.prog 125 98 (.sl (.bytes code)) [.int .i64 c.pos, .int .u64 c.seed] [.int .i64 (lineC code c).pos, .int .u64 (lineC code c).seed] [] (.tup [.own 3 (.ints (lineS code c)), .own 3 (.ints (lineL code c))]) :=
  pk_by (Q := fun u => s_l1Cur_line_P u code c) (by kernel_rfl) Try.func125 @Try.call125 (by kernel_rfl) s_l1Cur_line_C (fun u => s_l1Cur_line_A u code c) (by kernel_rfl) (fun u => s_l1Cur_line_vc u code c hb hc) (fun u => by kernel_rfl)
def radG (code : List Nat) (c : Cur) (Open : List Int) (Dist : List (List Int)) : Bool := cond (goodField Open Dist) (!(pickV code c 4 == 0)) false
def radK (code : List Nat) (c : Cur) (Open : List Int) (Dist : List (List Int)) : Cur := cond (goodField Open Dist) (pickC code c 4) c
def radH (code : List Nat) (c : Cur) (Open : List Int) (Dist : List (List Int)) : Bool := radG code c Open Dist && decide (0 < (lnsD Dist).length)
def radC (code : List Nat) (c : Cur) (Open : List Int) (Dist : List (List Int)) : Cur := if radH code c Open Dist = true then pickC code (radK code c Open Dist) ((lnsD Dist).length : Int) else pickC code (radK code c Open Dist) 6
def radV (code : List Nat) (c : Cur) (Open : List Int) (Dist : List (List Int)) : Int := if radH code c Open Dist = true then (lnsD Dist).getD (pickV code (radK code c Open Dist) ((lnsD Dist).length : Int)).toNat 0 else ([0, 3, 10, 99, 4611686018427387904, -1] : List Int).getD (pickV code (radK code c Open Dist) 6).toNat 0
theorem radG_good {code : List Nat} {c : Cur} {Open : List Int} {Dist : List (List Int)} (h : radG code c Open Dist = true) : goodField Open Dist = true := by
  unfold radG at h
  cases hg : goodField Open Dist with
  | true => rfl
  | false => rw [hg] at h; cases h
theorem ok_radK {code : List Nat} {c : Cur} {Open : List Int} {Dist : List (List Int)} {b : Int} (h : okC c b) : okC (radK code c Open Dist) (b + 2) := by
  unfold radK
  cases goodField Open Dist
  · exact okC_le h (by omega)
  · exact ok_pick h
abbrev s_l1Cur_radius5_JR1 (u : Value) (code : List Nat) (c : Cur) (Open : List Int) (Dist : List (List Int)) (gd : Bool) (c1 : Cur) : Prop := (gd = radG code c Open Dist) ∧ (c1 = radK code c Open Dist)
abbrev s_l1Cur_radius5_JR1005 (u : Value) (code : List Nat) (c : Cur) (Open : List Int) (Dist : List (List Int)) (c5 : Cur) : Prop := (radH code c Open Dist = false) ∧ (c5 = radK code c Open Dist)
def s_l1Cur_radius5_C (f : FuncId) (ds : List D) : Orc := bif Nat.beq f 115 then s_l2Good_orc ds else bif Nat.beq f 203 then s_l5Lengths_orc ds else .no
def s_l1Cur_radius5_A (u : Value) (code : List Nat) (c : Cur) (Open : List Int) (Dist : List (List Int)) : Ann := .two (.none) (.cut (.cut (.mark [] [(4, .cell [.int .i64 ((pickC code c 4).pos), .int .u64 ((pickC code c 4).seed)] (.one (.d (.bool (pickV code c 4 == 0)))))]) (cut2 (fun (gd : Bool) (c1 : Cur) => s_l1Cur_radius5_JR1 u code c Open Dist gd c1) (fun (gd : Bool) (c1 : Cur) => [(0, .ptr 0 0), (3, .ptr 3 0), (12, .d true (.bool gd))]) (fun (gd : Bool) (c1 : Cur) => [(0, .box 98 [.d false (.lit u (.sl (.bytes code))), .d true (.int .i64 c1.pos), .d true (.int .u64 c1.seed)]), (3, .box 39 [.d false (.sl (.ints Open)), .d false (.sl (.rows Dist))])])) (fun g => (fun (gd : Bool) (c1 : Cur) => .two (.two (.none) (.two (.none) (.two (.two (.mark [] [(4, .cell [.int .i64 ((pickC code c1 (((lnsD Dist).length) : Int)).pos), .int .u64 ((pickC code c1 (((lnsD Dist).length) : Int)).seed)] (.one (.d (.int .i64 (pickV code c1 (((lnsD Dist).length) : Int))))))]) (.none)) (.none)))) (.none)) (g.1) (g.2))) (cut1 (fun (c5 : Cur) => s_l1Cur_radius5_JR1005 u code c Open Dist c5) (fun (c5 : Cur) => [(0, .ptr 0 0)]) (fun (c5 : Cur) => [(0, .box 98 [.d false (.lit u (.sl (.bytes code))), .d true (.int .i64 c5.pos), .d true (.int .u64 c5.seed)])])) (fun g => (fun (c5 : Cur) => .two (.mark [] [(2, .cell [.int .i64 ((pickC code c5 (([0, 3, 10, 99, 4611686018427387904, (-1)]).length : Int)).pos), .int .u64 ((pickC code c5 (([0, 3, 10, 99, 4611686018427387904, (-1)]).length : Int)).seed)] (.one (.d (.int .i64 (([0, 3, 10, 99, 4611686018427387904, (-1)]).getD (pickV code c5 (([0, 3, 10, 99, 4611686018427387904, (-1)]).length : Int)).toNat 0)))))]) (.none)) g))
def s_l1Cur_radius5_P (u : Value) (code : List Nat) (c : Cur) (Open : List Int) (Dist : List (List Int)) : Prop :=
  ((((PC Try.prog 115 [.agg [.sl (.ints Open), .sl (.rows Dist)]] (.one (.d (.bool (goodField Open Dist))))) ∧ ((goodField Open Dist) = true → (goodField Open Dist) = true) ∧ ((goodField Open Dist) = true → PK Try.prog 108 98 (.sl (.bytes code)) [.int .i64 c.pos, .int .u64 c.seed] [.int .i64 ((pickC code c 4).pos), .int .u64 ((pickC code c 4).seed)] [.int .i64 4] (.one (.d (.bool (pickV code c 4 == 0))))) ∧ ((goodField Open Dist) = true → (goodField Open Dist) = true) ∧ (true = true) ∧ (((goodField Open Dist) = true → (goodField Open Dist) = true)) ∧ (((goodField Open Dist) = false → true = true)) ∧ (∃ gd' : Bool, ∃ c1' : Cur, (s_l1Cur_radius5_JR1 u code c Open Dist gd' c1') ∧ ((cond (goodField Open Dist) (!(pickV code c 4 == 0)) false) = gd') ∧ ((.lit u (.sl (.bytes code)) : D) = .lit u (.sl (.bytes code))) ∧ ((cond (goodField Open Dist) ((pickC code c 4).pos) c.pos) = c1'.pos) ∧ ((cond (goodField Open Dist) ((pickC code c 4).seed) c.seed) = c1'.seed) ∧ (Open = Open) ∧ (Dist = Dist))) ∧ (∀ gd : Bool, ∀ c1 : Cur, (s_l1Cur_radius5_JR1 u code c Open Dist gd c1) → ((gd = true → (PC Try.prog 203 [.agg [.sl (.ints Open), .sl (.rows Dist)]] (.one (.d (.sl (.ints (lnsD Dist)))))) ∧ (((decide ((((lnsD Dist).length) : Int) > 0)) = true → (PK Try.prog 107 98 (.sl (.bytes code)) [.int .i64 c1.pos, .int .u64 c1.seed] [.int .i64 ((pickC code c1 (((lnsD Dist).length) : Int)).pos), .int .u64 ((pickC code c1 (((lnsD Dist).length) : Int)).seed)] [.int .i64 (((lnsD Dist).length) : Int)] (.one (.d (.int .i64 (pickV code c1 (((lnsD Dist).length) : Int)))))) ∧ ((0 : Int) ≤ (pickV code c1 (((lnsD Dist).length) : Int))) ∧ (((pickV code c1 (((lnsD Dist).length) : Int)) : Int) < (lnsD Dist).length) ∧ ((pickV code c1 (((lnsD Dist).length) : Int)).toNat < (lnsD Dist).length) ∧ (((.lit u (.sl (.bytes code)) : D) = .lit u (.sl (.bytes code))) ∧ ((pickC code c1 (((lnsD Dist).length) : Int)).pos = (radC code c Open Dist).pos) ∧ ((pickC code c1 (((lnsD Dist).length) : Int)).seed = (radC code c Open Dist).seed) ∧ (((lnsD Dist).getD ((pickV code c1 (((lnsD Dist).length) : Int)).toNat) 0) = (radV code c Open Dist)))) ∧ ((decide ((((lnsD Dist).length) : Int) > 0)) = false → (∃ c5' : Cur, (s_l1Cur_radius5_JR1005 u code c Open Dist c5') ∧ ((.lit u (.sl (.bytes code)) : D) = .lit u (.sl (.bytes code))) ∧ (c1.pos = c5'.pos) ∧ (c1.seed = c5'.seed))))) ∧ (gd = false → (∃ c5' : Cur, (s_l1Cur_radius5_JR1005 u code c Open Dist c5') ∧ ((.lit u (.sl (.bytes code)) : D) = .lit u (.sl (.bytes code))) ∧ (c1.pos = c5'.pos) ∧ (c1.seed = c5'.seed)))))) ∧ (∀ c5 : Cur, (s_l1Cur_radius5_JR1005 u code c Open Dist c5) → ((6 : Nat) = 6) ∧ (PK Try.prog 106 98 (.sl (.bytes code)) [.int .i64 c5.pos, .int .u64 c5.seed] [.int .i64 ((pickC code c5 (([0, 3, 10, 99, 4611686018427387904, (-1)]).length : Int)).pos), .int .u64 ((pickC code c5 (([0, 3, 10, 99, 4611686018427387904, (-1)]).length : Int)).seed)] [.sl (.ints ([0, 3, 10, 99, 4611686018427387904, (-1)]))] (.one (.d (.int .i64 (([0, 3, 10, 99, 4611686018427387904, (-1)]).getD (pickV code c5 (([0, 3, 10, 99, 4611686018427387904, (-1)]).length : Int)).toNat 0))))) ∧ (((.lit u (.sl (.bytes code)) : D) = .lit u (.sl (.bytes code))) ∧ ((pickC code c5 (([0, 3, 10, 99, 4611686018427387904, (-1)]).length : Int)).pos = (radC code c Open Dist).pos) ∧ ((pickC code c5 (([0, 3, 10, 99, 4611686018427387904, (-1)]).length : Int)).seed = (radC code c Open Dist).seed) ∧ ((([0, 3, 10, 99, 4611686018427387904, (-1)]).getD (pickV code c5 (([0, 3, 10, 99, 4611686018427387904, (-1)]).length : Int)).toNat 0) = (radV code c Open Dist)))))
theorem s_l1Cur_radius5_vc (u : Value) (code : List Nat) (c : Cur) (Open : List Int) (Dist : List (List Int)) (hb : ∀ x9 ∈ code, x9 < 256) (hc : okC c 10000000)  : s_l1Cur_radius5_P u code c Open Dist := by
  unfold s_l1Cur_radius5_P
  refine ⟨?_, ?_⟩
  · refine ⟨?_, ?_⟩
    · refine ⟨s_l2Good_pc Open Dist, id, ?_, id, rfl, id, fun _ => rfl, ?_⟩
      · intro hg
        refine s_l1Cur_one_pk code c 4 ?_ ?_
        · exact hb
        · exact okC_le hc (by omega)
      · refine ⟨(cond (goodField Open Dist) (!(pickV code c 4 == 0)) false), (cond (goodField Open Dist) (pickC code c 4) c), ?_⟩
        refine ⟨?_, rfl, rfl, cond_cur_pos _ _ _, cond_cur_seed _ _ _, rfl, rfl⟩
        · refine ⟨?_, ?_⟩
          · rfl
          · first | rfl | exact g2
    · intro gd c1 hJ
      obtain ⟨g1, g2⟩ := hJ
      refine ⟨?_, ?_⟩
      · intro b1
        try simp only [nrmT] at b1
        refine ⟨?_, ?_, ?_⟩
        · refine s_l5Lengths_pc Open Dist ?_
          · exact radG_good (by rw [← g1]; assumption)
        · intro b2
          try simp only [nrmT] at b2
          refine ⟨?_, ?_, ?_, ?_, rfl, ?_, ?_, ?_⟩
          · refine s_l1Cur_pick_pk code c1 (((lnsD Dist).length) : Int) ?_ ?_
            · exact hb
            · rw [g2]
              exact okC_le (ok_radK hc) (by omega)
          · have hh : radH code c Open Dist = true := by
              unfold radH
              rw [← g1, b1]
              exact decide_eq_true (by omega)
            have gp := pickV_in code c1 (n := ((lnsD Dist).length : Int)) (by omega)
            omega
          · have hh : radH code c Open Dist = true := by
              unfold radH
              rw [← g1, b1]
              exact decide_eq_true (by omega)
            have gp := pickV_in code c1 (n := ((lnsD Dist).length : Int)) (by omega)
            omega
          · have hh : radH code c Open Dist = true := by
              unfold radH
              rw [← g1, b1]
              exact decide_eq_true (by omega)
            have gp := pickV_in code c1 (n := ((lnsD Dist).length : Int)) (by omega)
            omega
          · have hh : radH code c Open Dist = true := by
              unfold radH
              rw [← g1, b1]
              exact decide_eq_true (by omega)
            have gp := pickV_in code c1 (n := ((lnsD Dist).length : Int)) (by omega)
            unfold radC; rw [if_pos hh, g2]
          · have hh : radH code c Open Dist = true := by
              unfold radH
              rw [← g1, b1]
              exact decide_eq_true (by omega)
            have gp := pickV_in code c1 (n := ((lnsD Dist).length : Int)) (by omega)
            unfold radC; rw [if_pos hh, g2]
          · have hh : radH code c Open Dist = true := by
              unfold radH
              rw [← g1, b1]
              exact decide_eq_true (by omega)
            have gp := pickV_in code c1 (n := ((lnsD Dist).length : Int)) (by omega)
            unfold radV; rw [if_pos hh, g2]
        · intro b3
          try simp only [nrmT] at b3
          refine ⟨c1, ?_⟩
          refine ⟨?_, rfl, rfl, rfl⟩
          · refine ⟨?_, ?_⟩
            · unfold radH
              rw [← g1]
              first | (rw [b1, Bool.true_and]; exact decide_eq_false (by omega)) | (rw [show gd = false by assumption]; rfl)
            · first | rfl | exact g2
      · intro b4
        try simp only [nrmT] at b4
        refine ⟨c1, ?_⟩
        refine ⟨?_, rfl, rfl, rfl⟩
        · refine ⟨?_, ?_⟩
          · unfold radH
            rw [← g1]
            first | (rw [b1, Bool.true_and]; exact decide_eq_false (by omega)) | (rw [show gd = false by assumption]; rfl)
          · first | rfl | exact g2
  · intro c5 hJ
    obtain ⟨e1, e2⟩ := hJ
    refine ⟨rfl, ?_, rfl, ?_, ?_, ?_⟩
    · refine s_l1Cur_among_pk code c5 ([0, 3, 10, 99, 4611686018427387904, (-1)]) ?_ ?_ ?_
      · exact hb
      · rw [e2]
        exact okC_le (ok_radK hc) (by omega)
      · first | omega | rfl | (intro hg; simp only [nrmT] at hg; omega) | (intro g1 g2; simp [g1, g2]; done) | (intro g1; simp at g1 ⊢; simp [g1]; done) | (simp only [nrmT] at *; omega) | (simp at * <;> omega) | (simp_all <;> omega) | (simp_all; done)
    · unfold radC; rw [if_neg (by rw [e1]; decide), e2]; rfl
    · unfold radC; rw [if_neg (by rw [e1]; decide), e2]; rfl
    · unfold radV; rw [if_neg (by rw [e1]; decide), e2]; rfl
theorem s_l1Cur_radius5_pk (code : List Nat) (c : Cur) (Open : List Int) (Dist : List (List Int)) (hb : ∀ x9 ∈ code, x9 < 256) (hc : okC c 10000000) : PK Try.prog 126 98 (.sl (.bytes code)) [.int .i64 c.pos, .int .u64 c.seed] [.int .i64 (radC code c Open Dist).pos, .int .u64 (radC code c Open Dist).seed] [.agg [.sl (.ints Open), .sl (.rows Dist)]] (.one (.d (.int .i64 (radV code c Open Dist)))) :=
  pk_by (Q := fun u => s_l1Cur_radius5_P u code c Open Dist) (by kernel_rfl) Try.func126 @Try.call126 (by kernel_rfl) s_l1Cur_radius5_C (fun u => s_l1Cur_radius5_A u code c Open Dist) (by kernel_rfl) (fun u => s_l1Cur_radius5_vc u code c Open Dist hb hc) (fun u => by kernel_rfl)
def dlS (code : List Nat) : List Int := lineS code cur0
def dlC (code : List Nat) : List Int := lineL code cur0
def dlK (code : List Nat) : Cur := lineC code cur0
def dlR (code : List Nat) : Int := if goodL (dlS code) (dlC code) = true then radV code (dlK code) (lfO (dlS code) (dlC code)) (lfD (dlS code) (dlC code)) else pickV code (dlK code) 20
def s_DrawLineSites_C (f : FuncId) (ds : List D) : Orc := bif Nat.beq f 72 then s_LineField_orc ds else .no
def s_DrawLineSites_A (code : List Nat) : Ann := .two (.none) (.two (.none) (.two (.mark [] [(1, .cell [.int .i64 ((lineC code cur0).pos), .int .u64 ((lineC code cur0).seed)] (.tup [.own 3 (.ints (lineS code cur0)), .own 3 (.ints (lineL code cur0))]))]) (.two (.none) (.two (.two (.none) (.two (.two (.mark [] [(3, .cell [.int .i64 ((pickC code (lineC code cur0) 20).pos), .int .u64 ((pickC code (lineC code cur0) 20).seed)] (.one (.d (.int .i64 (pickV code (lineC code cur0) 20)))))]) (.none)) (.none))) (.two (.mark [] [(4, .cell [.int .i64 ((radC code (lineC code cur0) (lfO (lineS code cur0) (lineL code cur0)) (lfD (lineS code cur0) (lineL code cur0))).pos), .int .u64 ((radC code (lineC code cur0) (lfO (lineS code cur0) (lineL code cur0)) (lfD (lineS code cur0) (lineL code cur0))).seed)] (.one (.d (.int .i64 (radV code (lineC code cur0) (lfO (lineS code cur0) (lineL code cur0)) (lfD (lineS code cur0) (lineL code cur0)))))))]) (.none))))))
def s_DrawLineSites_P (code : List Nat) : Prop :=
  (PK Try.prog 125 98 (.sl (.bytes code)) [.int .i64 0, .int .u64 0] [.int .i64 ((lineC code cur0).pos), .int .u64 ((lineC code cur0).seed)] [] (.tup [.own 3 (.ints (lineS code cur0)), .own 3 (.ints (lineL code cur0))])) ∧ ((lineS code cur0).length = (lineS code cur0).length) ∧ ((lineL code cur0).length = (lineL code cur0).length) ∧ (PC Try.prog 72 [.sl (.ints (lineS code cur0)), .sl (.ints (lineL code cur0))] (.tup [.d (.agg [.sl (.ints (lfO (lineS code cur0) (lineL code cur0))), .sl (.rows (lfD (lineS code cur0) (lineL code cur0)))]), .d (.bool (goodL (lineS code cur0) (lineL code cur0)))])) ∧ (((!(goodL (lineS code cur0) (lineL code cur0))) = true → (PK Try.prog 107 98 (.sl (.bytes code)) [.int .i64 ((lineC code cur0).pos), .int .u64 ((lineC code cur0).seed)] [.int .i64 ((pickC code (lineC code cur0) 20).pos), .int .u64 ((pickC code (lineC code cur0) 20).seed)] [.int .i64 20] (.one (.d (.int .i64 (pickV code (lineC code cur0) 20))))) ∧ (((lineS code cur0).length = (lineS code cur0).length) ∧ ((lineS code cur0 : List Int) = dlS code) ∧ ((lineL code cur0).length = (lineL code cur0).length) ∧ ((lineL code cur0 : List Int) = dlC code) ∧ ((pickV code (lineC code cur0) 20) = (dlR code)))) ∧ ((!(goodL (lineS code cur0) (lineL code cur0))) = false → (PK Try.prog 126 98 (.sl (.bytes code)) [.int .i64 ((lineC code cur0).pos), .int .u64 ((lineC code cur0).seed)] [.int .i64 ((radC code (lineC code cur0) (lfO (lineS code cur0) (lineL code cur0)) (lfD (lineS code cur0) (lineL code cur0))).pos), .int .u64 ((radC code (lineC code cur0) (lfO (lineS code cur0) (lineL code cur0)) (lfD (lineS code cur0) (lineL code cur0))).seed)] [.agg [.sl (.ints (lfO (lineS code cur0) (lineL code cur0))), .sl (.rows (lfD (lineS code cur0) (lineL code cur0)))]] (.one (.d (.int .i64 (radV code (lineC code cur0) (lfO (lineS code cur0) (lineL code cur0)) (lfD (lineS code cur0) (lineL code cur0))))))) ∧ (((lineS code cur0).length = (lineS code cur0).length) ∧ ((lineS code cur0 : List Int) = dlS code) ∧ ((lineL code cur0).length = (lineL code cur0).length) ∧ ((lineL code cur0 : List Int) = dlC code) ∧ ((radV code (lineC code cur0) (lfO (lineS code cur0) (lineL code cur0)) (lfD (lineS code cur0) (lineL code cur0))) = (dlR code)))))
theorem s_DrawLineSites_vc (code : List Nat) (hb : ∀ x9 ∈ code, x9 < 256) (w_code : (code.length : Int) ≤ 9223372036854775807) : s_DrawLineSites_P code := by
  unfold s_DrawLineSites_P
  refine ⟨?_, rfl, rfl, s_LineField_pc (lineS code cur0) (lineL code cur0), ?_, ?_⟩
  · refine s_l1Cur_line_pk code cur0 ?_ ?_
    · exact hb
    · exact okC_le okC0 (by omega)
  · intro b1
    try simp only [nrmT] at b1
    refine ⟨?_, rfl, ?_, rfl, ?_, ?_⟩
    · refine s_l1Cur_pick_pk code (lineC code cur0) 20 ?_ ?_
      · exact hb
      · exact okC_le (ok_line okC0) (by omega)
    · rfl
    · rfl
    · have hq : goodL (dlS code) (dlC code) = false := b1
      unfold dlR
      rw [hq]; rfl
  · intro b2
    try simp only [nrmT] at b2
    refine ⟨?_, rfl, ?_, rfl, ?_, ?_⟩
    · refine s_l1Cur_radius5_pk code (lineC code cur0) (lfO (lineS code cur0) (lineL code cur0)) (lfD (lineS code cur0) (lineL code cur0)) ?_ ?_
      · exact hb
      · exact okC_le (ok_line okC0) (by omega)
    · rfl
    · rfl
    · have hq : goodL (dlS code) (dlC code) = true := b2
      unfold dlR
      rw [if_pos hq]; rfl
theorem s_DrawLineSites_pc (code : List Nat) (hb : ∀ x9 ∈ code, x9 < 256) : PC Try.prog 35 [.sl (.bytes code)] (.tup [.own 3 (.ints (dlS code)), .own 3 (.ints (dlC code)), .d (.int .i64 (dlR code))]) :=
  pc_wf @Try.call35 fun hw => pc_by (by kernel_rfl) Try.func35 @Try.call35 (by kernel_rfl) s_DrawLineSites_C (s_DrawLineSites_A code) (by kernel_rfl) (s_DrawLineSites_vc code hb hw.1) (by kernel_rfl)
def s_DrawLineSites_orc : List D → Orc := orcN [some .bytes] fun ds => match ds with
  | [.sl (.bytes code)] => some (.tup [.own 3 (.ints (dlS code)), .own 3 (.ints (dlC code)), .d (.int .i64 (dlR code))])
  | _ => none
theorem lastTo_spec (row : List Int) (r : Int) : ∀ k, (0 ≤ lastTo row r k → row.getD (lastTo row r k).toNat 0 ≤ r) ∧ ∀ a : Nat, lastTo row r k < (a : Int) → a < k → r < row.getD a 0
  | 0 => ⟨fun h => by simp [lastTo, foldTo] at h, fun a _ h => by omega⟩
  | k + 1 => by
    obtain ⟨h1, h2⟩ := lastTo_spec row r k
    rw [lastTo_succ]
    by_cases e : row.getD k 0 ≤ r
    · rw [if_pos e]
      exact ⟨fun _ => by rw [Int.toNat_natCast]; exact e, fun a ha hk => by omega⟩
    · rw [if_neg e]
      refine ⟨h1, fun a ha hk => ?_⟩
      by_cases ea : a = k
      · subst ea; omega
      · exact h2 a ha (by omega)
theorem hasLe_iff {row : List Int} {r : Int} {out : List Int} : hasLe row r out = true ↔ ∃ a ∈ out, row.getD a.toNat 0 ≤ r := by
  unfold hasLe
  rw [List.any_eq_true]
  exact ⟨fun ⟨a, h1, h2⟩ => ⟨a, h1, of_decide_eq_true h2⟩, fun ⟨a, h1, h2⟩ => ⟨a, h1, decide_eq_true h2⟩⟩
/-- The clients by which the sites were taken. -/
structure Took (D : List (List Int)) (r : Int) (n k : Nat) (out : List Int) (js : List Nat) : Prop where
  len : js.length = out.length
  of : ∀ i, i < out.length → js.getD i 0 < k ∧ out.getD i 0 = lastTo (D.getD (js.getD i 0) []) r n ∧ 0 ≤ out.getD i 0
  far : ∀ p q, p < q → q < out.length → js.getD p 0 < js.getD q 0 ∧ r < (D.getD (js.getD q 0) []).getD (out.getD p 0).toNat 0
  all : ∀ j, j < k → hasLe (D.getD j []) r out = true
theorem took {D : List (List Int)} {r : Int} {n : Nat} : ∀ k out, (∀ j, j < k → (D.getD j []).length = n) → lsTo D r k = some out → ∃ js, Took D r n k out js
  | 0, out, _, h => by
    have : out = [] := by simpa [lsTo, foldTo] using h.symm
    subst this
    exact ⟨[], rfl, fun i hi => by simp at hi, fun p q _ hq => by simp at hq, fun j hj => by omega⟩
  | k + 1, out, hn, h => by
    rw [lsTo_succ] at h
    cases ho : lsTo D r k with
    | none => rw [ho] at h; cases h
    | some o =>
      obtain ⟨js, t1, t2, t3, t4⟩ := took k o (fun j hj => hn j (by omega)) ho
      rw [ho] at h
      unfold lsF at h
      dsimp only at h
      split at h
      · rename_i hh
        cases h
        refine ⟨js, t1, fun i hi => ⟨by have := (t2 i hi).1; omega, (t2 i hi).2⟩, t3, fun j hj => ?_⟩
        by_cases e : j = k
        · rw [e]; exact hh
        · exact t4 j (by omega)
      · split at h
        · cases h
        · rename_i hh hneg
          cases h
          have hl := hn k (by omega)
          rw [hl] at hneg ⊢
          refine ⟨js ++ [k], by simp [t1], fun i hi => ?_, fun p q hpq hq => ?_, fun j hj => ?_⟩
          · rw [getD_snoc hi, getD_snoc (by simp only [List.length_append, List.length_singleton] at hi ⊢; omega), t1]
            by_cases e : i < o.length
            · rw [if_pos e, if_pos e]; exact ⟨by have := (t2 i e).1; omega, (t2 i e).2⟩
            · rw [if_neg e, if_neg e]; exact ⟨by omega, rfl, by omega⟩
          · have hql : q < o.length + 1 := by simpa using hq
            rw [getD_snoc (l := js) (by simp; omega), getD_snoc (l := js) (by simp; omega), getD_snoc (l := o) (by simp; omega), t1, if_pos (show p < o.length by omega), if_pos (show p < o.length by omega)]
            by_cases e : q < o.length
            · rw [if_pos e]; exact t3 p q hpq e
            · rw [if_neg e]
              refine ⟨(t2 p (by omega)).1, ?_⟩
              by_cases e2 : (D.getD k []).getD (o.getD p 0).toNat 0 ≤ r
              · exact absurd (hasLe_iff.2 ⟨_, getD_mem (d := 0) (show p < o.length by omega), e2⟩) hh
              · omega
          · by_cases e : j = k
            · subst e
              have := (lastTo_spec (D.getD j []) r n).1 (by omega)
              exact hasLe_iff.2 ⟨_, List.mem_append_right _ (List.mem_singleton.2 rfl), this⟩
            · obtain ⟨a, h1, h2⟩ := hasLe_iff.1 (t4 j (by omega))
              exact hasLe_iff.2 ⟨a, List.mem_append_left _ h1, h2⟩
theorem lsTo_some {D : List (List Int)} {r : Int} {n : Nat} : ∀ k, (∀ j, j < k → (D.getD j []).length = n) → (∀ j, j < k → ∃ a, a < n ∧ (D.getD j []).getD a 0 ≤ r) → ∃ out, lsTo D r k = some out
  | 0, _, _ => ⟨[], rfl⟩
  | k + 1, hn, hc => by
    obtain ⟨o, ho⟩ := lsTo_some k (fun j hj => hn j (by omega)) (fun j hj => hc j (by omega))
    rw [lsTo_succ, ho]
    unfold lsF
    dsimp only
    by_cases hh : hasLe (D.getD k []) r o = true
    · rw [if_pos hh]; exact ⟨_, rfl⟩
    · rw [if_neg hh]
      obtain ⟨a, h1, h2⟩ := hc k (by omega)
      have h3 := (lastTo_spec (D.getD k []) r n).2 a
      rw [hn k (by omega), if_neg]
      · exact ⟨_, rfl⟩
      · intro hneg
        have := h3 (by omega) h1
        omega
theorem siteTo_le (row set : List Int) : ∀ k i, i < k → row.getD (siteTo row set k).toNat 0 ≤ row.getD (set.getD i 0).toNat 0
  | 0, i, h => by omega
  | k + 1, i, h => by
    have ih := siteTo_le row set k
    rw [siteTo_succ]
    unfold siteF
    by_cases e : i = k
    · subst e
      split
      · exact Int.le_refl _
      · omega
    · have := ih i (by omega)
      split <;> omega
theorem rch_le {Dist : List (List Int)} {set : List Int} {r : Int} (hr : 0 ≤ r) : rchOf Dist set ≤ r ↔ ∀ j, j < Dist.length → lenAt Dist set j ≤ r := by
  obtain ⟨h1, h2, h3⟩ := rchTo_le Dist set Dist.length
  unfold rchOf
  constructor
  · intro h j hj; have := h2 j hj; omega
  · intro h
    rcases h3 with h3 | ⟨j, hj, h3⟩
    · omega
    · rw [h3]; exact h j hj
theorem set_in_sets {n : Nat} {p : Nat → Bool} (h : 0 < (members p n).length) : members p n ∈ setsL n := by
  have hb : ∀ x ∈ members p n, 0 ≤ x ∧ x < (n : Int) := fun x hx => ⟨(mem_members.1 hx).1, (mem_members.1 hx).2.1⟩
  refine setsL_mem.2 ⟨bagN (members p n), ?_, bagN_lt hb, ?_⟩
  · rcases Nat.eq_zero_or_pos (bagN (members p n)) with h0 | h0
    · exfalso
      obtain ⟨x, hx⟩ := List.exists_mem_of_length_pos h
      have h1 := bagN_bit (fun y hy => (hb y hy).1) (x := x.toNat)
      rw [h0, Nat.zero_testBit, show ((x.toNat : Nat) : Int) = x by have := hb x hx; omega, List.contains_iff_mem.2 hx] at h1
      cases h1
    · exact h0
  · refine members_congr fun k hk => ?_
    rw [bagN_bit fun y hy => (hb y hy).1, Bool.eq_iff_iff, List.contains_iff_mem, mem_members, Int.toNat_natCast]
    constructor
    · exact fun h => h.2.2
    · exact fun h => ⟨by omega, by omega, h⟩
theorem sets_sorted (n : Nat) : (setsL n).Pairwise fun a b => ¬ cmpS b a < 0 := by
  have h := List.pairwise_mergeSort (le := fun x9 y9 => !(ltOf cmpS) y9 x9) (fun a b c h1 h2 => ?_) (fun a b => ?_) (preS n (2 ^ n - 1))
  · refine h.imp fun {a b} hab => ?_
    intro hlt
    have : ltOf cmpS b a = true := decide_eq_true hlt
    rw [this] at hab
    cases hab
  · rw [Bool.not_eq_true'] at *
    exact swoS.ntrans _ _ _ h2 h1
  · cases h1 : ltOf cmpS b a with
    | false => rfl
    | true =>
      have h2 : cmpS b a < 0 := of_decide_eq_true h1
      have h3 := cmpS_flip.1 h2
      have : ltOf cmpS a b = false := decide_eq_false (by omega)
      rw [this]; rfl
theorem sets_len_le {n i j : Nat} (hij : i ≤ j) (hj : j < (setsL n).length) : ((setsL n).getD i []).length ≤ ((setsL n).getD j []).length := by
  by_cases e : i = j
  · subst e; exact Nat.le_refl _
  · have h := List.pairwise_iff_getElem.1 (sets_sorted n) i j (by omega) hj (by omega)
    rw [getD_get hj, getD_get (by omega)]
    rcases cmpS_cases (setsL n)[j] (setsL n)[i] with h1 | h1 | h1 <;> omega
theorem idx_first {α : Type} {p : α → Bool} {xs : List α} {d : α} (h0 : 0 ≤ idxI p xs) {i : Nat} (hi : i < xs.length) (hp : p (xs.getD i d) = true) : idxI p xs ≤ (i : Int) ∧ p (xs.getD (idxI p xs).toNat d) = true := by
  unfold idxI at h0 ⊢
  cases hf : xs.findIdx? p with
  | none => rw [hf] at h0; simp at h0
  | some k =>
    obtain ⟨hk, h1, h2⟩ := List.findIdx?_eq_some_iff_getElem.1 hf
    show (k : Int) ≤ (i : Int) ∧ p (xs.getD (k : Int).toNat d) = true
    rw [Int.toNat_natCast, getD_get hk]
    refine ⟨?_, h1⟩
    by_cases e : k ≤ i
    · omega
    · rw [getD_get hi] at hp
      have := h2 i (by omega)
      rw [hp] at this
      simp at this
theorem line_mono {sites clients : List Int} (h : goodL sites clients = true) {i j : Nat} (hij : i ≤ j) (hj : j < clients.length) : clients.getD i 0 ≤ clients.getD j 0 := by
  rw [goodL, Bool.and_eq_true] at h
  have h1 := allTo_iff.1 h.1
  induction j with
  | zero => have : i = 0 := by omega
            subst this; exact Int.le_refl _
  | succ j ih =>
    by_cases e : i = j + 1
    · subst e; exact Int.le_refl _
    · have h2 := ih (by omega) (by omega)
      have h3 := h1 (j + 1) hj
      rw [lineP, Bool.and_eq_true, decide_eq_false (by omega), Bool.false_or, Nat.add_sub_cancel, Bool.not_eq_true', decide_eq_false_iff_not] at h3
      omega
theorem lf_at {sites clients : List Int} (h : goodL sites clients = true) {j a : Nat} (hj : j < clients.length) (ha : a < sites.length) : ((lfD sites clients).getD j []).getD a 0 = max (clients.getD j 0 - sites.getD a 0) (sites.getD a 0 - clients.getD j 0) := by
  rw [lfD_yes h, lineD_get hj, lineRow_get ha]
theorem line_field {sites clients : List Int} (h : goodL sites clients = true) : goodField (lfO sites clients) (lfD sites clients) = true := by
  obtain ⟨g1, g2, g3, g4, g5⟩ := goodL_facts h
  have hl := lfO_len h
  have hd := lfD_len h
  simp only [goodField, Bool.and_eq_true, decide_eq_true_eq]
  refine ⟨⟨⟨decide_eq_true (by omega), ?_⟩, by omega⟩, ?_⟩
  · rw [lfO_yes h, List.all_eq_true]
    intro x hx
    rw [(List.mem_replicate.1 hx).2]
    rfl
  · rw [List.all_eq_true]
    intro row hrow
    obtain ⟨j, hj, rfl⟩ := List.mem_iff_getElem.1 hrow
    have hr := lfD_row h (j := j) (by omega)
    rw [getD_get hj] at hr
    simp only [rowOk, Bool.and_eq_true, decide_eq_true_eq, beq_iff_eq]
    refine ⟨?_, by omega⟩
    rw [List.all_eq_true]
    intro x hx
    obtain ⟨a, ha, rfl⟩ := List.mem_iff_getElem.1 hx
    have h1 := lf_at h (j := j) (a := a) (by omega) (by omega)
    rw [getD_get hj, getD_get ha] at h1
    have h2 := rising_at g4 a (by omega)
    have h3 := g5 j (by omega)
    rw [h1]
    exact decide_eq_true (by omega)
/-- The sites that were taken, as a set. -/
def tkS (sites clients : List Int) (r : Int) (k : Nat) : List Int := members (fun a => (lsL sites clients r).contains (a : Int)) k
theorem tkS_succ (sites clients : List Int) (r : Int) (k : Nat) : tkS sites clients r (k + 1) = tkS sites clients r k ++ (if (lsL sites clients r).contains (k : Int) = true then [(k : Int)] else []) := by unfold tkS; rw [members_succ]
theorem line_some {sites clients : List Int} {r : Int} (h : goodL sites clients = true) (hr : 0 ≤ r) (hc : covOk (lfO sites clients) (lfD sites clients) r = true) : (lsO sites clients r).isSome = true := by
  have hg := line_field h
  have hd := lfD_len h
  have ho := lfO_len h
  rw [covOk, Bool.and_eq_true, decide_eq_true_eq] at hc
  rw [ls_some h hr]
  have hx : ∃ s ∈ setsL ((lfO sites clients).length : Int).toNat, rchOf (lfD sites clients) s ≤ r := by
    have h1 : decide (0 ≤ covI (lfO sites clients) (lfD sites clients) r) = true := decide_eq_true hc.2
    unfold covI at h1
    rw [idx_any, List.any_eq_true] at h1
    obtain ⟨s, h2, h3⟩ := h1
    exact ⟨s, h2, of_decide_eq_true h3⟩
  obtain ⟨s, hs, hrs⟩ := hx
  obtain ⟨_, h2, h3⟩ := two_facts (set_two hg hs).1
  rw [rch_le hr] at hrs
  obtain ⟨out, e⟩ := lsTo_some (D := lfD sites clients) (r := r) (n := sites.length) clients.length (fun j hj => lfD_row h hj) (fun j hj => by
    have h4 := hrs j (by omega)
    have h5 := siteTo_in (row := (lfD sites clients).getD j []) (set := s) (n := ((lfO sites clients).length : Int)) (fun k hk => by have := rising_at h2 k hk; omega) h3 s.length (Nat.le_refl _)
    exact ⟨_, by omega, h4⟩)
  rw [e]
  rfl
theorem line_facts {sites clients : List Int} {r : Int} (h : goodL sites clients = true) (hr : 0 ≤ r) (ho : (lsO sites clients r).isSome = true) (hc : 0 < clients.length) :
    (goodField (lfO sites clients) (lfD sites clients) && rising (tkS sites clients r sites.length) 0 (((lfO sites clients).length : Int) - 1) && decide (0 < (tkS sites clients r sites.length).length)) = true ∧
    rchOf (lfD sites clients) (tkS sites clients r sites.length) ≤ r ∧ covOk (lfO sites clients) (lfD sites clients) r = true ∧
    (lsL sites clients r).length = (covSites (lfO sites clients) (lfD sites clients) r).length ∧ (tkS sites clients r sites.length).length = (lsL sites clients r).length := by
  have hg := line_field h
  have hd := lfD_len h
  have hol := lfO_len h
  obtain ⟨g1, g2, g3, g4, g5⟩ := goodL_facts h
  obtain ⟨out, he⟩ := Option.isSome_iff_exists.1 ho
  have hl : lsL sites clients r = out := lsL_some he
  rw [ls_some h hr] at he
  obtain ⟨js, t1, t2, t3, t4⟩ := took clients.length out (fun j hj => lfD_row h hj) he
  have hout := (lsTo_facts (m := sites.length) clients.length out (fun j hj => lfD_row h hj) he).2
  have last := fun i (hi : i < out.length) => lastTo_spec ((lfD sites clients).getD (js.getD i 0) []) r sites.length
  have near : ∀ i, i < out.length → ((lfD sites clients).getD (js.getD i 0) []).getD (out.getD i 0).toNat 0 ≤ r := fun i hi => by
    obtain ⟨_, q2, q3⟩ := t2 i hi
    have := (last i hi).1 (by rw [← q2]; exact q3)
    rw [← q2] at this
    exact this
  -- no site is taken twice
  have hnd : out.Nodup := List.pairwise_iff_getElem.2 fun p q hp hq hpq e => by
    have h1 := (t3 p q hpq hq).2
    have h2 := near q hq
    rw [getD_get hp, e, ← getD_get (d := 0) hq] at h1
    omega
  have hset : ∀ x, x ∈ tkS sites clients r sites.length ↔ x ∈ out := fun x => by
    unfold tkS
    rw [mem_members, hl, List.contains_iff_mem]
    constructor
    · rintro ⟨h1, h2, h3⟩; rwa [show ((x.toNat : Nat) : Int) = x by omega] at h3
    · intro hx
      have := hout x hx
      exact ⟨this.1, this.2, by rwa [show ((x.toNat : Nat) : Int) = x by omega]⟩
  have hasc : Asc (tkS sites clients r sites.length) := asc_members _ _
  have hsn : (tkS sites clients r sites.length).Nodup := hasc.imp fun {a b} hab e => by omega
  have hlen : (tkS sites clients r sites.length).length = out.length :=
    Nat.le_antisymm (List.Nodup.length_le_of_subset hsn fun x hx => (hset x).1 hx) (List.Nodup.length_le_of_subset hnd fun x hx => (hset x).2 hx)
  have hpos : 0 < out.length := by
    obtain ⟨a, ha, _⟩ := hasLe_iff.1 (t4 0 hc)
    exact List.length_pos_of_mem ha
  have htwo : (goodField (lfO sites clients) (lfD sites clients) && rising (tkS sites clients r sites.length) 0 (((lfO sites clients).length : Int) - 1) && decide (0 < (tkS sites clients r sites.length).length)) = true := by
    rw [hg, decide_eq_true (show 0 < (tkS sites clients r sites.length).length by omega), rising_of hasc (fun x hx => by have := hout x ((hset x).1 hx); omega)]
    rfl
  have hreach : rchOf (lfD sites clients) (tkS sites clients r sites.length) ≤ r := by
    rw [rch_le hr]
    intro j hj
    obtain ⟨a, ha, h1⟩ := hasLe_iff.1 (t4 j (by omega))
    obtain ⟨i, hi, rfl⟩ := List.mem_iff_getElem.1 ((hset a).2 ha)
    have := siteTo_le ((lfD sites clients).getD j []) (tkS sites clients r sites.length) _ i hi
    rw [getD_get hi] at this
    unfold lenAt
    omega
  have hin : tkS sites clients r sites.length ∈ setsL ((lfO sites clients).length : Int).toNat := by
    rw [Int.toNat_natCast, hol]
    exact set_in_sets (by show 0 < (tkS sites clients r sites.length).length; omega)
  obtain ⟨i, hi, hie⟩ := List.mem_iff_getElem.1 hin
  have hcov : covOk (lfO sites clients) (lfD sites clients) r = true := by
    rw [covOk, hg, decide_eq_true hr]
    unfold covI
    rw [idx_any, List.any_eq_true.2 ⟨_, hin, decide_eq_true hreach⟩]
    rfl
  have hci : 0 ≤ covI (lfO sites clients) (lfD sites clients) r := by
    rw [covOk, Bool.and_eq_true, decide_eq_true_eq] at hcov
    exact hcov.2
  -- the cover that is told is the first one
  have hfirst : covI (lfO sites clients) (lfD sites clients) r ≤ (i : Int) ∧ rchOf (lfD sites clients) ((setsL ((lfO sites clients).length : Int).toNat).getD (covI (lfO sites clients) (lfD sites clients) r).toNat []) ≤ r := by
    unfold covI
    have h9 := idx_first (p := fun s => decide (rchOf (lfD sites clients) s ≤ r)) (xs := setsL ((lfO sites clients).length : Int).toNat) (d := []) (by unfold covI at hci; exact hci) hi (by rw [getD_get hi, hie]; exact decide_eq_true hreach)
    exact ⟨h9.1, of_decide_eq_true h9.2⟩
  have hcs : covSites (lfO sites clients) (lfD sites clients) r = (setsL ((lfO sites clients).length : Int).toNat).getD (covI (lfO sites clients) (lfD sites clients) r).toNat [] := by rw [covSites, if_pos hcov]
  have hle : (covSites (lfO sites clients) (lfD sites clients) r).length ≤ out.length := by
    rw [hcs, ← hlen, ← hie, ← getD_get (d := []) hi]
    exact sets_len_le (by omega) hi
  have hge : out.length ≤ (covSites (lfO sites clients) (lfD sites clients) r).length := by
    rw [hcs]
    have hmem : (setsL ((lfO sites clients).length : Int).toNat).getD (covI (lfO sites clients) (lfD sites clients) r).toNat [] ∈ setsL ((lfO sites clients).length : Int).toNat := getD_mem (by omega)
    revert hmem hfirst
    generalize (setsL ((lfO sites clients).length : Int).toNat).getD (covI (lfO sites clients) (lfD sites clients) r).toNat [] = cover
    intro hfirst hmem
    obtain ⟨_, c2, c3⟩ := two_facts (set_two hg hmem).1
    have hre := (rch_le hr).1 hfirst.2
    have hst : ∀ i, i < out.length → 0 ≤ siteTo ((lfD sites clients).getD (js.getD i 0) []) cover cover.length ∧ siteTo ((lfD sites clients).getD (js.getD i 0) []) cover cover.length < (sites.length : Int) ∧ ((lfD sites clients).getD (js.getD i 0) []).getD (siteTo ((lfD sites clients).getD (js.getD i 0) []) cover cover.length).toNat 0 ≤ r := fun i hi => by
      have h5 := siteTo_in (row := (lfD sites clients).getD (js.getD i 0) []) (set := cover) (n := ((lfO sites clients).length : Int)) (fun k hk => by have := rising_at c2 k hk; omega) c3 cover.length (Nat.le_refl _)
      exact ⟨h5.1, by omega, hre _ (by have := (t2 i hi).1; omega)⟩
    have hnd2 : ((List.range out.length).map fun i => siteTo ((lfD sites clients).getD (js.getD i 0) []) cover cover.length).Nodup := by
      refine List.pairwise_iff_getElem.2 fun p q hp hq hpq e => ?_
      simp only [List.length_map, List.length_range] at hp hq
      simp only [List.getElem_map, List.getElem_range] at e
      obtain ⟨s1, s2, s3⟩ := hst p hp
      obtain ⟨_, _, s4⟩ := hst q hq
      rw [← e] at s4
      revert s1 s2 s3 s4
      generalize siteTo ((lfD sites clients).getD (js.getD p 0) []) cover cover.length = s
      intro s1 s2 s3 s4
      obtain ⟨p1, p2, p3⟩ := t2 p hp
      obtain ⟨q1, q2, q3⟩ := t2 q hq
      obtain ⟨f1, f2⟩ := t3 p q hpq hq
      have po := hout _ (getD_mem (d := 0) hp)
      have hn := near p hp
      have hla := (last p hp).2 s.toNat
      rw [← p2] at hla
      have hs_le : s ≤ out.getD p 0 := by
        by_cases e2 : s ≤ out.getD p 0
        · exact e2
        · have := hla (by omega) (by omega)
          omega
      have hm := line_mono h (Nat.le_of_lt f1) (by omega)
      have hS : sites.getD s.toNat 0 ≤ sites.getD (out.getD p 0).toNat 0 := by
        by_cases e2 : s.toNat = (out.getD p 0).toNat
        · rw [e2]; exact Int.le_refl _
        · exact Int.le_of_lt (rising_lt g4 (by omega) (by omega))
      rw [lf_at h (by omega) (by omega)] at hn f2 s3 s4
      omega
    have hsub := List.Nodup.length_le_of_subset hnd2 (l₂ := cover) fun x hx => by
      obtain ⟨i, _, rfl⟩ := List.mem_map.1 hx
      exact siteTo_mem c3 _ (Nat.le_refl _)
    simpa using hsub
  rw [hl]
  exact ⟨htwo, hreach, hcov, by omega, hlen⟩
def l_vBig_C (f : FuncId) (ds : List D) : Orc := .no
def l_vBig_A (code : List Nat) : Ann := .none
def l_vBig_P (code : List Nat) : Prop :=
  (((decide ((code.length : Int) > 65536)) = (decide ((code.length : Int) > 65536))))
theorem l_vBig_vc (code : List Nat)  (w_code : (code.length : Int) ≤ 9223372036854775807) : l_vBig_P code := by
  unfold l_vBig_P
  exact rfl
theorem l_vBig_pc (code : List Nat)  : PC Try.prog 34 [.sl (.bytes code)] (.one (.d (.bool (decide ((code.length : Int) > 65536))))) :=
  pc_wf @Try.call34 fun hw => pc_by (by kernel_rfl) Try.func34 @Try.call34 (by kernel_rfl) l_vBig_C (l_vBig_A code) (by kernel_rfl) (l_vBig_vc code hw.1) (by kernel_rfl)
def l_vBig_orc : List D → Orc := orcN [some .bytes] fun ds => match ds with
  | [.sl (.bytes code)] => some (.one (.d (.bool (decide ((code.length : Int) > 65536)))))
  | _ => none
abbrev l_vInts_JJ0 (xs : List Int) (ys : List Int) (i : Int) : Prop := (0 ≤ i) ∧ (i ≤ (xs.length : Int)) ∧ (allTo (fun k => xs.getD k 0 == ys.getD k 0) i.toNat = true) ∧ (xs.length = ys.length)
abbrev l_vInts_mJ0 (xs : List Int) (ys : List Int) (i : Int) : Nat := (xs.length - i).toNat
def l_vInts_C (f : FuncId) (ds : List D) : Orc := .no
def l_vInts_A (xs : List Int) (ys : List Int) : Ann := .two (.none) (.two (.none) (.two (.two (.none) (.loop (cut1 (fun (i : Int) => l_vInts_JJ0 xs ys i) (fun (i : Int) => [(0, .d false (.sl (.ints xs))), (1, .d false (.sl (.ints ys))), (5, .d true (.int .i64 i))]) (fun (i : Int) => [])) (fun g => l_vInts_mJ0 xs ys g) (fun _ => .none))) (.none)))
def l_vInts_P (xs : List Int) (ys : List Int) : Prop :=
  ((((xs.length : Int) != (ys.length : Int)) = true → ((false = (xs == ys)))) ∧ (((xs.length : Int) != (ys.length : Int)) = false → ((∃ i' : Int, (l_vInts_JJ0 xs ys i') ∧ (xs = xs) ∧ (ys = ys) ∧ ((0 : Int) = i')) ∧ (∀ i : Int, (l_vInts_JJ0 xs ys i) → (((decide (i < (xs.length : Int))) = true → (true = true) ∧ ((0 : Int) ≤ i) ∧ ((i : Int) < xs.length) ∧ (i.toNat < xs.length) ∧ ((0 : Int) ≤ i) ∧ ((i : Int) < ys.length) ∧ (i.toNat < ys.length) ∧ ((((xs.getD i.toNat 0) != (ys.getD i.toNat 0)) = true → ((false = (xs == ys)))) ∧ (((xs.getD i.toNat 0) != (ys.getD i.toNat 0)) = false → (-9223372036854775808 ≤ (i + 1) ∧ (i + 1) ≤ 9223372036854775807) ∧ (∃ i' : Int, (l_vInts_JJ0 xs ys i') ∧ (l_vInts_mJ0 xs ys i' < l_vInts_mJ0 xs ys i) ∧ (xs = xs) ∧ (ys = ys) ∧ ((i + 1) = i'))))) ∧ ((decide (i < (xs.length : Int))) = false → ((true = (xs == ys)))))))))
theorem l_vInts_vc (xs : List Int) (ys : List Int)  (w_xs : (xs.length : Int) ≤ 9223372036854775807) (w_ys : (ys.length : Int) ≤ 9223372036854775807) : l_vInts_P xs ys := by
  unfold l_vInts_P
  refine ⟨?_, ?_⟩
  · intro b1
    try simp only [nrmT] at b1
    exact (len_ne (by omega)).symm
  · intro b2
    try simp only [nrmT] at b2
    refine ⟨?_, ?_⟩
    · refine ⟨0, ?_⟩
      refine ⟨?_, rfl, rfl, rfl⟩
      · refine ⟨?_, ?_, ?_, ?_⟩
        · first | omega | rfl | (intro hg; simp only [nrmT] at hg; omega) | (intro g1 g2; simp [g1, g2]; done) | (intro g1; simp at g1 ⊢; simp [g1]; done) | (simp only [nrmT] at *; omega) | (simp at * <;> omega) | (simp_all <;> omega) | (simp_all; done)
        · first | omega | rfl | (intro hg; simp only [nrmT] at hg; omega) | (intro g1 g2; simp [g1, g2]; done) | (intro g1; simp at g1 ⊢; simp [g1]; done) | (simp only [nrmT] at *; omega) | (simp at * <;> omega) | (simp_all <;> omega) | (simp_all; done)
        · first | omega | rfl | (intro hg; simp only [nrmT] at hg; omega) | (intro g1 g2; simp [g1, g2]; done) | (intro g1; simp at g1 ⊢; simp [g1]; done) | (simp only [nrmT] at *; omega) | (simp at * <;> omega) | (simp_all <;> omega) | (simp_all; done)
        · first | omega | rfl | (intro hg; simp only [nrmT] at hg; omega) | (intro g1 g2; simp [g1, g2]; done) | (intro g1; simp at g1 ⊢; simp [g1]; done) | (simp only [nrmT] at *; omega) | (simp at * <;> omega) | (simp_all <;> omega) | (simp_all; done)
    · intro i hJ
      obtain ⟨h1, h2, h3, h4⟩ := hJ
      refine ⟨?_, ?_⟩
      · intro b3
        try simp only [nrmT] at b3
        refine ⟨rfl, ?_, ?_, ?_, ?_, ?_, ?_, ?_, ?_⟩
        · first | omega | rfl | (intro hg; simp only [nrmT] at hg; omega) | (intro g1 g2; simp [g1, g2]; done) | (intro g1; simp at g1 ⊢; simp [g1]; done) | (simp only [nrmT] at *; omega) | (simp at * <;> omega) | (simp_all <;> omega) | (simp_all; done)
        · first | omega | rfl | (intro hg; simp only [nrmT] at hg; omega) | (intro g1 g2; simp [g1, g2]; done) | (intro g1; simp at g1 ⊢; simp [g1]; done) | (simp only [nrmT] at *; omega) | (simp at * <;> omega) | (simp_all <;> omega) | (simp_all; done)
        · first | omega | rfl | (intro hg; simp only [nrmT] at hg; omega) | (intro g1 g2; simp [g1, g2]; done) | (intro g1; simp at g1 ⊢; simp [g1]; done) | (simp only [nrmT] at *; omega) | (simp at * <;> omega) | (simp_all <;> omega) | (simp_all; done)
        · first | omega | rfl | (intro hg; simp only [nrmT] at hg; omega) | (intro g1 g2; simp [g1, g2]; done) | (intro g1; simp at g1 ⊢; simp [g1]; done) | (simp only [nrmT] at *; omega) | (simp at * <;> omega) | (simp_all <;> omega) | (simp_all; done)
        · first | omega | rfl | (intro hg; simp only [nrmT] at hg; omega) | (intro g1 g2; simp [g1, g2]; done) | (intro g1; simp at g1 ⊢; simp [g1]; done) | (simp only [nrmT] at *; omega) | (simp at * <;> omega) | (simp_all <;> omega) | (simp_all; done)
        · first | omega | rfl | (intro hg; simp only [nrmT] at hg; omega) | (intro g1 g2; simp [g1, g2]; done) | (intro g1; simp at g1 ⊢; simp [g1]; done) | (simp only [nrmT] at *; omega) | (simp at * <;> omega) | (simp_all <;> omega) | (simp_all; done)
        · intro b4
          try simp only [nrmT] at b4
          rw [← beq_of_all (d := 0) h4]; exact (allTo_falseI h1 (by omega) (by simpa using b4)).symm
        · intro b5
          try simp only [nrmT] at b5
          refine ⟨?_, ?_⟩
          · first | omega | rfl | (intro hg; simp only [nrmT] at hg; omega) | (intro g1 g2; simp [g1, g2]; done) | (intro g1; simp at g1 ⊢; simp [g1]; done) | (simp only [nrmT] at *; omega) | (simp at * <;> omega) | (simp_all <;> omega) | (simp_all; done)
          · refine ⟨(i + 1), ?_⟩
            refine ⟨?_, ?_, rfl, rfl, rfl⟩
            · refine ⟨?_, ?_, ?_, ?_⟩
              · first | omega | rfl | (intro hg; simp only [nrmT] at hg; omega) | (intro g1 g2; simp [g1, g2]; done) | (intro g1; simp at g1 ⊢; simp [g1]; done) | (simp only [nrmT] at *; omega) | (simp at * <;> omega) | (simp_all <;> omega) | (simp_all; done)
              · first | omega | rfl | (intro hg; simp only [nrmT] at hg; omega) | (intro g1 g2; simp [g1, g2]; done) | (intro g1; simp at g1 ⊢; simp [g1]; done) | (simp only [nrmT] at *; omega) | (simp at * <;> omega) | (simp_all <;> omega) | (simp_all; done)
              · exact allTo_step h1 h3 (by simpa using b5)
              · first | omega | rfl | (intro hg; simp only [nrmT] at hg; omega) | (intro g1 g2; simp [g1, g2]; done) | (intro g1; simp at g1 ⊢; simp [g1]; done) | (simp only [nrmT] at *; omega) | (simp at * <;> omega) | (simp_all <;> omega) | (simp_all; done)
            · first | (show _ < _; omega) | (simp only [l_vInts_mJ0]; omega) | (simp only [l_vInts_mJ0] at *; simp at *; omega)
      · intro b6
        try simp only [nrmT] at b6
        rw [← beq_of_all (d := 0) h4, ← h3]; congr 1; omega
theorem l_vInts_pc (xs : List Int) (ys : List Int)  : PC Try.prog 38 [.sl (.ints xs), .sl (.ints ys)] (.one (.d (.bool (xs == ys)))) :=
  pc_wf @Try.call38 fun hw => pc_by (by kernel_rfl) Try.func38 @Try.call38 (by kernel_rfl) l_vInts_C (l_vInts_A xs ys) (by kernel_rfl) (l_vInts_vc xs ys hw.1 hw.2.1) (by kernel_rfl)
def l_vInts_orc : List D → Orc := orcN [some .ints, some .ints] fun ds => match ds with
  | [.sl (.ints xs), .sl (.ints ys)] => some (.one (.d (.bool (xs == ys))))
  | _ => none
abbrev l_vHas_JJ0 (xs : List Int) (x : Int) (i : Int) : Prop := (0 ≤ i) ∧ (i ≤ (xs.length : Int)) ∧ (∀ k, k < i.toNat → (fun y => x == y) (xs.getD k 0) = false)
abbrev l_vHas_mJ0 (xs : List Int) (x : Int) (i : Int) : Nat := (xs.length - i).toNat
def l_vHas_C (f : FuncId) (ds : List D) : Orc := .no
def l_vHas_A (xs : List Int) (x : Int) : Ann := .two (.none) (.two (.two (.none) (.loop (cut1 (fun (i : Int) => l_vHas_JJ0 xs x i) (fun (i : Int) => [(0, .d false (.sl (.ints xs))), (1, .d false (.int .i64 x)), (5, .d true (.int .i64 i))]) (fun (i : Int) => [])) (fun g => l_vHas_mJ0 xs x g) (fun _ => .none))) (.none))
def l_vHas_P (xs : List Int) (x : Int) : Prop :=
  ((∃ i' : Int, (l_vHas_JJ0 xs x i') ∧ (xs = xs) ∧ (x = x) ∧ ((0 : Int) = i')) ∧ (∀ i : Int, (l_vHas_JJ0 xs x i) → (((decide (i < (xs.length : Int))) = true → ((0 : Int) ≤ i) ∧ ((i : Int) < xs.length) ∧ (i.toNat < xs.length) ∧ ((((xs.getD i.toNat 0) == x) = true → ((true = (xs.contains x)))) ∧ (((xs.getD i.toNat 0) == x) = false → (-9223372036854775808 ≤ (i + 1) ∧ (i + 1) ≤ 9223372036854775807) ∧ (∃ i' : Int, (l_vHas_JJ0 xs x i') ∧ (l_vHas_mJ0 xs x i' < l_vHas_mJ0 xs x i) ∧ (xs = xs) ∧ (x = x) ∧ ((i + 1) = i'))))) ∧ ((decide (i < (xs.length : Int))) = false → ((false = (xs.contains x)))))))
theorem l_vHas_vc (xs : List Int) (x : Int)  (w_xs : (xs.length : Int) ≤ 9223372036854775807) : l_vHas_P xs x := by
  unfold l_vHas_P
  refine ⟨?_, ?_⟩
  · refine ⟨0, ?_⟩
    refine ⟨?_, rfl, rfl, rfl⟩
    · refine ⟨?_, ?_, ?_⟩
      · first | omega | rfl | (intro hg; simp only [nrmT] at hg; omega) | (intro g1 g2; simp [g1, g2]; done) | (intro g1; simp at g1 ⊢; simp [g1]; done) | (simp only [nrmT] at *; omega) | (simp at * <;> omega) | (simp_all <;> omega) | (simp_all; done)
      · first | omega | rfl | (intro hg; simp only [nrmT] at hg; omega) | (intro g1 g2; simp [g1, g2]; done) | (intro g1; simp at g1 ⊢; simp [g1]; done) | (simp only [nrmT] at *; omega) | (simp at * <;> omega) | (simp_all <;> omega) | (simp_all; done)
      · first | omega | rfl | (intro hg; simp only [nrmT] at hg; omega) | (intro g1 g2; simp [g1, g2]; done) | (intro g1; simp at g1 ⊢; simp [g1]; done) | (simp only [nrmT] at *; omega) | (simp at * <;> omega) | (simp_all <;> omega) | (simp_all; done)
  · intro i hJ
    obtain ⟨h1, h2, h3⟩ := hJ
    refine ⟨?_, ?_⟩
    · intro b1
      try simp only [nrmT] at b1
      refine ⟨?_, ?_, ?_, ?_, ?_⟩
      · first | omega | rfl | (intro hg; simp only [nrmT] at hg; omega) | (intro g1 g2; simp [g1, g2]; done) | (intro g1; simp at g1 ⊢; simp [g1]; done) | (simp only [nrmT] at *; omega) | (simp at * <;> omega) | (simp_all <;> omega) | (simp_all; done)
      · first | omega | rfl | (intro hg; simp only [nrmT] at hg; omega) | (intro g1 g2; simp [g1, g2]; done) | (intro g1; simp at g1 ⊢; simp [g1]; done) | (simp only [nrmT] at *; omega) | (simp at * <;> omega) | (simp_all <;> omega) | (simp_all; done)
      · first | omega | rfl | (intro hg; simp only [nrmT] at hg; omega) | (intro g1 g2; simp [g1, g2]; done) | (intro g1; simp at g1 ⊢; simp [g1]; done) | (simp only [nrmT] at *; omega) | (simp at * <;> omega) | (simp_all <;> omega) | (simp_all; done)
      · intro b2
        try simp only [nrmT] at b2
        exact (has_found h1 b1 b2).symm
      · intro b3
        try simp only [nrmT] at b3
        refine ⟨?_, ?_⟩
        · first | omega | rfl | (intro hg; simp only [nrmT] at hg; omega) | (intro g1 g2; simp [g1, g2]; done) | (intro g1; simp at g1 ⊢; simp [g1]; done) | (simp only [nrmT] at *; omega) | (simp at * <;> omega) | (simp_all <;> omega) | (simp_all; done)
        · refine ⟨(i + 1), ?_⟩
          refine ⟨?_, ?_, rfl, rfl, rfl⟩
          · refine ⟨?_, ?_, ?_⟩
            · first | omega | rfl | (intro hg; simp only [nrmT] at hg; omega) | (intro g1 g2; simp [g1, g2]; done) | (intro g1; simp at g1 ⊢; simp [g1]; done) | (simp only [nrmT] at *; omega) | (simp at * <;> omega) | (simp_all <;> omega) | (simp_all; done)
            · first | omega | rfl | (intro hg; simp only [nrmT] at hg; omega) | (intro g1 g2; simp [g1, g2]; done) | (intro g1; simp at g1 ⊢; simp [g1]; done) | (simp only [nrmT] at *; omega) | (simp at * <;> omega) | (simp_all <;> omega) | (simp_all; done)
            · exact idx_step (p := fun y => x == y) h1 h3 (by simp only [beq_eq_false_iff_ne]; exact fun h => b3 h.symm)
          · first | (show _ < _; omega) | (simp only [l_vHas_mJ0]; omega) | (simp only [l_vHas_mJ0] at *; simp at *; omega)
    · intro b4
      try simp only [nrmT] at b4
      exact (has_end (by omega) h3).symm
theorem l_vHas_pc (xs : List Int) (x : Int)  : PC Try.prog 41 [.sl (.ints xs), .int .i64 x] (.one (.d (.bool (xs.contains x)))) :=
  pc_wf @Try.call41 fun hw => pc_by (by kernel_rfl) Try.func41 @Try.call41 (by kernel_rfl) l_vHas_C (l_vHas_A xs x) (by kernel_rfl) (l_vHas_vc xs x hw.1) (by kernel_rfl)
def l_vHas_orc : List D → Orc := orcN [some .ints, none] fun ds => match ds with
  | [.sl (.ints xs), .int .i64 x] => some (.one (.d (.bool (xs.contains x))))
  | _ => none
def i_ReachOf_C (f : FuncId) (ds : List D) : Orc := bif Nat.beq f 136 then i_isOpened_orc ds else bif Nat.beq f 135 then i_Field_reach_orc ds else .no
def i_ReachOf_A (Open : List Int) (Dist : List (List Int)) (set : List Int) : Ann := .none
def i_ReachOf_P (Open : List Int) (Dist : List (List Int)) (set : List Int) : Prop :=
  (PC Try.prog 136 [.agg [.sl (.ints Open), .sl (.rows Dist)], .sl (.ints set)] (.one (.d (.bool (goodField Open Dist && rising set 0 ((Open.length : Int) - 1) && decide (0 < set.length)))))) ∧ (((!(goodField Open Dist && rising set 0 ((Open.length : Int) - 1) && decide (0 < set.length))) = true → (((0 : Int) = (if (goodField Open Dist && rising set 0 ((Open.length : Int) - 1) && decide (0 < set.length)) = true then rchOf Dist set else 0)) ∧ (false = (goodField Open Dist && rising set 0 ((Open.length : Int) - 1) && decide (0 < set.length))))) ∧ ((!(goodField Open Dist && rising set 0 ((Open.length : Int) - 1) && decide (0 < set.length))) = false → (PC Try.prog 135 [.agg [.sl (.ints Open), .sl (.rows Dist)], .sl (.ints set)] (.one (.d (.int .i64 (rchOf Dist set))))) ∧ (((rchOf Dist set) = (if (goodField Open Dist && rising set 0 ((Open.length : Int) - 1) && decide (0 < set.length)) = true then rchOf Dist set else 0)) ∧ (true = (goodField Open Dist && rising set 0 ((Open.length : Int) - 1) && decide (0 < set.length))))))
theorem i_ReachOf_vc (Open : List Int) (Dist : List (List Int)) (set : List Int)  (w_Open : (Open.length : Int) ≤ 9223372036854775807) (w_Dist : (Dist.length : Int) ≤ 9223372036854775807) (v_Dist : ∀ x9 ∈ Dist, (x9.length : Int) ≤ 9223372036854775807) (w_set : (set.length : Int) ≤ 9223372036854775807) : i_ReachOf_P Open Dist set := by
  unfold i_ReachOf_P
  refine ⟨i_isOpened_pc Open Dist set, ?_, ?_⟩
  · intro b1
    try simp only [Bool.not_eq_true', Bool.not_eq_false', Bool.not_not] at b1
    refine ⟨?_, ?_⟩
    · have hq : (goodField Open Dist && rising set 0 ((Open.length : Int) - 1) && decide (0 < set.length)) = false := by simpa only [Bool.not_eq_true', Bool.not_eq_false', Bool.not_not] using b1
      rw [hq]; rfl
    · first | omega | rfl | (intro hg; simp only [nrmT] at hg; omega) | (intro g1 g2; simp [g1, g2]; done) | (intro g1; simp at g1 ⊢; simp [g1]; done) | (simp only [nrmT] at *; omega) | (simp at * <;> omega) | (simp_all <;> omega) | (simp_all; done)
  · intro b2
    try simp only [Bool.not_eq_true', Bool.not_eq_false', Bool.not_not] at b2
    refine ⟨?_, ?_, ?_⟩
    · refine i_Field_reach_pc Open Dist set ?_
      · first | omega | rfl | (intro hg; simp only [nrmT] at hg; omega) | (intro g1 g2; simp [g1, g2]; done) | (intro g1; simp at g1 ⊢; simp [g1]; done) | (simp only [nrmT] at *; omega) | (simp at * <;> omega) | (simp_all <;> omega) | (simp_all; done)
    · have hq : (goodField Open Dist && rising set 0 ((Open.length : Int) - 1) && decide (0 < set.length)) = true := by simpa only [Bool.not_eq_true', Bool.not_eq_false', Bool.not_not] using b2
      rw [if_pos hq]
    · first | omega | rfl | (intro hg; simp only [nrmT] at hg; omega) | (intro g1 g2; simp [g1, g2]; done) | (intro g1; simp at g1 ⊢; simp [g1]; done) | (simp only [nrmT] at *; omega) | (simp at * <;> omega) | (simp_all <;> omega) | (simp_all; done)
theorem i_ReachOf_pc (Open : List Int) (Dist : List (List Int)) (set : List Int)  : PC Try.prog 42 [.agg [.sl (.ints Open), .sl (.rows Dist)], .sl (.ints set)] (.tup [.d (.int .i64 (if (goodField Open Dist && rising set 0 ((Open.length : Int) - 1) && decide (0 < set.length)) = true then rchOf Dist set else 0)), .d (.bool (goodField Open Dist && rising set 0 ((Open.length : Int) - 1) && decide (0 < set.length)))]) :=
  pc_wf @Try.call42 fun hw => pc_by (by kernel_rfl) Try.func42 @Try.call42 (by kernel_rfl) i_ReachOf_C (i_ReachOf_A Open Dist set) (by kernel_rfl) (i_ReachOf_vc Open Dist set hw.1.1 hw.1.2.1.1 hw.1.2.1.2 hw.2.1) (by kernel_rfl)
def i_ReachOf_orc : List D → Orc := orcN [none, some .ints] fun ds => match ds with
  | [.agg [.sl (.ints Open), .sl (.rows Dist)], .sl (.ints set)] => some (.tup [.d (.int .i64 (if (goodField Open Dist && rising set 0 ((Open.length : Int) - 1) && decide (0 < set.length)) = true then rchOf Dist set else 0)), .d (.bool (goodField Open Dist && rising set 0 ((Open.length : Int) - 1) && decide (0 < set.length)))])
  | _ => none
theorem line_iff {sites clients : List Int} {r : Int} (h : goodL sites clients = true) (hr : 0 ≤ r) (hc : 0 < clients.length) : (lsO sites clients r).isSome = covOk (lfO sites clients) (lfD sites clients) r := by
  cases ho : (lsO sites clients r).isSome with
  | true => exact (line_facts h hr ho hc).2.2.1.symm
  | false =>
    cases hk : covOk (lfO sites clients) (lfD sites clients) r with
    | false => rfl
    | true => rw [line_some h hr hk] at ho; cases ho
abbrev l_FnLineSites_JJ0 (code : List Nat) (set : List Int) (a : Int) : Prop := (goodL (dlS code) (dlC code) = true) ∧ (0 ≤ (dlR code)) ∧ ((lsO (dlS code) (dlC code) (dlR code)).isSome = true) ∧ (0 < (dlC code).length) ∧ (0 ≤ a) ∧ (a ≤ ((dlS code).length : Int)) ∧ (set = tkS (dlS code) (dlC code) (dlR code) a.toNat)
abbrev l_FnLineSites_mJ0 (code : List Nat) (set : List Int) (a : Int) : Nat := ((dlS code).length - a).toNat
def l_FnLineSites_C (f : FuncId) (ds : List D) : Orc := bif Nat.beq f 34 then l_vBig_orc ds else bif Nat.beq f 35 then s_DrawLineSites_orc ds else bif Nat.beq f 36 then i_LineSites_orc ds else bif Nat.beq f 37 then s_LineSites_orc ds else bif Nat.beq f 38 then l_vInts_orc ds else bif Nat.beq f 39 then i_LineField_orc ds else bif Nat.beq f 40 then i_CoveringSites_orc ds else bif Nat.beq f 41 then l_vHas_orc ds else bif Nat.beq f 42 then i_ReachOf_orc ds else .no
def l_FnLineSites_A (code : List Nat) : Ann := .two (.none) (.two (.none) (.two (.none) (.two (.none) (.two (.none) (.two (.none) (.two (.none) (.two (.none) (.two (.none) (.two (.none) (.two (.none) (.two (.none) (.two (.two (.none) (.loop (cut2 (fun (set : List Int) (a : Int) => l_FnLineSites_JJ0 code set a) (fun (set : List Int) (a : Int) => [(3, .own 22 ((dlS code).length)), (5, .d true (.int .i64 (dlR code))), (6, .own 30 ((lsL (dlS code) (dlC code) (dlR code)).length)), (10, .ptr 10 0), (12, .d true (.sl (.ints (covSites (lfO (dlS code) (dlC code)) (lfD (dlS code) (dlC code)) (dlR code))))), (14, .own 1000000 set.length), (15, .d true (.int .i64 a))]) (fun (set : List Int) (a : Int) => [(1000000, .arr true 3 (.ints set)), (22, .arr true 3 (.ints (dlS code))), (30, .arr true 3 (.ints (lsL (dlS code) (dlC code) (dlR code)))), (10, .box 39 [.d true (.sl (.ints (lfO (dlS code) (dlC code)))), .d true (.sl (.rows (lfD (dlS code) (dlC code))))])])) (fun g => l_FnLineSites_mJ0 code g.1 g.2) (fun _ => .none))) (.none)))))))))))))
def l_FnLineSites_P (code : List Nat) : Prop :=
  (PC Try.prog 34 [.sl (.bytes code)] (.one (.d (.bool (decide ((code.length : Int) > 65536)))))) ∧ (((decide ((code.length : Int) > 65536)) = true → ((true = true))) ∧ ((decide ((code.length : Int) > 65536)) = false → (PC Try.prog 35 [.sl (.bytes code)] (.tup [.own 3 (.ints (dlS code)), .own 3 (.ints (dlC code)), .d (.int .i64 (dlR code))])) ∧ ((dlS code).length = (dlS code).length) ∧ ((dlC code).length = (dlC code).length) ∧ (PC Try.prog 36 [.sl (.ints (dlS code)), .sl (.ints (dlC code)), .int .i64 (dlR code)] (.tup [.own 3 (.ints (lsL (dlS code) (dlC code) (dlR code))), .d (.bool ((lsO (dlS code) (dlC code) (dlR code)).isSome))])) ∧ ((dlS code).length = (dlS code).length) ∧ ((dlC code).length = (dlC code).length) ∧ (PC Try.prog 37 [.sl (.ints (dlS code)), .sl (.ints (dlC code)), .int .i64 (dlR code)] (.tup [.d (.sl (.ints (lsL (dlS code) (dlC code) (dlR code)))), .d (.bool ((lsO (dlS code) (dlC code) (dlR code)).isSome))])) ∧ ((!(((lsO (dlS code) (dlC code) (dlR code)).isSome) != ((lsO (dlS code) (dlC code) (dlR code)).isSome))) = true → (!(((lsO (dlS code) (dlC code) (dlR code)).isSome) != ((lsO (dlS code) (dlC code) (dlR code)).isSome))) = true) ∧ ((!(((lsO (dlS code) (dlC code) (dlR code)).isSome) != ((lsO (dlS code) (dlC code) (dlR code)).isSome))) = true → (!(((lsO (dlS code) (dlC code) (dlR code)).isSome) != ((lsO (dlS code) (dlC code) (dlR code)).isSome))) = true) ∧ (((!(((lsO (dlS code) (dlC code) (dlR code)).isSome) != ((lsO (dlS code) (dlC code) (dlR code)).isSome))) = true → (lsL (dlS code) (dlC code) (dlR code)).length = (lsL (dlS code) (dlC code) (dlR code)).length)) ∧ ((!(((lsO (dlS code) (dlC code) (dlR code)).isSome) != ((lsO (dlS code) (dlC code) (dlR code)).isSome))) = true → PC Try.prog 38 [.sl (.ints (lsL (dlS code) (dlC code) (dlR code))), .sl (.ints (lsL (dlS code) (dlC code) (dlR code)))] (.one (.d (.bool ((lsL (dlS code) (dlC code) (dlR code)) == (lsL (dlS code) (dlC code) (dlR code))))))) ∧ ((!(((lsO (dlS code) (dlC code) (dlR code)).isSome) != ((lsO (dlS code) (dlC code) (dlR code)).isSome))) = true → (!(((lsO (dlS code) (dlC code) (dlR code)).isSome) != ((lsO (dlS code) (dlC code) (dlR code)).isSome))) = true) ∧ (true = true) ∧ (((((lsO (dlS code) (dlC code) (dlR code)).isSome) != ((lsO (dlS code) (dlC code) (dlR code)).isSome)) = true → true = true)) ∧ (((((lsO (dlS code) (dlC code) (dlR code)).isSome) != ((lsO (dlS code) (dlC code) (dlR code)).isSome)) = false → (!(((lsO (dlS code) (dlC code) (dlR code)).isSome) != ((lsO (dlS code) (dlC code) (dlR code)).isSome))) = true)) ∧ (((cond (((lsO (dlS code) (dlC code) (dlR code)).isSome) != ((lsO (dlS code) (dlC code) (dlR code)).isSome)) true (!((lsL (dlS code) (dlC code) (dlR code)) == (lsL (dlS code) (dlC code) (dlR code))))) = true → ((false = true))) ∧ ((cond (((lsO (dlS code) (dlC code) (dlR code)).isSome) != ((lsO (dlS code) (dlC code) (dlR code)).isSome)) true (!((lsL (dlS code) (dlC code) (dlR code)) == (lsL (dlS code) (dlC code) (dlR code))))) = false → ((dlS code).length = (dlS code).length) ∧ ((dlC code).length = (dlC code).length) ∧ (PC Try.prog 39 [.sl (.ints (dlS code)), .sl (.ints (dlC code))] (.tup [.d (.agg [.sl (.ints (lfO (dlS code) (dlC code))), .sl (.rows (lfD (dlS code) (dlC code)))]), .d (.bool (goodL (dlS code) (dlC code)))])) ∧ ((!(!(goodL (dlS code) (dlC code)))) = true → (!(!(goodL (dlS code) (dlC code)))) = true) ∧ (true = true) ∧ (((!(goodL (dlS code) (dlC code))) = true → true = true)) ∧ (((!(goodL (dlS code) (dlC code))) = false → (!(!(goodL (dlS code) (dlC code)))) = true)) ∧ (((cond (!(goodL (dlS code) (dlC code))) true (decide ((dlR code) < 0))) = true → (((!((lsO (dlS code) (dlC code) (dlR code)).isSome)) = true))) ∧ ((cond (!(goodL (dlS code) (dlC code))) true (decide ((dlR code) < 0))) = false → (PC Try.prog 40 [.agg [.sl (.ints (lfO (dlS code) (dlC code))), .sl (.rows (lfD (dlS code) (dlC code)))], .int .i64 (dlR code)] (.tup [.d (.sl (.ints (covSites (lfO (dlS code) (dlC code)) (lfD (dlS code) (dlC code)) (dlR code)))), .d (.bool (covOk (lfO (dlS code) (dlC code)) (lfD (dlS code) (dlC code)) (dlR code)))])) ∧ ((((lsO (dlS code) (dlC code) (dlR code)).isSome) != (covOk (lfO (dlS code) (dlC code)) (lfD (dlS code) (dlC code)) (dlR code))) = true → (((lsO (dlS code) (dlC code) (dlR code)).isSome) != (covOk (lfO (dlS code) (dlC code)) (lfD (dlS code) (dlC code)) (dlR code))) = true) ∧ ((((lsO (dlS code) (dlC code) (dlR code)).isSome) != (covOk (lfO (dlS code) (dlC code)) (lfD (dlS code) (dlC code)) (dlR code))) = true → (((lsO (dlS code) (dlC code) (dlR code)).isSome) != (covOk (lfO (dlS code) (dlC code)) (lfD (dlS code) (dlC code)) (dlR code))) = true) ∧ (true = true) ∧ (((((lsO (dlS code) (dlC code) (dlR code)).isSome) != (covOk (lfO (dlS code) (dlC code)) (lfD (dlS code) (dlC code)) (dlR code))) = true → (((lsO (dlS code) (dlC code) (dlR code)).isSome) != (covOk (lfO (dlS code) (dlC code)) (lfD (dlS code) (dlC code)) (dlR code))) = true)) ∧ (((((lsO (dlS code) (dlC code) (dlR code)).isSome) != (covOk (lfO (dlS code) (dlC code)) (lfD (dlS code) (dlC code)) (dlR code))) = false → true = true)) ∧ (((cond (((lsO (dlS code) (dlC code) (dlR code)).isSome) != (covOk (lfO (dlS code) (dlC code)) (lfD (dlS code) (dlC code)) (dlR code))) (decide ((((dlC code).length) : Int) > 0)) false) = true → ((false = true))) ∧ ((cond (((lsO (dlS code) (dlC code) (dlR code)).isSome) != (covOk (lfO (dlS code) (dlC code)) (lfD (dlS code) (dlC code)) (dlR code))) (decide ((((dlC code).length) : Int) > 0)) false) = false → ((!(!((lsO (dlS code) (dlC code) (dlR code)).isSome))) = true → (!(!((lsO (dlS code) (dlC code) (dlR code)).isSome))) = true) ∧ ((!(!((lsO (dlS code) (dlC code) (dlR code)).isSome))) = true → (!(!((lsO (dlS code) (dlC code) (dlR code)).isSome))) = true) ∧ (true = true) ∧ (((!((lsO (dlS code) (dlC code) (dlR code)).isSome)) = true → true = true)) ∧ (((!((lsO (dlS code) (dlC code) (dlR code)).isSome)) = false → (!(!((lsO (dlS code) (dlC code) (dlR code)).isSome))) = true)) ∧ (((cond (!((lsO (dlS code) (dlC code) (dlR code)).isSome)) true ((((dlC code).length) : Int) == 0)) = true → ((true = true))) ∧ ((cond (!((lsO (dlS code) (dlC code) (dlR code)).isSome)) true ((((dlC code).length) : Int) == 0)) = false → ((∃ set' : List Int, ∃ a' : Int, (l_FnLineSites_JJ0 code set' a') ∧ ((dlS code).length = (dlS code).length) ∧ ((dlR code) = (dlR code)) ∧ ((lsL (dlS code) (dlC code) (dlR code)).length = (lsL (dlS code) (dlC code) (dlR code)).length) ∧ ((covSites (lfO (dlS code) (dlC code)) (lfD (dlS code) (dlC code)) (dlR code)) = (covSites (lfO (dlS code) (dlC code)) (lfD (dlS code) (dlC code)) (dlR code))) ∧ ((0 : Nat) = set'.length) ∧ ((0 : Int) = a') ∧ ([] = set') ∧ (dlS code = dlS code) ∧ (lsL (dlS code) (dlC code) (dlR code) = lsL (dlS code) (dlC code) (dlR code)) ∧ (lfO (dlS code) (dlC code) = lfO (dlS code) (dlC code)) ∧ (lfD (dlS code) (dlC code) = lfD (dlS code) (dlC code))) ∧ (∀ set : List Int, ∀ a : Int, (l_FnLineSites_JJ0 code set a) → (((decide (a < (((dlS code).length) : Int))) = true → ((lsL (dlS code) (dlC code) (dlR code)).length = (lsL (dlS code) (dlC code) (dlR code)).length) ∧ (PC Try.prog 41 [.sl (.ints (lsL (dlS code) (dlC code) (dlR code))), .int .i64 a] (.one (.d (.bool ((lsL (dlS code) (dlC code) (dlR code)).contains a))))) ∧ ((((lsL (dlS code) (dlC code) (dlR code)).contains a) = true → (set.length = set.length) ∧ ((1 : Nat) = 1) ∧ ((set.length + 1) * 8 ≤ 140737488355328) ∧ (-9223372036854775808 ≤ (a + 1) ∧ (a + 1) ≤ 9223372036854775807) ∧ (∃ set' : List Int, ∃ a' : Int, (l_FnLineSites_JJ0 code set' a') ∧ (l_FnLineSites_mJ0 code set' a' < l_FnLineSites_mJ0 code set a) ∧ ((dlS code).length = (dlS code).length) ∧ ((dlR code) = (dlR code)) ∧ ((lsL (dlS code) (dlC code) (dlR code)).length = (lsL (dlS code) (dlC code) (dlR code)).length) ∧ ((covSites (lfO (dlS code) (dlC code)) (lfD (dlS code) (dlC code)) (dlR code)) = (covSites (lfO (dlS code) (dlC code)) (lfD (dlS code) (dlC code)) (dlR code))) ∧ ((set.length + 1) = set'.length) ∧ ((a + 1) = a') ∧ ((set ++ [a]) = set') ∧ (dlS code = dlS code) ∧ (lsL (dlS code) (dlC code) (dlR code) = lsL (dlS code) (dlC code) (dlR code)) ∧ (lfO (dlS code) (dlC code) = lfO (dlS code) (dlC code)) ∧ (lfD (dlS code) (dlC code) = lfD (dlS code) (dlC code)))) ∧ (((lsL (dlS code) (dlC code) (dlR code)).contains a) = false → (-9223372036854775808 ≤ (a + 1) ∧ (a + 1) ≤ 9223372036854775807) ∧ (∃ set' : List Int, ∃ a' : Int, (l_FnLineSites_JJ0 code set' a') ∧ (l_FnLineSites_mJ0 code set' a' < l_FnLineSites_mJ0 code set a) ∧ ((dlS code).length = (dlS code).length) ∧ ((dlR code) = (dlR code)) ∧ ((lsL (dlS code) (dlC code) (dlR code)).length = (lsL (dlS code) (dlC code) (dlR code)).length) ∧ ((covSites (lfO (dlS code) (dlC code)) (lfD (dlS code) (dlC code)) (dlR code)) = (covSites (lfO (dlS code) (dlC code)) (lfD (dlS code) (dlC code)) (dlR code))) ∧ (set.length = set'.length) ∧ ((a + 1) = a') ∧ (set = set') ∧ (dlS code = dlS code) ∧ (lsL (dlS code) (dlC code) (dlR code) = lsL (dlS code) (dlC code) (dlR code)) ∧ (lfO (dlS code) (dlC code) = lfO (dlS code) (dlC code)) ∧ (lfD (dlS code) (dlC code) = lfD (dlS code) (dlC code)))))) ∧ ((decide (a < (((dlS code).length) : Int))) = false → (set.length = set.length) ∧ (PC Try.prog 42 [.agg [.sl (.ints (lfO (dlS code) (dlC code))), .sl (.rows (lfD (dlS code) (dlC code)))], .sl (.ints set)] (.tup [.d (.int .i64 (if (goodField (lfO (dlS code) (dlC code)) (lfD (dlS code) (dlC code)) && rising set 0 (((lfO (dlS code) (dlC code)).length : Int) - 1) && decide (0 < set.length)) = true then rchOf (lfD (dlS code) (dlC code)) set else 0)), .d (.bool (goodField (lfO (dlS code) (dlC code)) (lfD (dlS code) (dlC code)) && rising set 0 (((lfO (dlS code) (dlC code)).length : Int) - 1) && decide (0 < set.length)))])) ∧ ((goodField (lfO (dlS code) (dlC code)) (lfD (dlS code) (dlC code)) && rising set 0 (((lfO (dlS code) (dlC code)).length : Int) - 1) && decide (0 < set.length)) = true → (goodField (lfO (dlS code) (dlC code)) (lfD (dlS code) (dlC code)) && rising set 0 (((lfO (dlS code) (dlC code)).length : Int) - 1) && decide (0 < set.length)) = true) ∧ ((goodField (lfO (dlS code) (dlC code)) (lfD (dlS code) (dlC code)) && rising set 0 (((lfO (dlS code) (dlC code)).length : Int) - 1) && decide (0 < set.length)) = true → (goodField (lfO (dlS code) (dlC code)) (lfD (dlS code) (dlC code)) && rising set 0 (((lfO (dlS code) (dlC code)).length : Int) - 1) && decide (0 < set.length)) = true) ∧ (true = true) ∧ (((goodField (lfO (dlS code) (dlC code)) (lfD (dlS code) (dlC code)) && rising set 0 (((lfO (dlS code) (dlC code)).length : Int) - 1) && decide (0 < set.length)) = true → (goodField (lfO (dlS code) (dlC code)) (lfD (dlS code) (dlC code)) && rising set 0 (((lfO (dlS code) (dlC code)).length : Int) - 1) && decide (0 < set.length)) = true)) ∧ (((goodField (lfO (dlS code) (dlC code)) (lfD (dlS code) (dlC code)) && rising set 0 (((lfO (dlS code) (dlC code)).length : Int) - 1) && decide (0 < set.length)) = false → true = true)) ∧ ((cond (goodField (lfO (dlS code) (dlC code)) (lfD (dlS code) (dlC code)) && rising set 0 (((lfO (dlS code) (dlC code)).length : Int) - 1) && decide (0 < set.length)) (decide ((if (goodField (lfO (dlS code) (dlC code)) (lfD (dlS code) (dlC code)) && rising set 0 (((lfO (dlS code) (dlC code)).length : Int) - 1) && decide (0 < set.length)) = true then rchOf (lfD (dlS code) (dlC code)) set else 0) ≤ (dlR code))) false) = true → (cond (goodField (lfO (dlS code) (dlC code)) (lfD (dlS code) (dlC code)) && rising set 0 (((lfO (dlS code) (dlC code)).length : Int) - 1) && decide (0 < set.length)) (decide ((if (goodField (lfO (dlS code) (dlC code)) (lfD (dlS code) (dlC code)) && rising set 0 (((lfO (dlS code) (dlC code)).length : Int) - 1) && decide (0 < set.length)) = true then rchOf (lfD (dlS code) (dlC code)) set else 0) ≤ (dlR code))) false) = true) ∧ ((cond (goodField (lfO (dlS code) (dlC code)) (lfD (dlS code) (dlC code)) && rising set 0 (((lfO (dlS code) (dlC code)).length : Int) - 1) && decide (0 < set.length)) (decide ((if (goodField (lfO (dlS code) (dlC code)) (lfD (dlS code) (dlC code)) && rising set 0 (((lfO (dlS code) (dlC code)).length : Int) - 1) && decide (0 < set.length)) = true then rchOf (lfD (dlS code) (dlC code)) set else 0) ≤ (dlR code))) false) = true → (cond (goodField (lfO (dlS code) (dlC code)) (lfD (dlS code) (dlC code)) && rising set 0 (((lfO (dlS code) (dlC code)).length : Int) - 1) && decide (0 < set.length)) (decide ((if (goodField (lfO (dlS code) (dlC code)) (lfD (dlS code) (dlC code)) && rising set 0 (((lfO (dlS code) (dlC code)).length : Int) - 1) && decide (0 < set.length)) = true then rchOf (lfD (dlS code) (dlC code)) set else 0) ≤ (dlR code))) false) = true) ∧ ((cond (goodField (lfO (dlS code) (dlC code)) (lfD (dlS code) (dlC code)) && rising set 0 (((lfO (dlS code) (dlC code)).length : Int) - 1) && decide (0 < set.length)) (decide ((if (goodField (lfO (dlS code) (dlC code)) (lfD (dlS code) (dlC code)) && rising set 0 (((lfO (dlS code) (dlC code)).length : Int) - 1) && decide (0 < set.length)) = true then rchOf (lfD (dlS code) (dlC code)) set else 0) ≤ (dlR code))) false) = true → (cond (goodField (lfO (dlS code) (dlC code)) (lfD (dlS code) (dlC code)) && rising set 0 (((lfO (dlS code) (dlC code)).length : Int) - 1) && decide (0 < set.length)) (decide ((if (goodField (lfO (dlS code) (dlC code)) (lfD (dlS code) (dlC code)) && rising set 0 (((lfO (dlS code) (dlC code)).length : Int) - 1) && decide (0 < set.length)) = true then rchOf (lfD (dlS code) (dlC code)) set else 0) ≤ (dlR code))) false) = true) ∧ ((cond (goodField (lfO (dlS code) (dlC code)) (lfD (dlS code) (dlC code)) && rising set 0 (((lfO (dlS code) (dlC code)).length : Int) - 1) && decide (0 < set.length)) (decide ((if (goodField (lfO (dlS code) (dlC code)) (lfD (dlS code) (dlC code)) && rising set 0 (((lfO (dlS code) (dlC code)).length : Int) - 1) && decide (0 < set.length)) = true then rchOf (lfD (dlS code) (dlC code)) set else 0) ≤ (dlR code))) false) = true → (cond (goodField (lfO (dlS code) (dlC code)) (lfD (dlS code) (dlC code)) && rising set 0 (((lfO (dlS code) (dlC code)).length : Int) - 1) && decide (0 < set.length)) (decide ((if (goodField (lfO (dlS code) (dlC code)) (lfD (dlS code) (dlC code)) && rising set 0 (((lfO (dlS code) (dlC code)).length : Int) - 1) && decide (0 < set.length)) = true then rchOf (lfD (dlS code) (dlC code)) set else 0) ≤ (dlR code))) false) = true) ∧ (true = true) ∧ (((cond (goodField (lfO (dlS code) (dlC code)) (lfD (dlS code) (dlC code)) && rising set 0 (((lfO (dlS code) (dlC code)).length : Int) - 1) && decide (0 < set.length)) (decide ((if (goodField (lfO (dlS code) (dlC code)) (lfD (dlS code) (dlC code)) && rising set 0 (((lfO (dlS code) (dlC code)).length : Int) - 1) && decide (0 < set.length)) = true then rchOf (lfD (dlS code) (dlC code)) set else 0) ≤ (dlR code))) false) = true → (cond (goodField (lfO (dlS code) (dlC code)) (lfD (dlS code) (dlC code)) && rising set 0 (((lfO (dlS code) (dlC code)).length : Int) - 1) && decide (0 < set.length)) (decide ((if (goodField (lfO (dlS code) (dlC code)) (lfD (dlS code) (dlC code)) && rising set 0 (((lfO (dlS code) (dlC code)).length : Int) - 1) && decide (0 < set.length)) = true then rchOf (lfD (dlS code) (dlC code)) set else 0) ≤ (dlR code))) false) = true)) ∧ (((cond (goodField (lfO (dlS code) (dlC code)) (lfD (dlS code) (dlC code)) && rising set 0 (((lfO (dlS code) (dlC code)).length : Int) - 1) && decide (0 < set.length)) (decide ((if (goodField (lfO (dlS code) (dlC code)) (lfD (dlS code) (dlC code)) && rising set 0 (((lfO (dlS code) (dlC code)).length : Int) - 1) && decide (0 < set.length)) = true then rchOf (lfD (dlS code) (dlC code)) set else 0) ≤ (dlR code))) false) = false → true = true)) ∧ ((cond (cond (goodField (lfO (dlS code) (dlC code)) (lfD (dlS code) (dlC code)) && rising set 0 (((lfO (dlS code) (dlC code)).length : Int) - 1) && decide (0 < set.length)) (decide ((if (goodField (lfO (dlS code) (dlC code)) (lfD (dlS code) (dlC code)) && rising set 0 (((lfO (dlS code) (dlC code)).length : Int) - 1) && decide (0 < set.length)) = true then rchOf (lfD (dlS code) (dlC code)) set else 0) ≤ (dlR code))) false) ((((lsL (dlS code) (dlC code) (dlR code)).length) : Int) == (((covSites (lfO (dlS code) (dlC code)) (lfD (dlS code) (dlC code)) (dlR code)).length) : Int)) false) = true → (cond (cond (goodField (lfO (dlS code) (dlC code)) (lfD (dlS code) (dlC code)) && rising set 0 (((lfO (dlS code) (dlC code)).length : Int) - 1) && decide (0 < set.length)) (decide ((if (goodField (lfO (dlS code) (dlC code)) (lfD (dlS code) (dlC code)) && rising set 0 (((lfO (dlS code) (dlC code)).length : Int) - 1) && decide (0 < set.length)) = true then rchOf (lfD (dlS code) (dlC code)) set else 0) ≤ (dlR code))) false) ((((lsL (dlS code) (dlC code) (dlR code)).length) : Int) == (((covSites (lfO (dlS code) (dlC code)) (lfD (dlS code) (dlC code)) (dlR code)).length) : Int)) false) = true) ∧ ((cond (cond (goodField (lfO (dlS code) (dlC code)) (lfD (dlS code) (dlC code)) && rising set 0 (((lfO (dlS code) (dlC code)).length : Int) - 1) && decide (0 < set.length)) (decide ((if (goodField (lfO (dlS code) (dlC code)) (lfD (dlS code) (dlC code)) && rising set 0 (((lfO (dlS code) (dlC code)).length : Int) - 1) && decide (0 < set.length)) = true then rchOf (lfD (dlS code) (dlC code)) set else 0) ≤ (dlR code))) false) ((((lsL (dlS code) (dlC code) (dlR code)).length) : Int) == (((covSites (lfO (dlS code) (dlC code)) (lfD (dlS code) (dlC code)) (dlR code)).length) : Int)) false) = true → (cond (cond (goodField (lfO (dlS code) (dlC code)) (lfD (dlS code) (dlC code)) && rising set 0 (((lfO (dlS code) (dlC code)).length : Int) - 1) && decide (0 < set.length)) (decide ((if (goodField (lfO (dlS code) (dlC code)) (lfD (dlS code) (dlC code)) && rising set 0 (((lfO (dlS code) (dlC code)).length : Int) - 1) && decide (0 < set.length)) = true then rchOf (lfD (dlS code) (dlC code)) set else 0) ≤ (dlR code))) false) ((((lsL (dlS code) (dlC code) (dlR code)).length) : Int) == (((covSites (lfO (dlS code) (dlC code)) (lfD (dlS code) (dlC code)) (dlR code)).length) : Int)) false) = true) ∧ ((cond (cond (goodField (lfO (dlS code) (dlC code)) (lfD (dlS code) (dlC code)) && rising set 0 (((lfO (dlS code) (dlC code)).length : Int) - 1) && decide (0 < set.length)) (decide ((if (goodField (lfO (dlS code) (dlC code)) (lfD (dlS code) (dlC code)) && rising set 0 (((lfO (dlS code) (dlC code)).length : Int) - 1) && decide (0 < set.length)) = true then rchOf (lfD (dlS code) (dlC code)) set else 0) ≤ (dlR code))) false) ((((lsL (dlS code) (dlC code) (dlR code)).length) : Int) == (((covSites (lfO (dlS code) (dlC code)) (lfD (dlS code) (dlC code)) (dlR code)).length) : Int)) false) = true → (cond (cond (goodField (lfO (dlS code) (dlC code)) (lfD (dlS code) (dlC code)) && rising set 0 (((lfO (dlS code) (dlC code)).length : Int) - 1) && decide (0 < set.length)) (decide ((if (goodField (lfO (dlS code) (dlC code)) (lfD (dlS code) (dlC code)) && rising set 0 (((lfO (dlS code) (dlC code)).length : Int) - 1) && decide (0 < set.length)) = true then rchOf (lfD (dlS code) (dlC code)) set else 0) ≤ (dlR code))) false) ((((lsL (dlS code) (dlC code) (dlR code)).length) : Int) == (((covSites (lfO (dlS code) (dlC code)) (lfD (dlS code) (dlC code)) (dlR code)).length) : Int)) false) = true) ∧ ((cond (cond (goodField (lfO (dlS code) (dlC code)) (lfD (dlS code) (dlC code)) && rising set 0 (((lfO (dlS code) (dlC code)).length : Int) - 1) && decide (0 < set.length)) (decide ((if (goodField (lfO (dlS code) (dlC code)) (lfD (dlS code) (dlC code)) && rising set 0 (((lfO (dlS code) (dlC code)).length : Int) - 1) && decide (0 < set.length)) = true then rchOf (lfD (dlS code) (dlC code)) set else 0) ≤ (dlR code))) false) ((((lsL (dlS code) (dlC code) (dlR code)).length) : Int) == (((covSites (lfO (dlS code) (dlC code)) (lfD (dlS code) (dlC code)) (dlR code)).length) : Int)) false) = true → (cond (cond (goodField (lfO (dlS code) (dlC code)) (lfD (dlS code) (dlC code)) && rising set 0 (((lfO (dlS code) (dlC code)).length : Int) - 1) && decide (0 < set.length)) (decide ((if (goodField (lfO (dlS code) (dlC code)) (lfD (dlS code) (dlC code)) && rising set 0 (((lfO (dlS code) (dlC code)).length : Int) - 1) && decide (0 < set.length)) = true then rchOf (lfD (dlS code) (dlC code)) set else 0) ≤ (dlR code))) false) ((((lsL (dlS code) (dlC code) (dlR code)).length) : Int) == (((covSites (lfO (dlS code) (dlC code)) (lfD (dlS code) (dlC code)) (dlR code)).length) : Int)) false) = true) ∧ (true = true) ∧ (((cond (cond (goodField (lfO (dlS code) (dlC code)) (lfD (dlS code) (dlC code)) && rising set 0 (((lfO (dlS code) (dlC code)).length : Int) - 1) && decide (0 < set.length)) (decide ((if (goodField (lfO (dlS code) (dlC code)) (lfD (dlS code) (dlC code)) && rising set 0 (((lfO (dlS code) (dlC code)).length : Int) - 1) && decide (0 < set.length)) = true then rchOf (lfD (dlS code) (dlC code)) set else 0) ≤ (dlR code))) false) ((((lsL (dlS code) (dlC code) (dlR code)).length) : Int) == (((covSites (lfO (dlS code) (dlC code)) (lfD (dlS code) (dlC code)) (dlR code)).length) : Int)) false) = true → (cond (cond (goodField (lfO (dlS code) (dlC code)) (lfD (dlS code) (dlC code)) && rising set 0 (((lfO (dlS code) (dlC code)).length : Int) - 1) && decide (0 < set.length)) (decide ((if (goodField (lfO (dlS code) (dlC code)) (lfD (dlS code) (dlC code)) && rising set 0 (((lfO (dlS code) (dlC code)).length : Int) - 1) && decide (0 < set.length)) = true then rchOf (lfD (dlS code) (dlC code)) set else 0) ≤ (dlR code))) false) ((((lsL (dlS code) (dlC code) (dlR code)).length) : Int) == (((covSites (lfO (dlS code) (dlC code)) (lfD (dlS code) (dlC code)) (dlR code)).length) : Int)) false) = true)) ∧ (((cond (cond (goodField (lfO (dlS code) (dlC code)) (lfD (dlS code) (dlC code)) && rising set 0 (((lfO (dlS code) (dlC code)).length : Int) - 1) && decide (0 < set.length)) (decide ((if (goodField (lfO (dlS code) (dlC code)) (lfD (dlS code) (dlC code)) && rising set 0 (((lfO (dlS code) (dlC code)).length : Int) - 1) && decide (0 < set.length)) = true then rchOf (lfD (dlS code) (dlC code)) set else 0) ≤ (dlR code))) false) ((((lsL (dlS code) (dlC code) (dlR code)).length) : Int) == (((covSites (lfO (dlS code) (dlC code)) (lfD (dlS code) (dlC code)) (dlR code)).length) : Int)) false) = false → true = true)) ∧ (((cond (cond (cond (goodField (lfO (dlS code) (dlC code)) (lfD (dlS code) (dlC code)) && rising set 0 (((lfO (dlS code) (dlC code)).length : Int) - 1) && decide (0 < set.length)) (decide ((if (goodField (lfO (dlS code) (dlC code)) (lfD (dlS code) (dlC code)) && rising set 0 (((lfO (dlS code) (dlC code)).length : Int) - 1) && decide (0 < set.length)) = true then rchOf (lfD (dlS code) (dlC code)) set else 0) ≤ (dlR code))) false) ((((lsL (dlS code) (dlC code) (dlR code)).length) : Int) == (((covSites (lfO (dlS code) (dlC code)) (lfD (dlS code) (dlC code)) (dlR code)).length) : Int)) false) ((set.length : Int) == (((lsL (dlS code) (dlC code) (dlR code)).length) : Int)) false) = true))))))))))))))))
theorem l_FnLineSites_vc (code : List Nat) (hb : ∀ x9 ∈ code, x9 < 256) (w_code : (code.length : Int) ≤ 9223372036854775807) : l_FnLineSites_P code := by
  unfold l_FnLineSites_P
  refine ⟨l_vBig_pc code, ?_, ?_⟩
  · intro b1
    try simp only [nrmT] at b1
    exact rfl
  · intro b2
    try simp only [nrmT] at b2
    refine ⟨?_, rfl, rfl, i_LineSites_pc (dlS code) (dlC code) (dlR code), rfl, rfl, s_LineSites_pc (dlS code) (dlC code) (dlR code), id, id, fun _ => rfl, fun _ => l_vInts_pc (lsL (dlS code) (dlC code) (dlR code)) (lsL (dlS code) (dlC code) (dlR code)), id, rfl, fun _ => rfl, ?_, ?_, ?_⟩
    · refine s_DrawLineSites_pc code ?_
      · exact hb
    · first | assumption | (rw [ls_no b2]; rfl) | (revert b2; cases (lsO (dlS code) (dlC code) (dlR code)).isSome <;> simp)
    · intro b3
      simp at b3
    · intro b4
      refine ⟨rfl, rfl, i_LineField_pc (dlS code) (dlC code), id, rfl, fun _ => rfl, ?_, ?_, ?_⟩
      · first | omega | rfl | (intro hg; simp only [nrmT] at hg; omega) | (intro g1 g2; simp [g1, g2]; done) | (intro g1; simp at g1 ⊢; simp [g1]; done) | (simp only [nrmT] at *; omega) | (simp at * <;> omega) | (simp_all <;> omega) | (simp_all; done)
      · intro b5
        first | assumption | (rw [ls_no b5]; rfl) | (revert b5; cases (lsO (dlS code) (dlC code) (dlR code)).isSome <;> simp)
      · intro b6
        refine ⟨i_CoveringSites_pc (lfO (dlS code) (dlC code)) (lfD (dlS code) (dlC code)) (dlR code), id, id, rfl, id, fun _ => rfl, ?_, ?_⟩
        · intro b7
          exfalso
          obtain ⟨hg, hr⟩ := ls_test b6
          rw [cond_and, Bool.and_eq_true, decide_eq_true_eq] at b7
          rw [line_iff hg hr (by omega)] at b7
          simp at b7
        · intro b8
          refine ⟨id, id, rfl, fun _ => rfl, ?_, ?_, ?_⟩
          · first | assumption | (rw [ls_no b8]; rfl) | (revert b8; cases (lsO (dlS code) (dlC code) (dlR code)).isSome <;> simp)
          · intro b9
            exact rfl
          · intro b10
            refine ⟨?_, ?_⟩
            · refine ⟨([]), 0, ?_⟩
              refine ⟨?_, rfl, rfl, rfl, rfl, rfl, rfl, ?_, rfl, rfl, rfl, rfl⟩
              · refine ⟨?_, ?_, ?_, ?_, ?_, ?_, ?_⟩
                · first | assumption | exact (ls_test b6).1
                · first | assumption | exact (ls_test b6).2
                · first | assumption | (rw [ls_no b10]; rfl) | (revert b10; cases (lsO (dlS code) (dlC code) (dlR code)).isSome <;> simp)
                · first
                  | assumption
                  | (have h9 : (dlC code).length ≠ 0 := by
                       intro e
                       rw [e] at b10
                       revert b10
                       cases (lsO (dlS code) (dlC code) (dlR code)).isSome <;> simp
                     omega)
                · first | omega | rfl | (intro hg; simp only [nrmT] at hg; omega) | (intro g1 g2; simp [g1, g2]; done) | (intro g1; simp at g1 ⊢; simp [g1]; done) | (simp only [nrmT] at *; omega) | (simp at * <;> omega) | (simp_all <;> omega) | (simp_all; done)
                · first | omega | rfl | (intro hg; simp only [nrmT] at hg; omega) | (intro g1 g2; simp [g1, g2]; done) | (intro g1; simp at g1 ⊢; simp [g1]; done) | (simp only [nrmT] at *; omega) | (simp at * <;> omega) | (simp_all <;> omega) | (simp_all; done)
                · first | omega | rfl | (intro hg; simp only [nrmT] at hg; omega) | (intro g1 g2; simp [g1, g2]; done) | (intro g1; simp at g1 ⊢; simp [g1]; done) | (simp only [nrmT] at *; omega) | (simp at * <;> omega) | (simp_all <;> omega) | (simp_all; done)
              · first | omega | rfl | (intro hg; simp only [nrmT] at hg; omega) | (intro g1 g2; simp [g1, g2]; done) | (intro g1; simp at g1 ⊢; simp [g1]; done) | (simp only [nrmT] at *; omega) | (simp at * <;> omega) | (simp_all <;> omega) | (simp_all; done)
            · intro set a hJ
              obtain ⟨h0, hr, ho, hc, h1, h2, h3⟩ := hJ
              refine ⟨?_, ?_⟩
              · intro b11
                try simp only [nrmT] at b11
                refine ⟨rfl, l_vHas_pc (lsL (dlS code) (dlC code) (dlR code)) a, ?_, ?_⟩
                · intro b12
                  try simp only [nrmT] at b12
                  refine ⟨rfl, rfl, ?_, ?_, ?_⟩
                  · have gl := goodL_facts h0
                    have q := members_len_le (fun x : Nat => (lsL (dlS code) (dlC code) (dlR code)).contains (x : Int)) a.toNat
                    rw [h3]; unfold tkS; omega
                  · have gl := goodL_facts h0
                    omega
                  · refine ⟨(set ++ [a]), (a + 1), ?_⟩
                    refine ⟨?_, ?_, rfl, rfl, rfl, rfl, ?_, rfl, rfl, rfl, rfl, rfl, rfl⟩
                    · refine ⟨?_, ?_, ?_, ?_, ?_, ?_, ?_⟩
                      · first | assumption | exact (ls_test b6).1
                      · first | assumption | exact (ls_test b6).2
                      · first | assumption | (rw [ls_no b12]; rfl) | (revert b12; cases (lsO (dlS code) (dlC code) (dlR code)).isSome <;> simp)
                      · first
                        | assumption
                        | (have h9 : (dlC code).length ≠ 0 := by
                             intro e
                             rw [e] at b12
                             revert b12
                             cases (lsO (dlS code) (dlC code) (dlR code)).isSome <;> simp
                           omega)
                      · first | omega | rfl | (intro hg; simp only [nrmT] at hg; omega) | (intro g1 g2; simp [g1, g2]; done) | (intro g1; simp at g1 ⊢; simp [g1]; done) | (simp only [nrmT] at *; omega) | (simp at * <;> omega) | (simp_all <;> omega) | (simp_all; done)
                      · first | omega | rfl | (intro hg; simp only [nrmT] at hg; omega) | (intro g1 g2; simp [g1, g2]; done) | (intro g1; simp at g1 ⊢; simp [g1]; done) | (simp only [nrmT] at *; omega) | (simp at * <;> omega) | (simp_all <;> omega) | (simp_all; done)
                      · rw [show (a + 1).toNat = a.toNat + 1 by omega, tkS_succ, ← h3, show ((a.toNat : Nat) : Int) = a by omega, if_pos b12]
                    · first | (show _ < _; omega) | (simp only [l_FnLineSites_mJ0]; omega) | (simp only [l_FnLineSites_mJ0] at *; simp at *; omega)
                    · first | omega | rfl | (intro hg; simp only [nrmT] at hg; omega) | (intro g1 g2; simp [g1, g2]; done) | (intro g1; simp at g1 ⊢; simp [g1]; done) | (simp only [nrmT] at *; omega) | (simp at * <;> omega) | (simp_all <;> omega) | (simp_all; done)
                · intro b13
                  try simp only [nrmT] at b13
                  refine ⟨?_, ?_⟩
                  · have gl := goodL_facts h0
                    omega
                  · refine ⟨set, (a + 1), ?_⟩
                    refine ⟨?_, ?_, rfl, rfl, rfl, rfl, rfl, rfl, rfl, rfl, rfl, rfl, rfl⟩
                    · refine ⟨?_, ?_, ?_, ?_, ?_, ?_, ?_⟩
                      · first | assumption | exact (ls_test b6).1
                      · first | assumption | exact (ls_test b6).2
                      · first | assumption | (rw [ls_no b13]; rfl) | (revert b13; cases (lsO (dlS code) (dlC code) (dlR code)).isSome <;> simp)
                      · first
                        | assumption
                        | (have h9 : (dlC code).length ≠ 0 := by
                             intro e
                             rw [e] at b13
                             revert b13
                             cases (lsO (dlS code) (dlC code) (dlR code)).isSome <;> simp
                           omega)
                      · first | omega | rfl | (intro hg; simp only [nrmT] at hg; omega) | (intro g1 g2; simp [g1, g2]; done) | (intro g1; simp at g1 ⊢; simp [g1]; done) | (simp only [nrmT] at *; omega) | (simp at * <;> omega) | (simp_all <;> omega) | (simp_all; done)
                      · first | omega | rfl | (intro hg; simp only [nrmT] at hg; omega) | (intro g1 g2; simp [g1, g2]; done) | (intro g1; simp at g1 ⊢; simp [g1]; done) | (simp only [nrmT] at *; omega) | (simp at * <;> omega) | (simp_all <;> omega) | (simp_all; done)
                      · rw [show (a + 1).toNat = a.toNat + 1 by omega, tkS_succ, ← h3, show ((a.toNat : Nat) : Int) = a by omega, if_neg (by rw [b13]; decide), List.append_nil]
                    · first | (show _ < _; omega) | (simp only [l_FnLineSites_mJ0]; omega) | (simp only [l_FnLineSites_mJ0] at *; simp at *; omega)
              · intro b14
                try simp only [nrmT] at b14
                refine ⟨rfl, i_ReachOf_pc (lfO (dlS code) (dlC code)) (lfD (dlS code) (dlC code)) set, id, id, rfl, id, fun _ => rfl, id, id, id, id, rfl, id, fun _ => rfl, id, id, id, id, rfl, id, fun _ => rfl, ?_⟩
                · obtain ⟨q1, q2, q3, q4, q5⟩ := line_facts h0 hr ho hc
                  have e : set = tkS (dlS code) (dlC code) (dlR code) (dlS code).length := by rw [h3, show a.toNat = (dlS code).length by omega]
                  rw [e, q1, if_pos rfl, decide_eq_true q2, q5, q4]; simp
theorem l_FnLineSites_pc (code : List Nat) (hb : ∀ x9 ∈ code, x9 < 256) : PC Try.prog 6 [.sl (.bytes code)] (.one (.d (.bool true))) :=
  pc_wf @Try.call6 fun hw => pc_by (by kernel_rfl) Try.func6 @Try.call6 (by kernel_rfl) l_FnLineSites_C (l_FnLineSites_A code) (by kernel_rfl) (l_FnLineSites_vc code hb hw.1) (by kernel_rfl)
end Go.Proofs.Ytomnmacmlhkceaa
