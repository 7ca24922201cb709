/- Contracts of the functions that the law reaches. -/
import Derived.Test.YtomnmacmlhkceaaGreatKCoverings2
import Derived.KernelRfl
set_option linter.unusedVariables false
set_option linter.unusedSimpArgs false
namespace Go.Proofs.YtomnmacmlhkceaaGreat
open Go

set_option maxRecDepth 100000 in
theorem l_FnCoverings_vc (code : List Nat) (hb : ∀ x9 ∈ code, x9 < 256) (w_code : (code.length : Int) ≤ 9223372036854775807) : l_FnCoverings_P code := by
  unfold l_FnCoverings_P l_FnCoverings_e8 l_FnCoverings_e4 l_FnCoverings_e3 l_FnCoverings_e7 l_FnCoverings_e1 l_FnCoverings_e5 l_FnCoverings_e2 l_FnCoverings_e6
  refine ⟨JcO code, ?_, ?_⟩
  ·intro b1
   try simp only [nrmT] at b1
   exact rfl
  intro b2
  try simp only [nrmT] at b2
  refine ⟨?_, ?_⟩
  ·refine ⟨?_, ?_⟩
   ·refine J53 code ?_
    ·exact hb
   ·intro Or3 Dsr3 rrr3 hQ9
    refine ⟨rfl, ?_⟩
    ·refine ⟨rrr3, Or3, Dsr3, ?_⟩
     refine ⟨?_, rfl, rfl, rfl, rfl⟩
     ·trivial
  intro rr Oz Dz hJ
  refine ⟨J68 Oz Dz rr, J6j Oz Dz rr, ?_, ?_⟩
  ·refine ⟨?_, rfl, ?_, ?_⟩
   ·refine J9k code 1 ?_ ?_
    ·omega
    ·omega
   ·refine J50 (J0C code 1) ?_
    ·exact Jbg hb (by omega)
   ·intro Or6 Dsr6 ssr6 rrr6 hQ9
    refine ⟨rfl, ?_⟩
    ·refine ⟨ssr6, rrr6, Or6, Dsr6, ?_⟩
     refine ⟨?_, rfl, rfl, rfl, rfl, rfl, rfl, rfl, rfl, rfl, rfl, rfl, rfl, rfl⟩
     ·trivial
  intro st sr Og Dg hJ
  refine ⟨J5V Og Dg st sr, J5T Og Dg st sr, JaC Og Dg st, Jac Og Dg st, ?_, ?_⟩
  ·refine ⟨?_, rfl, ?_, ?_⟩
   ·refine J9k code 2 ?_ ?_
    ·omega
    ·omega
   ·refine J5h (J0C code 2) ?_
    ·exact Jbg hb (by omega)
   ·intro Or11 Dsr11 kkr11 zzr11 hQ9
    refine ⟨rfl, ?_⟩
    ·refine ⟨kkr11, zzr11, Or11, Dsr11, ?_⟩
     refine ⟨?_, rfl, rfl, rfl, rfl, rfl, rfl, rfl, rfl, rfl, rfl, rfl, rfl, rfl, rfl, rfl, rfl, rfl, rfl, rfl, rfl, rfl, rfl, rfl, rfl, rfl, rfl⟩
     ·trivial
  intro hk hz Oh Dh hJ
  refine ⟨J7e Oh Dh hk hz, J7n Oh Dh hk hz, id, id, fun _ => rfl, fun _ => J4l (J4 Oz Dz rr) (J4 Oz Dz rr), id, rfl, fun _ => rfl, ?_, id, id, rfl, fun _ => rfl, ?_, id, id, fun _ => rfl, fun _ => J4l (Jy Og Dg st sr) (Jy Og Dg st sr), id, rfl, fun _ => rfl, ?_, id, id, rfl, fun _ => rfl, ?_, id, id, fun _ => rfl, fun _ => J4l (Ja Og Dg st) (Ja Og Dg st), id, rfl, fun _ => rfl, ?_, id, id, rfl, fun _ => rfl, ?_, id, id, rfl, fun _ => rfl, ?_, id, id, fun _ => rfl, fun _ => J4l (J0e Oh Dh hk hz) (J0e Oh Dh hk hz), id, rfl, fun _ => rfl, ?_, ?_, ?_⟩
  ·(simp_all; done)
  ·(simp_all; done)
  ·(simp_all; done)
  ·(simp_all; done)
  ·(simp_all; done)
  ·(simp_all; done)
  ·(simp_all; done)
  ·(simp_all; done)
  ·intro b3
   exfalso; simp_all
  intro b4
  refine ⟨?_, ?_⟩
  ·refine ⟨?_, ?_⟩
   ·intro b5
    try simp only [Bool.not_eq_true', Bool.not_eq_false', Bool.not_not] at b5
    refine ⟨J62 Og Dg st, rfl, JbX (Ja Og Dg st), id, id, id, id, id, id, id, id, id, id, id, ?_, fun _ _ => rfl, rfl, fun _ => rfl, ?_, ?_, ?_⟩
    ·(simp_all; done)
    ·(simp_all; done)
    ·intro b6
     exfalso
     have hm := Jd7 b5
     cases hw : ((J0 Og Dg && J2 st 0 ((Og.length : Int) - 1) && decide (0 < st.length)) && !(decide (sr < 0))) with
     | false => rw [hw, if_pos b5, hm] at b6; simp at b6
     | true =>
       have hf := JcG hw
       rw [hw, if_pos b5, hm, hf] at b6
       simp at b6
    intro b7
    refine ⟨?_, rfl, rfl, rfl, rfl, rfl, rfl, rfl, rfl, rfl, rfl, rfl⟩
    ·trivial
   ·intro b8
    try simp only [Bool.not_eq_true', Bool.not_eq_false', Bool.not_not] at b8
    refine ⟨?_, rfl, rfl, rfl, rfl, rfl, rfl, rfl, rfl, rfl, rfl, rfl⟩
    ·trivial
  intro  hJ
  refine ⟨?_, ?_⟩
  ·refine ⟨?_, ?_⟩
   ·intro b9
    try simp only [nrmT] at b9
    refine ⟨J4z Oh Dh hk, id, id, id, id, id, ?_, fun _ _ => rfl, rfl, fun _ => rfl, ?_, ?_, ?_⟩
    ·(simp only [nrmT] at *; omega)
    ·(simp_all; done)
    ·intro b10
     exfalso
     obtain ⟨m1, m2, m3⟩ := Jce b9
     simp at b10
     rcases b10 with h | ⟨h1, h2⟩
     · omega
     exact h2 (m3 h1)
    intro b11
    refine ⟨?_, rfl, rfl, rfl, rfl, rfl⟩
    ·trivial
   ·intro b12
    try simp only [nrmT] at b12
    refine ⟨?_, rfl, rfl, rfl, rfl, rfl⟩
    ·trivial
  intro  hJ
  refine ⟨?_, ?_⟩
  ·intro b13
   try simp only [nrmT] at b13
   exact rfl
  intro b14
  try simp only [nrmT] at b14
  refine ⟨J62 Oz Dz (J4 Oz Dz rr), ?_, ?_⟩
  ·intro b15
   try simp only [Bool.not_eq_true', Bool.not_eq_false', Bool.not_not] at b15
   exfalso
   obtain ⟨m1, m2, m3, m4⟩ := J7H b14
   rw [if_pos m1] at b15
   (simp at b15; omega)
  intro b16
  try simp only [Bool.not_eq_true', Bool.not_eq_false', Bool.not_not] at b16
  refine ⟨?_, ?_⟩
  ·intro b17
   try simp only [nrmT] at b17
   refine ⟨?_, J4z Oz Dz ((((J4 Oz Dz rr).length) : Int) - 1), id, id, rfl, id, fun _ => rfl, ?_⟩
   ·have h7 := (J7H b14).2.2.1
    omega
   obtain ⟨m5, m6⟩ := (J7H b14).2.2.2 (by first | omega | simpa using b17)
   rw [m5]
   simp
   omega
  intro b18
  try simp only [nrmT] at b18
  exact rfl
theorem l_FnCoverings_pc (code : List Nat) (hb : ∀ x9 ∈ code, x9 < 256) : PC Tryz.prog 6 [.sl (.bytes code)] (.one (.d (.bool true))) :=
  pc_wf @Tryz.call6 fun hw => pc_by (by kernel_rfl) Tryz.func6 @Tryz.call6 (by kernel_rfl) l_FnCoverings_C (l_FnCoverings_A code) (by kernel_rfl) (l_FnCoverings_vc code hb hw.1) (by kernel_rfl)
end Go.Proofs.YtomnmacmlhkceaaGreat
