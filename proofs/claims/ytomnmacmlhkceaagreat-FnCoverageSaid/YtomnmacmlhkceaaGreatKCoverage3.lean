/- Contracts of the functions that the law reaches. -/
import Derived.Test.YtomnmacmlhkceaaGreatKCoverage2
import Derived.KernelRfl
set_option linter.unusedVariables false
set_option linter.unusedSimpArgs false
namespace Go.Proofs.YtomnmacmlhkceaaGreat
open Go

def J3s (code : List Nat) : Prop :=
  (PKE Tryz.prog 133 76 (.sl (.bytes code)) [.int .i64 0, .int .u64 0] [] (J2X code J5a)) ∧ (∀ Or2 : ZI, ∀ Dr2 : ZR, ∀ clr2 : Cur, J36 code J5a Or2 Dr2 clr2 → ((true = true) ∧ ((10 : Nat) = 10) ∧ (PK Tryz.prog 155 76 (.sl (.bytes code)) [.int .i64 clr2.pos, .int .u64 clr2.seed] [.int .i64 ((J0 code clr2 (([0, 1, 2, 3, 5, 8, 12, 99, 100, (-1)]).length : Int)).pos), .int .u64 ((J0 code clr2 (([0, 1, 2, 3, 5, 8, 12, 99, 100, (-1)]).length : Int)).seed)] [.sl (.ints ([0, 1, 2, 3, 5, 8, 12, 99, 100, (-1)]))] (.one (.d (.int .i64 (([0, 1, 2, 3, 5, 8, 12, 99, 100, (-1)]).getD (J4 code clr2 (([0, 1, 2, 3, 5, 8, 12, 99, 100, (-1)]).length : Int)).toNat 0))))) ∧ (∃ O' : ZI, ∃ Ds' : ZR, ∃ rr' : Int, (J1F code O' Ds' rr') ∧ ((.agg [.sl (.ints Or2), .sl (.rows Dr2)] : D) = .agg [.sl (.ints O'), .sl (.rows Ds')]) ∧ ((([0, 1, 2, 3, 5, 8, 12, 99, 100, (-1)]).getD (J4 code clr2 (([0, 1, 2, 3, 5, 8, 12, 99, 100, (-1)]).length : Int)).toNat 0) = rr'))))
theorem J5g (code : List Nat) (hb : ∀ x9 ∈ code, x9 < 256) (w_code : (code.length : Int) ≤ 9223372036854775807) : J3s code := by
  unfold J3s
  refine ⟨?_, ?_⟩
  ·refine J6J code J5a ?_ ?_
   ·exact hb
   ·exact J5 J9b (by omega)
  intro Or2 Dr2 clr2 hQ9
  obtain ⟨f1r2, f2r2, f3r2⟩ := hQ9
  refine ⟨rfl, rfl, ?_, ?_⟩
  ·refine Jg code clr2 ([0, 1, 2, 3, 5, 8, 12, 99, 100, (-1)]) ?_ ?_ ?_
   ·exact hb
   ·exact J5 (by assumption) (by omega)
   ·simp
  refine ⟨Or2, Dr2, (([0, 1, 2, 3, 5, 8, 12, 99, 100, (-1)]).getD (J4 code clr2 (([0, 1, 2, 3, 5, 8, 12, 99, 100, (-1)]).length : Int)).toNat 0), ?_⟩
  refine ⟨?_, rfl, rfl⟩
  ·trivial
theorem J5d (code : List Nat) (hb : ∀ x9 ∈ code, x9 < 256) : PE Tryz.prog 86 [.sl (.bytes code)] (J1z code) :=
  pe_wf @Tryz.call86 fun hw => pe_by (by kernel_rfl) Tryz.func86 @Tryz.call86 (by kernel_rfl) J5C (J5E code) (by kernel_rfl) (J5g code hb hw.1) (by kernel_rfl)
theorem Jaq (Sets : ZR) : ∀ n out, (∀ c ∈ out, 0 ≤ c ∧ c < (Sets.length : Int)) → ∀ c ∈ JT Sets n out, 0 ≤ c ∧ c < (Sets.length : Int)
  | 0, out, h => h
  | n + 1, out, h => by
    have gi := JL Sets out Sets.length
    unfold JT
    by_cases e : (Jo Sets out Sets.length).1 < 0
    · rw [if_pos e]; exact h
    rw [if_neg e]
    refine Jaq Sets n _ fun c hc => ?_
    rcases List.mem_append.1 hc with hc | hc
    · exact h c hc
    rw [List.mem_singleton.1 hc]; omega
theorem Jaj {Size : Int} {Sets : ZR} {Costs c : ZI} (h : (J1 Size Sets Costs && J3 c 0 ((Sets.length : Int) - 1)) = true) : ((J9 Size Sets Costs c).length : Int) = cvI Sets c := by
  have h2 := (Bool.and_eq_true _ _ ▸ h : _ ∧ _)
  have hm := J27 h2.2
  unfold J9 cvI
  rw [if_pos h, JaU h2.1 h2.2]
theorem J0B {Size : Int} {Sets : ZR} {Costs : ZI} {k : Int} (h : (J1 Size Sets Costs && inB k 0 8) = true) :
    (J1 Size Sets Costs && J3 (mcL Size Sets Costs k) 0 ((Sets.length : Int) - 1)) = true ∧ (J1 Size Sets Costs && J3 (srt (gcL Size Sets Costs k)) 0 ((Sets.length : Int) - 1)) = true ∧
    ((mcL Size Sets Costs k).length : Int) ≤ k ∧ ((gcL Size Sets Costs k).length : Int) ≤ k ∧ (0 ≤ k ∧ k ≤ 8) ∧
    (J9 Size Sets Costs (srt (gcL Size Sets Costs k))).length ≤ (J9 Size Sets Costs (mcL Size Sets Costs k)).length ∧
    (k ^ k.toNat - (k - 1) ^ k.toNat) * ((J9 Size Sets Costs (mcL Size Sets Costs k)).length : Int) ≤ k ^ k.toNat * ((J9 Size Sets Costs (srt (gcL Size Sets Costs k))).length : Int) := by
  obtain ⟨hg, hk⟩ := (Bool.and_eq_true _ _ ▸ h : _ ∧ _)
  have hk2 := J0T hk
  have gf := Jd hg
  have eM : mcL Size Sets Costs k = mcS Sets k := by unfold mcL; rw [if_pos h]
  have eG : gcL Size Sets Costs k = JT Sets k.toNat [] := by unfold gcL; rw [if_pos h]
  have hG := Jaq Sets k.toNat [] (fun c hc => (by cases hc))
  rw [← eG] at hG
  have hGl := J9r Sets k.toNat []
  rw [← eG, List.length_nil] at hGl
  have hG1 : ∀ y ∈ gcL Size Sets Costs k, 0 ≤ y ∧ y ≤ 1000 := fun y hy => by have := hG y hy; omega
  have hasc := JdH (list := gcL Size Sets Costs k) fun y hy => (hG y hy).1
  have hmem := fun x => JdI (list := gcL Size Sets Costs k) hG1 x
  have hrS : J3 (srt (gcL Size Sets Costs k)) 0 ((Sets.length : Int) - 1) = true := J62 hasc fun y hy => by have := hG y ((hmem y).1 hy); omega
  have hSl : (srt (gcL Size Sets Costs k)).length ≤ (gcL Size Sets Costs k).length := List.Nodup.length_le_of_subset (J40 hasc) fun y hy => (hmem y).1 hy
  have hMm := JcC (v := J0g Sets) (JbT (n := Sets.length) (p := fun s9 => decide ((s9.length : Int) ≤ k)) (decide_eq_true hk2.1))
  obtain ⟨m1, m2⟩ := List.mem_filter.1 hMm
  have m2 := of_decide_eq_true m2
  have hrM : J3 (mcL Size Sets Costs k) 0 ((Sets.length : Int) - 1) = true := by rw [eM]; exact J4m m1
  have t1 : (J1 Size Sets Costs && J3 (mcL Size Sets Costs k) 0 ((Sets.length : Int) - 1)) = true := by rw [hg, hrM]; rfl
  have t2 : (J1 Size Sets Costs && J3 (srt (gcL Size Sets Costs k)) 0 ((Sets.length : Int) - 1)) = true := by rw [hg, hrS]; rfl
  have hle := Jcy (v := J0g Sets) (l := (chs Sets.length).filter (fun s9 => decide ((s9.length : Int) ≤ k))) (List.mem_filter.2 ⟨Jci hrS, decide_eq_true (by omega : ((srt (gcL Size Sets Costs k)).length : Int) ≤ k)⟩)
  have e1 := Jaj t1
  have e2 := Jaj t2
  have hle2 : cvI Sets (srt (gcL Size Sets Costs k)) ≤ cvI Sets (mcL Size Sets Costs k) := by
    rw [eM]
    unfold J0g at hle
    unfold cvI mcS J0g
    omega
  have e3 : cvI Sets (srt (gcL Size Sets Costs k)) = cvI Sets (gcL Size Sets Costs k) := by
    unfold cvI
    rw [asc_ext (J1i _) (J1i _) fun x => ?_]
    rw [J2Q, J2Q]
    exact ⟨fun ⟨c, hc, hx⟩ => ⟨c, (hmem c).1 hc, hx⟩, fun ⟨c, hc, hx⟩ => ⟨c, (hmem c).2 hc, hx⟩⟩
  refine ⟨t1, t2, by rw [eM]; exact m2, by omega, hk2, by omega, ?_⟩
  rw [e1, e2, e3]
  by_cases k0 : k = 0
  · subst k0
    show (1 - 1) * _ ≤ _
    have : 0 ≤ cvI Sets (gcL Size Sets Costs 0) := Int.natCast_nonneg _
    simp
    exact this
  have hMr := J27 hrM
  have n1 : 0 ≤ (k - 1) ^ k.toNat := J14 (by omega) _
  have n2 : 0 ≤ k ^ k.toNat := J14 (by omega) _
  have n3 : 0 ≤ cvI Sets (mcL Size Sets Costs k) := Int.natCast_nonneg _
  have hs := Jb9 hg (S := mcL Size Sets Costs k) (k := k) (by omega) (fun c hc => by have := hMr c hc; omega) (by rw [eM]; exact m2) k.toNat []
  rw [← eG] at hs
  have z : cvI Sets [] = 0 := rfl
  rw [z, Int.sub_zero] at hs
  generalize cvI Sets (gcL Size Sets Costs k) = F at *
  generalize cvI Sets (mcL Size Sets Costs k) = O at *
  generalize k ^ k.toNat = W at *
  generalize (k - 1) ^ k.toNat = Q at *
  rw [Int.sub_mul]
  have hq := Int.mul_nonneg n1 n3
  rcases hs with hs | hs
  · have := Int.mul_le_mul_of_nonneg_left hs n2
    omega
  rw [Int.mul_sub] at hs
  omega
theorem J1x {a : Int} (h0 : 0 ≤ a) (h8 : a ≤ 8) : ∀ n : Nat, n ≤ 8 → 0 ≤ a ^ n ∧ a ^ n ≤ 16777216 := fun n hn => by
  refine ⟨J14 h0 n, ?_⟩
  have key : ∀ m : Nat, a ^ m ≤ 8 ^ m := fun m => by
    induction m with
    | zero => simp
    | succ m ih =>
      rw [J1h, J1h]
      exact Int.le_trans (Int.mul_le_mul_of_nonneg_right ih h0) (Int.mul_le_mul_of_nonneg_left h8 (J14 (by omega) m))
  have h1 := key n
  have h2 : (8 : Int) ^ n ≤ 8 ^ 8 := by
    have : ∀ d : Nat, (8 : Int) ^ n ≤ 8 ^ (n + d) := fun d => by
      induction d with
      | zero => exact Int.le_refl _
      | succ d ih =>
        rw [← Nat.add_assoc, J1h]
        have := J14 (a := 8) (by omega) (n + d)
        omega
    have := this (8 - n)
    rwa [show n + (8 - n) = 8 by omega] at this
  have h3 : (8 : Int) ^ 8 = 16777216 := by decide
  omega
abbrev l_FnCoverage_JJ0 (code : List Nat) (kk : Int) (Z : Int) (S : ZR) (K : ZI) (whole : Int) (rest : Int) (i : Int) : Prop := (0 ≤ i ∧ i ≤ kk) ∧ (whole = kk ^ i.toNat) ∧ (rest = (kk - 1) ^ i.toNat)
abbrev l_FnCoverage_mJ0 (code : List Nat) (kk : Int) (Z : Int) (S : ZR) (K : ZI) (whole : Int) (rest : Int) (i : Int) : Nat := (kk - i).toNat
abbrev l_FnCoverage_JJ1 (code : List Nat) (kk : Int) (Z : Int) (S : ZR) (K : ZI) (rr : Int) (Oz : ZI) (Dz : ZR) (number : Int) : Prop := (1 ≤ number ∧ number ≤ ((2 ^ Oz.length : Nat) : Int))
abbrev l_FnCoverage_mJ1 (code : List Nat) (kk : Int) (Z : Int) (S : ZR) (K : ZI) (rr : Int) (Oz : ZI) (Dz : ZR) (number : Int) : Nat := (((2 ^ Oz.length : Nat) : Int) - number).toNat
abbrev l_FnCoverage_JJ2 (code : List Nat) (kk : Int) (Z : Int) (S : ZR) (K : ZI) (rr : Int) (Oz : ZI) (Dz : ZR) (number : Int) (set : ZI) (a : Int) : Prop := (0 ≤ a ∧ a ≤ (Oz.length : Int)) ∧ (set = members (fun k9 => number.toNat.testBit k9) a.toNat)
abbrev l_FnCoverage_mJ2 (code : List Nat) (kk : Int) (Z : Int) (S : ZR) (K : ZI) (rr : Int) (Oz : ZI) (Dz : ZR) (number : Int) (set : ZI) (a : Int) : Nat := (Oz.length - a).toNat
abbrev l_FnCoverage_JR3 (code : List Nat) (kk : Int) (Z : Int) (S : ZR) (K : ZI) : Prop := True
abbrev l_FnCoverage_JR1025 (code : List Nat) (kk : Int) (Z : Int) (S : ZR) (K : ZI) : Prop := True
abbrev l_FnCoverage_JR25 (code : List Nat) (kk : Int) (Z : Int) (S : ZR) (K : ZI) (rr : Int) (Oz : ZI) (Dz : ZR) : Prop := True
def l_FnCoverage_C (f : FuncId) (ds : List D) : Orc := bif Nat.beq f 28 then Jcm ds else bif Nat.beq f 81 then J72 ds else bif Nat.beq f 82 then J6W ds else bif Nat.beq f 32 then J4L ds else bif Nat.beq f 83 then J54 ds else bif Nat.beq f 84 then J5m ds else bif Nat.beq f 85 then J7Z ds else bif Nat.beq f 54 then J9W ds else bif Nat.beq f 87 then J6Q ds else bif Nat.beq f 88 then J6M ds else bif Nat.beq f 89 then J9L ds else bif Nat.beq f 24 then Ja1 ds else bif Nat.beq f 90 then Ja3 ds else .no
def l_FnCoverage_A (code : List Nat) : Ann := .two (.none) (.two (.none) (.cut (.exr (.ex [] 1 (J1H code) (fun g => (fun (Zr3 : Int) (Sr3 : ZR) (Kr3 : ZI) (kkr3 : Int) => .ms [] []) (g.1) (g.2.1) (g.2.2.1) (g.2.2.2)))) (cut4 (fun (kk : Int) (Z : Int) (S : ZR) (K : ZI) => l_FnCoverage_JR3 code kk Z S K) (fun (kk : Int) (Z : Int) (S : ZR) (K : ZI) => [(0, .d false (.sl (.bytes code))), (3, .ptr 3 0), (4, .d true (.int .i64 kk))]) (fun (kk : Int) (Z : Int) (S : ZR) (K : ZI) => [(3, .box 64 [.d true (.int .i64 Z), .d true (.sl (.rows S)), .d true (.sl (.ints K))])])) (fun g => (fun (kk : Int) (Z : Int) (S : ZR) (K : ZI) => .two (.none) (.two (.none) (.two (.none) (.two (.none) (.cut (.two (.none) (.two (.two (.none) (.two (.none) (.two (.none) (.two (.none) (.two (.two (.none) (.loop (cut3 (fun (whole : Int) (rest : Int) (i : Int) => l_FnCoverage_JJ0 code kk Z S K whole rest i) (fun (whole : Int) (rest : Int) (i : Int) => [(0, .d false (.sl (.bytes code))), (4, .d true (.int .i64 kk)), (13, .own 91 ((J9 Z S K (mcL Z S K kk)).length)), (15, .own 98 ((J9 Z S K (srt (gcL Z S K kk))).length)), (17, .d true (.int .i64 whole)), (18, .d true (.int .i64 rest)), (19, .d true (.int .i64 i))]) (fun (whole : Int) (rest : Int) (i : Int) => [(91, .arr true 3 (.ints (J9 Z S K (mcL Z S K kk)))), (98, .arr true 3 (.ints (J9 Z S K (srt (gcL Z S K kk)))))])) (fun g => l_FnCoverage_mJ0 code kk Z S K g.1 g.2.1 g.2.2) (fun _ => .none))) (.none)))))) (.none))) (cut0 (l_FnCoverage_JR1025 code kk Z S K ) ([(0, .d false (.sl (.bytes code)))]) ([])) (fun _ => .cut (.exr (.ex [] 1 (J1z code) (fun g => (fun (Or25 : ZI) (Dsr25 : ZR) (rrr25 : Int) => .ms [] []) (g.1) (g.2.1) (g.2.2)))) (cut3 (fun (rr : Int) (Oz : ZI) (Dz : ZR) => l_FnCoverage_JR25 code kk Z S K rr Oz Dz) (fun (rr : Int) (Oz : ZI) (Dz : ZR) => [(20, .ptr 20 0), (21, .d true (.int .i64 rr))]) (fun (rr : Int) (Oz : ZI) (Dz : ZR) => [(20, .box 27 [.d true (.sl (.ints Oz)), .d true (.sl (.rows Dz))])])) (fun g => (fun (rr : Int) (Oz : ZI) (Dz : ZR) => .two (.none) (.two (.none) (.two (.none) (.two (.two (.none) (.loop (cut1 (fun (number : Int) => l_FnCoverage_JJ1 code kk Z S K rr Oz Dz number) (fun (number : Int) => [(20, .ptr 20 0), (21, .d true (.int .i64 rr)), (22, .ptr 22 0), (26, .d true (.int .i64 number))]) (fun (number : Int) => [(20, .box 27 [.d true (.sl (.ints Oz)), .d true (.sl (.rows Dz))]), (22, .box 64 [.d true (.int .i64 (rsZ Oz Dz rr)), .d true (.sl (.rows (rsS Oz Dz rr))), .d true (.sl (.ints (rsK Oz Dz rr)))])])) (fun g => l_FnCoverage_mJ1 code kk Z S K rr Oz Dz g) (fun g => (fun (number : Int) => .two (.none) (.two (.two (.none) (.two (.two (.none) (.loop (cut2 (fun (set : ZI) (a : Int) => l_FnCoverage_JJ2 code kk Z S K rr Oz Dz number set a) (fun (set : ZI) (a : Int) => [(20, .ptr 20 0), (21, .d true (.int .i64 rr)), (22, .ptr 22 0), (26, .d true (.int .i64 number)), (27, .own 1000200 set.length), (28, .d true (.int .i64 a))]) (fun (set : ZI) (a : Int) => [(1000200, .arr true 3 (.ints set)), (20, .box 27 [.d true (.sl (.ints Oz)), .d true (.sl (.rows Dz))]), (22, .box 64 [.d true (.int .i64 (rsZ Oz Dz rr)), .d true (.sl (.rows (rsS Oz Dz rr))), .d true (.sl (.ints (rsK Oz Dz rr)))])])) (fun g => l_FnCoverage_mJ2 code kk Z S K rr Oz Dz number g.1 g.2) (fun _ => .none))) (.none))) (.none))) g))) (.none))))) (g.1) (g.2.1) (g.2.2)))))))) (g.1) (g.2.1) (g.2.2.1) (g.2.2.2))))
def l_FnCoverage_e1 (kk : Int) (Z : Int) (S : ZR) (K : ZI) : Bool := (cond (!(J1 Z S K && J3 (mcL Z S K kk) 0 ((S.length : Int) - 1))) true (!(J1 Z S K && J3 (srt (gcL Z S K kk)) 0 ((S.length : Int) - 1))))
def l_FnCoverage_e2 (rr : Int) (Oz : ZI) (Dz : ZR) (set : ZI) : Bool := (cond (!(J2 Oz Dz && J3 set 0 ((Oz.length : Int) - 1) && decide (0 < set.length))) true (!(J1 (rsZ Oz Dz rr) (rsS Oz Dz rr) (rsK Oz Dz rr) && J3 set 0 (((rsS Oz Dz rr).length : Int) - 1))))
def l_FnCoverage_e3 (kk : Int) (Z : Int) (S : ZR) (K : ZI) : Bool := (cond (l_FnCoverage_e1 kk Z S K) true (decide ((((mcL Z S K kk).length) : Int) > kk)))
def l_FnCoverage_e4 (kk : Int) (Z : Int) (S : ZR) (K : ZI) : Bool := (cond ((J1 Z S K && inB kk 0 8) != (J1 Z S K && inB kk 0 8)) true ((J1 Z S K && inB kk 0 8) != (J1 Z S K && inB kk 0 8)))
def l_FnCoverage_e5 (kk : Int) (Z : Int) (S : ZR) (K : ZI) : Bool := (cond (l_FnCoverage_e3 kk Z S K) true (decide ((((gcL Z S K kk).length) : Int) > kk)))
def l_FnCoverage_e6 (rr : Int) (Oz : ZI) (Dz : ZR) (set : ZI) : Bool := (cond (l_FnCoverage_e2 rr Oz Dz set) true (((J1 (rsZ Oz Dz rr) (rsS Oz Dz rr) (rsK Oz Dz rr) && J3 set 0 (((rsS Oz Dz rr).length : Int) - 1)) && J0Y (rsZ Oz Dz rr) (rsS Oz Dz rr) set) != (decide ((if (J2 Oz Dz && J3 set 0 ((Oz.length : Int) - 1) && decide (0 < set.length)) = true then J18 Dz set else 0) ≤ rr))))
def l_FnCoverage_e7 (rr : Int) (Oz : ZI) (Dz : ZR) : Bool := (cond ((rsB Oz Dz rr) != (rsB Oz Dz rr)) true (!(((rsZ Oz Dz rr) == (rsZ Oz Dz rr)) && ((rsS Oz Dz rr) == (rsS Oz Dz rr)) && ((rsK Oz Dz rr) == (rsK Oz Dz rr)))))
set_option maxRecDepth 100000 in
def l_FnCoverage_P (code : List Nat) : Prop :=
  (PC Tryz.prog 28 [.sl (.bytes code)] (.one (.d (.bool (decide ((code.length : Int) > 65536)))))) ∧ (((decide ((code.length : Int) > 65536)) = true → ((true = true))) ∧ ((decide ((code.length : Int) > 65536)) = false → (((PE Tryz.prog 80 [.sl (.bytes code)] (J1H code)) ∧ (∀ Zr3 : Int, ∀ Sr3 : ZR, ∀ Kr3 : ZI, ∀ kkr3 : Int, J1E code Zr3 Sr3 Kr3 kkr3 → ((true = true) ∧ (∃ kk' : Int, ∃ Z' : Int, ∃ S' : ZR, ∃ K' : ZI, (l_FnCoverage_JR3 code kk' Z' S' K') ∧ (code = code) ∧ (kkr3 = kk') ∧ (Zr3 = Z') ∧ (Sr3 = S') ∧ (Kr3 = K'))))) ∧ (∀ kk : Int, ∀ Z : Int, ∀ S : ZR, ∀ K : ZI, (l_FnCoverage_JR3 code kk Z S K) → (PC Tryz.prog 81 [.agg [.int .i64 Z, .sl (.rows S), .sl (.ints K)], .int .i64 kk] (.tup [.d (.sl (.ints (mcL Z S K kk))), .d (.bool (J1 Z S K && inB kk 0 8))])) ∧ (PC Tryz.prog 82 [.agg [.int .i64 Z, .sl (.rows S), .sl (.ints K)], .int .i64 kk] (.tup [.d (.sl (.ints (mcL Z S K kk))), .d (.bool (J1 Z S K && inB kk 0 8))])) ∧ ((!((J1 Z S K && inB kk 0 8) != (J1 Z S K && inB kk 0 8))) = true → (!((J1 Z S K && inB kk 0 8) != (J1 Z S K && inB kk 0 8))) = true) ∧ ((!((J1 Z S K && inB kk 0 8) != (J1 Z S K && inB kk 0 8))) = true → (!((J1 Z S K && inB kk 0 8) != (J1 Z S K && inB kk 0 8))) = true) ∧ ((!((J1 Z S K && inB kk 0 8) != (J1 Z S K && inB kk 0 8))) = true → PC Tryz.prog 32 [.sl (.ints (mcL Z S K kk)), .sl (.ints (mcL Z S K kk))] (.one (.d (.bool ((mcL Z S K kk) == (mcL Z S K kk)))))) ∧ ((!((J1 Z S K && inB kk 0 8) != (J1 Z S K && inB kk 0 8))) = true → (!((J1 Z S K && inB kk 0 8) != (J1 Z S K && inB kk 0 8))) = true) ∧ (true = true) ∧ ((((J1 Z S K && inB kk 0 8) != (J1 Z S K && inB kk 0 8)) = true → true = true)) ∧ ((((J1 Z S K && inB kk 0 8) != (J1 Z S K && inB kk 0 8)) = false → (!((J1 Z S K && inB kk 0 8) != (J1 Z S K && inB kk 0 8))) = true)) ∧ (((cond ((J1 Z S K && inB kk 0 8) != (J1 Z S K && inB kk 0 8)) true (!((mcL Z S K kk) == (mcL Z S K kk)))) = true → ((false = true))) ∧ ((cond ((J1 Z S K && inB kk 0 8) != (J1 Z S K && inB kk 0 8)) true (!((mcL Z S K kk) == (mcL Z S K kk)))) = false → (PC Tryz.prog 83 [.agg [.int .i64 Z, .sl (.rows S), .sl (.ints K)], .int .i64 kk] (.tup [.own 3 (.ints (gcL Z S K kk)), .d (.bool (J1 Z S K && inB kk 0 8))])) ∧ (PC Tryz.prog 84 [.agg [.int .i64 Z, .sl (.rows S), .sl (.ints K)], .int .i64 kk] (.tup [.d (.sl (.ints (gcL Z S K kk))), .d (.bool (J1 Z S K && inB kk 0 8))])) ∧ ((!((J1 Z S K && inB kk 0 8) != (J1 Z S K && inB kk 0 8))) = true → (!((J1 Z S K && inB kk 0 8) != (J1 Z S K && inB kk 0 8))) = true) ∧ ((!((J1 Z S K && inB kk 0 8) != (J1 Z S K && inB kk 0 8))) = true → (!((J1 Z S K && inB kk 0 8) != (J1 Z S K && inB kk 0 8))) = true) ∧ (true = true) ∧ ((((J1 Z S K && inB kk 0 8) != (J1 Z S K && inB kk 0 8)) = true → true = true)) ∧ ((((J1 Z S K && inB kk 0 8) != (J1 Z S K && inB kk 0 8)) = false → (!((J1 Z S K && inB kk 0 8) != (J1 Z S K && inB kk 0 8))) = true)) ∧ ((!(l_FnCoverage_e4 kk Z S K)) = true → (!(l_FnCoverage_e4 kk Z S K)) = true) ∧ ((!(l_FnCoverage_e4 kk Z S K)) = true → (!(l_FnCoverage_e4 kk Z S K)) = true) ∧ (((!(l_FnCoverage_e4 kk Z S K)) = true → (gcL Z S K kk).length = (gcL Z S K kk).length)) ∧ ((!(l_FnCoverage_e4 kk Z S K)) = true → PC Tryz.prog 32 [.sl (.ints (gcL Z S K kk)), .sl (.ints (gcL Z S K kk))] (.one (.d (.bool ((gcL Z S K kk) == (gcL Z S K kk)))))) ∧ ((!(l_FnCoverage_e4 kk Z S K)) = true → (!(l_FnCoverage_e4 kk Z S K)) = true) ∧ (true = true) ∧ (((l_FnCoverage_e4 kk Z S K) = true → true = true)) ∧ (((l_FnCoverage_e4 kk Z S K) = false → (!(l_FnCoverage_e4 kk Z S K)) = true)) ∧ (((cond (l_FnCoverage_e4 kk Z S K) true (!((gcL Z S K kk) == (gcL Z S K kk)))) = true → ((false = true))) ∧ ((cond (l_FnCoverage_e4 kk Z S K) true (!((gcL Z S K kk) == (gcL Z S K kk)))) = false → (((((J1 Z S K && inB kk 0 8) = true → (PC Tryz.prog 85 [.agg [.int .i64 Z, .sl (.rows S), .sl (.ints K)], .sl (.ints (mcL Z S K kk))] (.tup [.own 3 (.ints (J9 Z S K (mcL Z S K kk))), .d (.bool (J1 Z S K && J3 (mcL Z S K kk) 0 ((S.length : Int) - 1)))])) ∧ (true = true) ∧ ((gcL Z S K kk).length = (gcL Z S K kk).length) ∧ (PC Tryz.prog 54 [.sl (.ints (gcL Z S K kk))] (.one (.own 3 (.ints (srt (gcL Z S K kk)))))) ∧ ((srt (gcL Z S K kk)).length = (srt (gcL Z S K kk)).length) ∧ (PC Tryz.prog 85 [.agg [.int .i64 Z, .sl (.rows S), .sl (.ints K)], .sl (.ints (srt (gcL Z S K kk)))] (.tup [.own 3 (.ints (J9 Z S K (srt (gcL Z S K kk)))), .d (.bool (J1 Z S K && J3 (srt (gcL Z S K kk)) 0 ((S.length : Int) - 1)))])) ∧ ((!(!(J1 Z S K && J3 (mcL Z S K kk) 0 ((S.length : Int) - 1)))) = true → (!(!(J1 Z S K && J3 (mcL Z S K kk) 0 ((S.length : Int) - 1)))) = true) ∧ (true = true) ∧ (((!(J1 Z S K && J3 (mcL Z S K kk) 0 ((S.length : Int) - 1))) = true → true = true)) ∧ (((!(J1 Z S K && J3 (mcL Z S K kk) 0 ((S.length : Int) - 1))) = false → (!(!(J1 Z S K && J3 (mcL Z S K kk) 0 ((S.length : Int) - 1)))) = true)) ∧ ((!(l_FnCoverage_e1 kk Z S K)) = true → (!(l_FnCoverage_e1 kk Z S K)) = true) ∧ ((!(l_FnCoverage_e1 kk Z S K)) = true → (!(l_FnCoverage_e1 kk Z S K)) = true) ∧ ((!(l_FnCoverage_e1 kk Z S K)) = true → (!(l_FnCoverage_e1 kk Z S K)) = true) ∧ (true = true) ∧ (((l_FnCoverage_e1 kk Z S K) = true → true = true)) ∧ (((l_FnCoverage_e1 kk Z S K) = false → (!(l_FnCoverage_e1 kk Z S K)) = true)) ∧ ((!(l_FnCoverage_e3 kk Z S K)) = true → (!(l_FnCoverage_e3 kk Z S K)) = true) ∧ ((!(l_FnCoverage_e3 kk Z S K)) = true → (!(l_FnCoverage_e3 kk Z S K)) = true) ∧ ((!(l_FnCoverage_e3 kk Z S K)) = true → (!(l_FnCoverage_e3 kk Z S K)) = true) ∧ (true = true) ∧ (((l_FnCoverage_e3 kk Z S K) = true → true = true)) ∧ (((l_FnCoverage_e3 kk Z S K) = false → (!(l_FnCoverage_e3 kk Z S K)) = true)) ∧ ((!(l_FnCoverage_e5 kk Z S K)) = true → (!(l_FnCoverage_e5 kk Z S K)) = true) ∧ ((!(l_FnCoverage_e5 kk Z S K)) = true → (!(l_FnCoverage_e5 kk Z S K)) = true) ∧ ((!(l_FnCoverage_e5 kk Z S K)) = true → (!(l_FnCoverage_e5 kk Z S K)) = true) ∧ ((!(l_FnCoverage_e5 kk Z S K)) = true → (!(l_FnCoverage_e5 kk Z S K)) = true) ∧ (true = true) ∧ (((l_FnCoverage_e5 kk Z S K) = true → true = true)) ∧ (((l_FnCoverage_e5 kk Z S K) = false → (!(l_FnCoverage_e5 kk Z S K)) = true)) ∧ (((cond (l_FnCoverage_e5 kk Z S K) true (decide ((((J9 Z S K (srt (gcL Z S K kk))).length) : Int) > (((J9 Z S K (mcL Z S K kk)).length) : Int)))) = true → ((false = true))) ∧ ((cond (l_FnCoverage_e5 kk Z S K) true (decide ((((J9 Z S K (srt (gcL Z S K kk))).length) : Int) > (((J9 Z S K (mcL Z S K kk)).length) : Int)))) = false → ((∃ whole' : Int, ∃ rest' : Int, ∃ i' : Int, (l_FnCoverage_JJ0 code kk Z S K whole' rest' i') ∧ (code = code) ∧ (kk = kk) ∧ ((J9 Z S K (mcL Z S K kk)).length = (J9 Z S K (mcL Z S K kk)).length) ∧ ((J9 Z S K (srt (gcL Z S K kk))).length = (J9 Z S K (srt (gcL Z S K kk))).length) ∧ ((1 : Int) = whole') ∧ ((1 : Int) = rest') ∧ ((0 : Int) = i') ∧ (J9 Z S K (mcL Z S K kk) = J9 Z S K (mcL Z S K kk)) ∧ (J9 Z S K (srt (gcL Z S K kk)) = J9 Z S K (srt (gcL Z S K kk)))) ∧ (∀ whole : Int, ∀ rest : Int, ∀ i : Int, (l_FnCoverage_JJ0 code kk Z S K whole rest i) → (((decide (i < kk)) = true → (-9223372036854775808 ≤ (whole * kk) ∧ (whole * kk) ≤ 9223372036854775807) ∧ (-9223372036854775808 ≤ (kk - 1) ∧ (kk - 1) ≤ 9223372036854775807) ∧ (-9223372036854775808 ≤ (rest * (kk - 1)) ∧ (rest * (kk - 1)) ≤ 9223372036854775807) ∧ (-9223372036854775808 ≤ (i + 1) ∧ (i + 1) ≤ 9223372036854775807) ∧ (∃ whole' : Int, ∃ rest' : Int, ∃ i' : Int, (l_FnCoverage_JJ0 code kk Z S K whole' rest' i') ∧ (l_FnCoverage_mJ0 code kk Z S K whole' rest' i' < l_FnCoverage_mJ0 code kk Z S K whole rest i) ∧ (code = code) ∧ (kk = kk) ∧ ((J9 Z S K (mcL Z S K kk)).length = (J9 Z S K (mcL Z S K kk)).length) ∧ ((J9 Z S K (srt (gcL Z S K kk))).length = (J9 Z S K (srt (gcL Z S K kk))).length) ∧ ((whole * kk) = whole') ∧ ((rest * (kk - 1)) = rest') ∧ ((i + 1) = i') ∧ (J9 Z S K (mcL Z S K kk) = J9 Z S K (mcL Z S K kk)) ∧ (J9 Z S K (srt (gcL Z S K kk)) = J9 Z S K (srt (gcL Z S K kk))))) ∧ ((decide (i < kk)) = false → (-9223372036854775808 ≤ (whole * (((J9 Z S K (srt (gcL Z S K kk))).length) : Int)) ∧ (whole * (((J9 Z S K (srt (gcL Z S K kk))).length) : Int)) ≤ 9223372036854775807) ∧ (-9223372036854775808 ≤ (whole - rest) ∧ (whole - rest) ≤ 9223372036854775807) ∧ (-9223372036854775808 ≤ ((whole - rest) * (((J9 Z S K (mcL Z S K kk)).length) : Int)) ∧ ((whole - rest) * (((J9 Z S K (mcL Z S K kk)).length) : Int)) ≤ 9223372036854775807) ∧ (((decide ((whole * (((J9 Z S K (srt (gcL Z S K kk))).length) : Int)) < ((whole - rest) * (((J9 Z S K (mcL Z S K kk)).length) : Int)))) = true → ((false = true))) ∧ ((decide ((whole * (((J9 Z S K (srt (gcL Z S K kk))).length) : Int)) < ((whole - rest) * (((J9 Z S K (mcL Z S K kk)).length) : Int)))) = false → ((l_FnCoverage_JR1025 code kk Z S K) ∧ (code = code))))))))))) ∧ ((J1 Z S K && inB kk 0 8) = false → ((l_FnCoverage_JR1025 code kk Z S K) ∧ (code = code))))) ∧ ((l_FnCoverage_JR1025 code kk Z S K) → (((PE Tryz.prog 86 [.sl (.bytes code)] (J1z code)) ∧ (∀ Or25 : ZI, ∀ Dsr25 : ZR, ∀ rrr25 : Int, J1F code Or25 Dsr25 rrr25 → ((true = true) ∧ (∃ rr' : Int, ∃ Oz' : ZI, ∃ Dz' : ZR, (l_FnCoverage_JR25 code kk Z S K rr' Oz' Dz') ∧ (rrr25 = rr') ∧ (Or25 = Oz') ∧ (Dsr25 = Dz'))))) ∧ (∀ rr : Int, ∀ Oz : ZI, ∀ Dz : ZR, (l_FnCoverage_JR25 code kk Z S K rr Oz Dz) → (PC Tryz.prog 87 [.agg [.sl (.ints Oz), .sl (.rows Dz)], .int .i64 rr] (.tup [.d (.agg [.int .i64 (rsZ Oz Dz rr), .sl (.rows (rsS Oz Dz rr)), .sl (.ints (rsK Oz Dz rr))]), .d (.bool (rsB Oz Dz rr))])) ∧ (PC Tryz.prog 88 [.agg [.sl (.ints Oz), .sl (.rows Dz)], .int .i64 rr] (.tup [.d (.agg [.int .i64 (rsZ Oz Dz rr), .sl (.rows (rsS Oz Dz rr)), .sl (.ints (rsK Oz Dz rr))]), .d (.bool (rsB Oz Dz rr))])) ∧ ((!((rsB Oz Dz rr) != (rsB Oz Dz rr))) = true → (!((rsB Oz Dz rr) != (rsB Oz Dz rr))) = true) ∧ ((!((rsB Oz Dz rr) != (rsB Oz Dz rr))) = true → (!((rsB Oz Dz rr) != (rsB Oz Dz rr))) = true) ∧ ((!((rsB Oz Dz rr) != (rsB Oz Dz rr))) = true → PC Tryz.prog 89 [.agg [.int .i64 (rsZ Oz Dz rr), .sl (.rows (rsS Oz Dz rr)), .sl (.ints (rsK Oz Dz rr))], .agg [.int .i64 (rsZ Oz Dz rr), .sl (.rows (rsS Oz Dz rr)), .sl (.ints (rsK Oz Dz rr))]] (.one (.d (.bool (((rsZ Oz Dz rr) == (rsZ Oz Dz rr)) && ((rsS Oz Dz rr) == (rsS Oz Dz rr)) && ((rsK Oz Dz rr) == (rsK Oz Dz rr))))))) ∧ ((!((rsB Oz Dz rr) != (rsB Oz Dz rr))) = true → (!((rsB Oz Dz rr) != (rsB Oz Dz rr))) = true) ∧ (true = true) ∧ ((((rsB Oz Dz rr) != (rsB Oz Dz rr)) = true → true = true)) ∧ ((((rsB Oz Dz rr) != (rsB Oz Dz rr)) = false → (!((rsB Oz Dz rr) != (rsB Oz Dz rr))) = true)) ∧ (((l_FnCoverage_e7 rr Oz Dz) = true → ((false = true))) ∧ ((l_FnCoverage_e7 rr Oz Dz) = false → (((!(rsB Oz Dz rr)) = true → ((true = true))) ∧ ((!(rsB Oz Dz rr)) = false → ((∃ number' : Int, (l_FnCoverage_JJ1 code kk Z S K rr Oz Dz number') ∧ (rr = rr) ∧ ((1 : Int) = number') ∧ (Oz = Oz) ∧ (Dz = Dz) ∧ (rsZ Oz Dz rr = rsZ Oz Dz rr) ∧ (rsS Oz Dz rr = rsS Oz Dz rr) ∧ (rsK Oz Dz rr = rsK Oz Dz rr)) ∧ (∀ number : Int, (l_FnCoverage_JJ1 code kk Z S K rr Oz Dz number) → ((0 : Int) ≤ 1) ∧ ((0 : Int) ≤ (Oz.length : Int)) ∧ ((0 : Int) ≤ ((1 : Int) * 2 ^ ((Oz.length : Int).toNat)) ∧ (((1 : Int) * 2 ^ ((Oz.length : Int).toNat)) : Int) ≤ 9223372036854775807) ∧ (((decide (number < ((1 : Int) * 2 ^ ((Oz.length : Int).toNat)))) = true → ((∃ set' : ZI, ∃ a' : Int, (l_FnCoverage_JJ2 code kk Z S K rr Oz Dz number set' a') ∧ (rr = rr) ∧ (number = number) ∧ ((0 : Nat) = set'.length) ∧ ((0 : Int) = a') ∧ ([] = set') ∧ (Oz = Oz) ∧ (Dz = Dz) ∧ (rsZ Oz Dz rr = rsZ Oz Dz rr) ∧ (rsS Oz Dz rr = rsS Oz Dz rr) ∧ (rsK Oz Dz rr = rsK Oz Dz rr)) ∧ (∀ set : ZI, ∀ a : Int, (l_FnCoverage_JJ2 code kk Z S K rr Oz Dz number set a) → (((decide (a < (Oz.length : Int))) = true → ((0 : Int) ≤ number ∧ (number : Int) ≤ 9223372036854775807) ∧ ((0 : Int) ≤ a) ∧ ((0 : Int) ≤ (number / 2 ^ a.toNat) ∧ ((number / 2 ^ a.toNat) : Int) ≤ 9223372036854775807) ∧ ((0 : Int) ≤ 1 ∧ (1 : Int) ≤ 9223372036854775807) ∧ ((((((number / 2 ^ a.toNat).toNat &&& 1 : Nat) : Int) == 1) = true → (set.length = set.length) ∧ ((1 : Nat) = 1) ∧ ((set.length + 1) * 8 ≤ 140737488355328) ∧ (-9223372036854775808 ≤ (a + 1) ∧ (a + 1) ≤ 9223372036854775807) ∧ (∃ set' : ZI, ∃ a' : Int, (l_FnCoverage_JJ2 code kk Z S K rr Oz Dz number set' a') ∧ (l_FnCoverage_mJ2 code kk Z S K rr Oz Dz number set' a' < l_FnCoverage_mJ2 code kk Z S K rr Oz Dz number set a) ∧ (rr = rr) ∧ (number = number) ∧ ((set.length + 1) = set'.length) ∧ ((a + 1) = a') ∧ ((set ++ [a]) = set') ∧ (Oz = Oz) ∧ (Dz = Dz) ∧ (rsZ Oz Dz rr = rsZ Oz Dz rr) ∧ (rsS Oz Dz rr = rsS Oz Dz rr) ∧ (rsK Oz Dz rr = rsK Oz Dz rr))) ∧ (((((number / 2 ^ a.toNat).toNat &&& 1 : Nat) : Int) == 1) = false → (-9223372036854775808 ≤ (a + 1) ∧ (a + 1) ≤ 9223372036854775807) ∧ (∃ set' : ZI, ∃ a' : Int, (l_FnCoverage_JJ2 code kk Z S K rr Oz Dz number set' a') ∧ (l_FnCoverage_mJ2 code kk Z S K rr Oz Dz number set' a' < l_FnCoverage_mJ2 code kk Z S K rr Oz Dz number set a) ∧ (rr = rr) ∧ (number = number) ∧ (set.length = set'.length) ∧ ((a + 1) = a') ∧ (set = set') ∧ (Oz = Oz) ∧ (Dz = Dz) ∧ (rsZ Oz Dz rr = rsZ Oz Dz rr) ∧ (rsS Oz Dz rr = rsS Oz Dz rr) ∧ (rsK Oz Dz rr = rsK Oz Dz rr))))) ∧ ((decide (a < (Oz.length : Int))) = false → (set.length = set.length) ∧ (PC Tryz.prog 24 [.agg [.sl (.ints Oz), .sl (.rows Dz)], .sl (.ints set)] (.tup [.d (.int .i64 (if (J2 Oz Dz && J3 set 0 ((Oz.length : Int) - 1) && decide (0 < set.length)) = true then J18 Dz set else 0)), .d (.bool (J2 Oz Dz && J3 set 0 ((Oz.length : Int) - 1) && decide (0 < set.length)))])) ∧ (set.length = set.length) ∧ (PC Tryz.prog 90 [.agg [.int .i64 (rsZ Oz Dz rr), .sl (.rows (rsS Oz Dz rr)), .sl (.ints (rsK Oz Dz rr))], .sl (.ints set)] (.tup [.d (.bool ((J1 (rsZ Oz Dz rr) (rsS Oz Dz rr) (rsK Oz Dz rr) && J3 set 0 (((rsS Oz Dz rr).length : Int) - 1)) && J0Y (rsZ Oz Dz rr) (rsS Oz Dz rr) set)), .d (.bool (J1 (rsZ Oz Dz rr) (rsS Oz Dz rr) (rsK Oz Dz rr) && J3 set 0 (((rsS Oz Dz rr).length : Int) - 1)))])) ∧ ((!(!(J2 Oz Dz && J3 set 0 ((Oz.length : Int) - 1) && decide (0 < set.length)))) = true → (!(!(J2 Oz Dz && J3 set 0 ((Oz.length : Int) - 1) && decide (0 < set.length)))) = true) ∧ (true = true) ∧ (((!(J2 Oz Dz && J3 set 0 ((Oz.length : Int) - 1) && decide (0 < set.length))) = true → true = true)) ∧ (((!(J2 Oz Dz && J3 set 0 ((Oz.length : Int) - 1) && decide (0 < set.length))) = false → (!(!(J2 Oz Dz && J3 set 0 ((Oz.length : Int) - 1) && decide (0 < set.length)))) = true)) ∧ ((!(l_FnCoverage_e2 rr Oz Dz set)) = true → (!(l_FnCoverage_e2 rr Oz Dz set)) = true) ∧ ((!(l_FnCoverage_e2 rr Oz Dz set)) = true → (!(l_FnCoverage_e2 rr Oz Dz set)) = true) ∧ ((!(l_FnCoverage_e2 rr Oz Dz set)) = true → (!(l_FnCoverage_e2 rr Oz Dz set)) = true) ∧ ((!(l_FnCoverage_e2 rr Oz Dz set)) = true → (!(l_FnCoverage_e2 rr Oz Dz set)) = true) ∧ (true = true) ∧ (((l_FnCoverage_e2 rr Oz Dz set) = true → true = true)) ∧ (((l_FnCoverage_e2 rr Oz Dz set) = false → (!(l_FnCoverage_e2 rr Oz Dz set)) = true)) ∧ (((l_FnCoverage_e6 rr Oz Dz set) = true → ((false = true))) ∧ ((l_FnCoverage_e6 rr Oz Dz set) = false → (-9223372036854775808 ≤ (number + 1) ∧ (number + 1) ≤ 9223372036854775807) ∧ (∃ number' : Int, (l_FnCoverage_JJ1 code kk Z S K rr Oz Dz number') ∧ (l_FnCoverage_mJ1 code kk Z S K rr Oz Dz number' < l_FnCoverage_mJ1 code kk Z S K rr Oz Dz number) ∧ (rr = rr) ∧ ((number + 1) = number') ∧ (Oz = Oz) ∧ (Dz = Dz) ∧ (rsZ Oz Dz rr = rsZ Oz Dz rr) ∧ (rsS Oz Dz rr = rsS Oz Dz rr) ∧ (rsK Oz Dz rr = rsK Oz Dz rr))))))))) ∧ ((decide (number < ((1 : Int) * 2 ^ ((Oz.length : Int).toNat)))) = false → ((true = true))))))))))))))))))))))
set_option maxRecDepth 100000 in
theorem l_FnCoverage_vc (code : List Nat) (hb : ∀ x9 ∈ code, x9 < 256) (w_code : (code.length : Int) ≤ 9223372036854775807) : l_FnCoverage_P code := by
  unfold l_FnCoverage_P l_FnCoverage_e7 l_FnCoverage_e6 l_FnCoverage_e5 l_FnCoverage_e4 l_FnCoverage_e3 l_FnCoverage_e2 l_FnCoverage_e1
  refine ⟨Jdd code, ?_, ?_⟩
  ·intro b1
   try simp only [nrmT] at b1
   exact rfl
  intro b2
  try simp only [nrmT] at b2
  refine ⟨?_, ?_⟩
  ·refine ⟨?_, ?_⟩
   ·refine J5f code ?_
    ·exact hb
   ·intro Zr3 Sr3 Kr3 kkr3 hQ9
    refine ⟨rfl, ?_⟩
    ·refine ⟨kkr3, Zr3, Sr3, Kr3, ?_⟩
     refine ⟨?_, rfl, rfl, rfl, rfl, rfl⟩
     ·trivial
  intro kk Z S K hJ
  refine ⟨J7L Z S K kk, J7r Z S K kk, id, id, fun _ => J4f (mcL Z S K kk) (mcL Z S K kk), id, rfl, fun _ => rfl, ?_, ?_, ?_⟩
  ·intro h; rw [h]; rfl
  ·intro b3
   exfalso; simp at b3
  intro b4
  refine ⟨J5I Z S K kk, J5J Z S K kk, id, id, rfl, fun _ => rfl, ?_, id, id, fun _ => rfl, fun _ => J4f (gcL Z S K kk) (gcL Z S K kk), id, rfl, fun _ => rfl, ?_, ?_, ?_⟩
  ·intro h; rw [h]; rfl
  ·intro h; rw [h]; rfl
  ·intro b5
   exfalso; simp at b5
  intro b6
  refine ⟨?_, ?_⟩
  ·refine ⟨?_, ?_⟩
   ·intro b7
    try simp only [Bool.not_eq_true', Bool.not_eq_false', Bool.not_not] at b7
    refine ⟨J51 Z S K (mcL Z S K kk), rfl, rfl, Jb6 (gcL Z S K kk), rfl, J51 Z S K (srt (gcL Z S K kk)), id, rfl, fun _ => rfl, ?_, id, id, id, rfl, fun _ => rfl, ?_, id, id, id, rfl, fun _ => rfl, ?_, id, id, id, id, rfl, fun _ => rfl, ?_, ?_, ?_⟩
    ·intro h; rw [h]; rfl
    ·intro h; rw [h]; rfl
    ·intro h; rw [h]; rfl
    ·intro h; rw [h]; rfl
    ·intro b8
     have hc : (J1 Z S K && inB kk 0 8) = true := by simpa using b7
     obtain ⟨f1, f2, f3, f4, f5, f6, f7⟩ := J0B hc
     exfalso
     rw [f1, f2, decide_eq_false (by omega), decide_eq_false (by omega), decide_eq_false (by omega)] at b8
     simp at b8
    intro b9
    refine ⟨?_, ?_⟩
    ·refine ⟨1, 1, 0, ?_⟩
     refine ⟨?_, rfl, rfl, rfl, rfl, rfl, rfl, rfl, rfl, rfl⟩
     ·refine ⟨?_, ?_, ?_⟩
      ·have hc : (J1 Z S K && inB kk 0 8) = true := by simpa using b7
       obtain ⟨f1, f2, f3, f4, f5, f6, f7⟩ := J0B hc
       omega
      ·exact (Int.pow_zero _).symm
      ·exact (Int.pow_zero _).symm
    intro whole rest i hJ
    obtain ⟨h1, h2, h3⟩ := hJ
    refine ⟨?_, ?_⟩
    ·intro b10
     try simp only [nrmT] at b10
     refine ⟨?_, ?_, ?_, ?_, ?_⟩
     ·have hc : (J1 Z S K && inB kk 0 8) = true := by simpa using b7
      obtain ⟨f1, f2, f3, f4, f5, f6, f7⟩ := J0B hc
      have w1 : 0 ≤ whole ∧ whole ≤ 16777216 := by rw [h2]; exact J1x (a := kk) (by omega) (by omega) i.toNat (by omega)
      have w2 : 0 ≤ rest ∧ rest ≤ 16777216 := by
        rw [h3]
        by_cases k0 : kk = 0
        · rw [show i.toNat = 0 by omega, Int.pow_zero]; omega
        exact J1x (a := kk - 1) (by omega) (by omega) i.toNat (by omega)
      have m1 := Int.mul_nonneg w1.1 f5.1
      have n1 := Int.mul_le_mul w1.2 (by omega : kk ≤ 8) f5.1 (by omega : (0 : Int) ≤ 16777216)
      omega
     ·have hc : (J1 Z S K && inB kk 0 8) = true := by simpa using b7
      obtain ⟨f1, f2, f3, f4, f5, f6, f7⟩ := J0B hc
      omega
     ·have hc : (J1 Z S K && inB kk 0 8) = true := by simpa using b7
      obtain ⟨f1, f2, f3, f4, f5, f6, f7⟩ := J0B hc
      have w1 : 0 ≤ whole ∧ whole ≤ 16777216 := by rw [h2]; exact J1x (a := kk) (by omega) (by omega) i.toNat (by omega)
      have w2 : 0 ≤ rest ∧ rest ≤ 16777216 := by
        rw [h3]
        by_cases k0 : kk = 0
        · rw [show i.toNat = 0 by omega, Int.pow_zero]; omega
        exact J1x (a := kk - 1) (by omega) (by omega) i.toNat (by omega)
      have hk1 : 0 ≤ kk - 1 ∧ kk - 1 ≤ 7 := by omega
      have m1 := Int.mul_nonneg w2.1 hk1.1
      have n1 := Int.mul_le_mul w2.2 (by omega : kk - 1 ≤ 7) hk1.1 (by omega : (0 : Int) ≤ 16777216)
      omega
     ·have hc : (J1 Z S K && inB kk 0 8) = true := by simpa using b7
      obtain ⟨f1, f2, f3, f4, f5, f6, f7⟩ := J0B hc
      omega
     refine ⟨(whole * kk), (rest * (kk - 1)), (i + 1), ?_⟩
     refine ⟨?_, ?_, rfl, rfl, rfl, rfl, rfl, rfl, rfl, rfl, rfl⟩
     ·refine ⟨?_, ?_, ?_⟩
      ·omega
      ·rw [h2, show (i + 1).toNat = i.toNat + 1 by omega, J1h]
      ·rw [h3, show (i + 1).toNat = i.toNat + 1 by omega, J1h]
     (simp only [l_FnCoverage_mJ0]; omega)
    intro b11
    try simp only [nrmT] at b11
    refine ⟨?_, ?_, ?_, ?_, ?_⟩
    ·have hc : (J1 Z S K && inB kk 0 8) = true := by simpa using b7
     obtain ⟨f1, f2, f3, f4, f5, f6, f7⟩ := J0B hc
     have w1 : 0 ≤ whole ∧ whole ≤ 16777216 := by rw [h2]; exact J1x (a := kk) (by omega) (by omega) i.toNat (by omega)
     have w2 : 0 ≤ rest ∧ rest ≤ 16777216 := by
       rw [h3]
       by_cases k0 : kk = 0
       · rw [show i.toNat = 0 by omega, Int.pow_zero]; omega
       exact J1x (a := kk - 1) (by omega) (by omega) i.toNat (by omega)
     have l1 := @J4E Z S K (srt (gcL Z S K kk))
     have l2 := @J4E Z S K (mcL Z S K kk)
     have m1 := Int.mul_nonneg w1.1 (Int.natCast_nonneg (J9 Z S K (srt (gcL Z S K kk))).length)
     have n1 := Int.mul_le_mul w1.2 (by omega : ((J9 Z S K (srt (gcL Z S K kk))).length : Int) ≤ 8) (Int.natCast_nonneg (J9 Z S K (srt (gcL Z S K kk))).length) (by omega : (0 : Int) ≤ 16777216)
     omega
    ·have hc : (J1 Z S K && inB kk 0 8) = true := by simpa using b7
     obtain ⟨f1, f2, f3, f4, f5, f6, f7⟩ := J0B hc
     have w1 : 0 ≤ whole ∧ whole ≤ 16777216 := by rw [h2]; exact J1x (a := kk) (by omega) (by omega) i.toNat (by omega)
     have w2 : 0 ≤ rest ∧ rest ≤ 16777216 := by
       rw [h3]
       by_cases k0 : kk = 0
       · rw [show i.toNat = 0 by omega, Int.pow_zero]; omega
       exact J1x (a := kk - 1) (by omega) (by omega) i.toNat (by omega)
     omega
    ·have hc : (J1 Z S K && inB kk 0 8) = true := by simpa using b7
     obtain ⟨f1, f2, f3, f4, f5, f6, f7⟩ := J0B hc
     have w1 : 0 ≤ whole ∧ whole ≤ 16777216 := by rw [h2]; exact J1x (a := kk) (by omega) (by omega) i.toNat (by omega)
     have w2 : 0 ≤ rest ∧ rest ≤ 16777216 := by
       rw [h3]
       by_cases k0 : kk = 0
       · rw [show i.toNat = 0 by omega, Int.pow_zero]; omega
       exact J1x (a := kk - 1) (by omega) (by omega) i.toNat (by omega)
     have l1 := @J4E Z S K (srt (gcL Z S K kk))
     have l2 := @J4E Z S K (mcL Z S K kk)
     have m1 := Int.mul_nonneg w1.1 (Int.natCast_nonneg (J9 Z S K (mcL Z S K kk)).length)
     have n1 := Int.mul_le_mul w1.2 (by omega : ((J9 Z S K (mcL Z S K kk)).length : Int) ≤ 8) (Int.natCast_nonneg (J9 Z S K (mcL Z S K kk)).length) (by omega : (0 : Int) ≤ 16777216)
     have m2 := Int.mul_nonneg w2.1 (Int.natCast_nonneg (J9 Z S K (mcL Z S K kk)).length)
     have n2 := Int.mul_le_mul w2.2 (by omega : ((J9 Z S K (mcL Z S K kk)).length : Int) ≤ 8) (Int.natCast_nonneg (J9 Z S K (mcL Z S K kk)).length) (by omega : (0 : Int) ≤ 16777216)
     rw [Int.sub_mul]
     omega
    ·intro b12
     try simp only [nrmT] at b12
     have hc : (J1 Z S K && inB kk 0 8) = true := by simpa using b7
     obtain ⟨f1, f2, f3, f4, f5, f6, f7⟩ := J0B hc
     exfalso
     rw [show i = kk by omega] at h2 h3
     rw [← h2, ← h3] at f7
     omega
    intro b13
    try simp only [nrmT] at b13
    refine ⟨?_, rfl⟩
    ·trivial
   ·intro b14
    try simp only [Bool.not_eq_true', Bool.not_eq_false', Bool.not_not] at b14
    refine ⟨?_, rfl⟩
    ·trivial
  intro  hJ
  refine ⟨?_, ?_⟩
  ·refine ⟨?_, ?_⟩
   ·refine J5d code ?_
    ·exact hb
   ·intro Or25 Dsr25 rrr25 hQ9
    refine ⟨rfl, ?_⟩
    ·refine ⟨rrr25, Or25, Dsr25, ?_⟩
     refine ⟨?_, rfl, rfl, rfl⟩
     ·trivial
  intro rr Oz Dz hJ
  refine ⟨J7s Oz Dz rr, J7H Oz Dz rr, id, id, fun _ => Jba (rsZ Oz Dz rr) (rsS Oz Dz rr) (rsK Oz Dz rr) (rsZ Oz Dz rr) (rsS Oz Dz rr) (rsK Oz Dz rr), id, rfl, fun _ => rfl, ?_, ?_, ?_⟩
  ·intro h; rw [h]; rfl
  ·intro b15
   exfalso; simp at b15
  intro b16
  refine ⟨?_, ?_⟩
  ·intro b17
   try simp only [nrmT] at b17
   exact rfl
  intro b18
  try simp only [nrmT] at b18
  refine ⟨?_, ?_⟩
  ·refine ⟨1, ?_⟩
   refine ⟨?_, rfl, rfl, rfl, rfl, rfl, rfl, rfl⟩
   ·unfold l_FnCoverage_JJ1
    have hb9 : rsB Oz Dz rr = true := by simpa using b18
    obtain ⟨g0, g1, g2, g3⟩ := J0D hb9
    obtain ⟨o1, o2, o3⟩ := Jr g2
    have p7 : 2 ^ Oz.length ≤ 2 ^ 7 := Nat.pow_le_pow_right (by omega) o2
    have p8 : (2 : Nat) ^ 7 = 128 := by decide
    have p9 := Nat.two_pow_pos Oz.length
    have p10 := Nat.pow_le_pow_right (n := 2) (by omega) o1
    have e0 := JZ Oz.length
    omega
  intro number hJ
  have h4 := hJ
  refine ⟨?_, ?_, ?_, ?_, ?_⟩
  ·omega
  ·omega
  ·have hb9 : rsB Oz Dz rr = true := by simpa using b18
   obtain ⟨g0, g1, g2, g3⟩ := J0D hb9
   obtain ⟨o1, o2, o3⟩ := Jr g2
   have p7 : 2 ^ Oz.length ≤ 2 ^ 7 := Nat.pow_le_pow_right (by omega) o2
   have p8 : (2 : Nat) ^ 7 = 128 := by decide
   have p9 := Nat.two_pow_pos Oz.length
   have p10 := Nat.pow_le_pow_right (n := 2) (by omega) o1
   have e0 := JZ Oz.length
   rw [JZ]
   omega
  ·intro b19
   try simp only [nrmT] at b19
   refine ⟨?_, ?_⟩
   ·refine ⟨([]), 0, ?_⟩
    refine ⟨?_, rfl, rfl, rfl, rfl, ?_, rfl, rfl, rfl, rfl, rfl⟩
    ·refine ⟨?_, ?_⟩
     ·omega
     ·rfl
    rfl
   intro set a hJ
   obtain ⟨h5, h6⟩ := hJ
   refine ⟨?_, ?_⟩
   ·intro b20
    try simp only [nrmT] at b20
    refine ⟨?_, ?_, ?_, ?_, ?_, ?_⟩
    ·have hb9 : rsB Oz Dz rr = true := by simpa using b18
     obtain ⟨g0, g1, g2, g3⟩ := J0D hb9
     obtain ⟨o1, o2, o3⟩ := Jr g2
     have p7 : 2 ^ Oz.length ≤ 2 ^ 7 := Nat.pow_le_pow_right (by omega) o2
     have p8 : (2 : Nat) ^ 7 = 128 := by decide
     have p9 := Nat.two_pow_pos Oz.length
     have p10 := Nat.pow_le_pow_right (n := 2) (by omega) o1
     have e0 := JZ Oz.length
     omega
    ·omega
    ·have hb9 : rsB Oz Dz rr = true := by simpa using b18
     obtain ⟨g0, g1, g2, g3⟩ := J0D hb9
     obtain ⟨o1, o2, o3⟩ := Jr g2
     have p7 : 2 ^ Oz.length ≤ 2 ^ 7 := Nat.pow_le_pow_right (by omega) o2
     have p8 : (2 : Nat) ^ 7 = 128 := by decide
     have p9 := Nat.two_pow_pos Oz.length
     have p10 := Nat.pow_le_pow_right (n := 2) (by omega) o1
     have e0 := JZ Oz.length
     have h8 : 0 ≤ number / 2 ^ a.toNat := Int.ediv_nonneg (by omega) (Int.le_of_lt (Int.pow_pos (by omega)))
     have h9 : number / 2 ^ a.toNat ≤ number := Int.ediv_le_self _ (by omega)
     omega
    ·omega
    ·intro b21
     try simp only [nrmT] at b21
     refine ⟨rfl, rfl, ?_, ?_, ?_⟩
     ·have hb9 : rsB Oz Dz rr = true := by simpa using b18
      obtain ⟨g0, g1, g2, g3⟩ := J0D hb9
      obtain ⟨o1, o2, o3⟩ := Jr g2
      have p7 : 2 ^ Oz.length ≤ 2 ^ 7 := Nat.pow_le_pow_right (by omega) o2
      have p8 : (2 : Nat) ^ 7 = 128 := by decide
      have p9 := Nat.two_pow_pos Oz.length
      have p10 := Nat.pow_le_pow_right (n := 2) (by omega) o1
      have e0 := JZ Oz.length
      rw [h6]
      have := members_len_le (fun k9 => number.toNat.testBit k9) a.toNat
      omega
     ·have hb9 : rsB Oz Dz rr = true := by simpa using b18
      obtain ⟨g0, g1, g2, g3⟩ := J0D hb9
      obtain ⟨o1, o2, o3⟩ := Jr g2
      have p7 : 2 ^ Oz.length ≤ 2 ^ 7 := Nat.pow_le_pow_right (by omega) o2
      have p8 : (2 : Nat) ^ 7 = 128 := by decide
      have p9 := Nat.two_pow_pos Oz.length
      have p10 := Nat.pow_le_pow_right (n := 2) (by omega) o1
      have e0 := JZ Oz.length
      omega
     refine ⟨(set ++ [a]), (a + 1), ?_⟩
     refine ⟨?_, ?_, rfl, rfl, ?_, rfl, rfl, rfl, rfl, rfl, rfl, rfl⟩
     ·refine ⟨?_, ?_⟩
      ·omega
      ·have hb9 : rsB Oz Dz rr = true := by simpa using b18
       obtain ⟨g0, g1, g2, g3⟩ := J0D hb9
       obtain ⟨o1, o2, o3⟩ := Jr g2
       have p7 : 2 ^ Oz.length ≤ 2 ^ 7 := Nat.pow_le_pow_right (by omega) o2
       have p8 : (2 : Nat) ^ 7 = 128 := by decide
       have p9 := Nat.two_pow_pos Oz.length
       have p10 := Nat.pow_le_pow_right (n := 2) (by omega) o1
       have e0 := JZ Oz.length
       have hb7 := shr_bit (n := number.toNat) (k := a.toNat)
       rw [show ((number.toNat : Nat) : Int) = number by omega] at hb7
       have ht : number.toNat.testBit a.toNat = true := by
         cases h : number.toNat.testBit a.toNat with
         | true => rfl
         | false => rw [h] at hb7; simp at hb7; simp at b21; omega
       rw [h6, show (a + 1).toNat = a.toNat + 1 by omega, members_succ, if_pos ht, show ((a.toNat : Nat) : Int) = a by omega]
     ·(simp only [l_FnCoverage_mJ2]; omega)
     (simp_all; done)
    intro b22
    try simp only [nrmT] at b22
    refine ⟨?_, ?_⟩
    ·have hb9 : rsB Oz Dz rr = true := by simpa using b18
     obtain ⟨g0, g1, g2, g3⟩ := J0D hb9
     obtain ⟨o1, o2, o3⟩ := Jr g2
     have p7 : 2 ^ Oz.length ≤ 2 ^ 7 := Nat.pow_le_pow_right (by omega) o2
     have p8 : (2 : Nat) ^ 7 = 128 := by decide
     have p9 := Nat.two_pow_pos Oz.length
     have p10 := Nat.pow_le_pow_right (n := 2) (by omega) o1
     have e0 := JZ Oz.length
     omega
    refine ⟨set, (a + 1), ?_⟩
    refine ⟨?_, ?_, rfl, rfl, rfl, rfl, rfl, rfl, rfl, rfl, rfl, rfl⟩
    ·refine ⟨?_, ?_⟩
     ·omega
     ·have hb9 : rsB Oz Dz rr = true := by simpa using b18
      obtain ⟨g0, g1, g2, g3⟩ := J0D hb9
      obtain ⟨o1, o2, o3⟩ := Jr g2
      have p7 : 2 ^ Oz.length ≤ 2 ^ 7 := Nat.pow_le_pow_right (by omega) o2
      have p8 : (2 : Nat) ^ 7 = 128 := by decide
      have p9 := Nat.two_pow_pos Oz.length
      have p10 := Nat.pow_le_pow_right (n := 2) (by omega) o1
      have e0 := JZ Oz.length
      have hb7 := shr_bit (n := number.toNat) (k := a.toNat)
      rw [show ((number.toNat : Nat) : Int) = number by omega] at hb7
      have ht : number.toNat.testBit a.toNat = false := by
        cases h : number.toNat.testBit a.toNat with
        | false => rfl
        | true => rw [h] at hb7; simp at hb7; simp at b22; omega
      rw [h6, show (a + 1).toNat = a.toNat + 1 by omega, members_succ, ht]; simp
    (simp only [l_FnCoverage_mJ2]; omega)
   intro b23
   try simp only [nrmT] at b23
   refine ⟨rfl, Jae Oz Dz set, rfl, JaZ (rsZ Oz Dz rr) (rsS Oz Dz rr) (rsK Oz Dz rr) set, id, rfl, fun _ => rfl, ?_, id, id, id, id, rfl, fun _ => rfl, ?_, ?_, ?_⟩
   ·intro h; rw [h]; rfl
   ·intro h; rw [h]; rfl
   ·intro b24
    have hb9 : rsB Oz Dz rr = true := by simpa using b18
    obtain ⟨g0, g1, g2, g3⟩ := J0D hb9
    obtain ⟨o1, o2, o3⟩ := Jr g2
    have p7 : 2 ^ Oz.length ≤ 2 ^ 7 := Nat.pow_le_pow_right (by omega) o2
    have p8 : (2 : Nat) ^ 7 = 128 := by decide
    have p9 := Nat.two_pow_pos Oz.length
    have p10 := Nat.pow_le_pow_right (n := 2) (by omega) o1
    have e0 := JZ Oz.length
    have hset : set ∈ Ja (Oz.length : Int).toNat := by
      rw [Int.toNat_natCast]
      refine J64.2 ⟨number.toNat, by omega, by omega, ?_⟩
      rw [h6, show a.toNat = Oz.length by omega]; rfl
    have h2w := (JdL g2 hset).1
    obtain ⟨_, z1, z2⟩ := J3S h2w
    have hcv := Jdw hb9 z1 z2
    exfalso
    rw [h2w, g0, g1, z1, hcv, if_pos rfl] at b24
    simp at b24
   intro b25
   refine ⟨?_, ?_⟩
   ·have hb9 : rsB Oz Dz rr = true := by simpa using b18
    obtain ⟨g0, g1, g2, g3⟩ := J0D hb9
    obtain ⟨o1, o2, o3⟩ := Jr g2
    have p7 : 2 ^ Oz.length ≤ 2 ^ 7 := Nat.pow_le_pow_right (by omega) o2
    have p8 : (2 : Nat) ^ 7 = 128 := by decide
    have p9 := Nat.two_pow_pos Oz.length
    have p10 := Nat.pow_le_pow_right (n := 2) (by omega) o1
    have e0 := JZ Oz.length
    omega
   refine ⟨(number + 1), ?_⟩
   refine ⟨?_, ?_, rfl, rfl, rfl, rfl, rfl, rfl, rfl⟩
   ·unfold l_FnCoverage_JJ1
    have hb9 : rsB Oz Dz rr = true := by simpa using b18
    obtain ⟨g0, g1, g2, g3⟩ := J0D hb9
    obtain ⟨o1, o2, o3⟩ := Jr g2
    have p7 : 2 ^ Oz.length ≤ 2 ^ 7 := Nat.pow_le_pow_right (by omega) o2
    have p8 : (2 : Nat) ^ 7 = 128 := by decide
    have p9 := Nat.two_pow_pos Oz.length
    have p10 := Nat.pow_le_pow_right (n := 2) (by omega) o1
    have e0 := JZ Oz.length
    omega
   (simp only [l_FnCoverage_mJ1] at *; simp at *; omega)
  intro b26
  try simp only [nrmT] at b26
  exact rfl
theorem l_FnCoverage_pc (code : List Nat) (hb : ∀ x9 ∈ code, x9 < 256) : PC Tryz.prog 8 [.sl (.bytes code)] (.one (.d (.bool true))) :=
  pc_wf @Tryz.call8 fun hw => pc_by (by kernel_rfl) Tryz.func8 @Tryz.call8 (by kernel_rfl) l_FnCoverage_C (l_FnCoverage_A code) (by kernel_rfl) (l_FnCoverage_vc code hb hw.1) (by kernel_rfl)
end Go.Proofs.YtomnmacmlhkceaaGreat
