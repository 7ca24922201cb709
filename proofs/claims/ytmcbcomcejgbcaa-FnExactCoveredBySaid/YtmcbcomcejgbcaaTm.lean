/- Contracts. -/
import Derived.Test.YtmcbcomcejgbcaaPw
import Derived.Test.YtmcbcomcejgbcaaProg
import Derived.KernelRfl
set_option linter.unusedVariables false
set_option linter.unusedSimpArgs false
namespace Go.Proofs.Ytmcbcomcejgbcaa
open Go

/-- Marks from k on. -/
def marks (k : Int) (n : Nat) : List Int := (List.range n).map fun (i : Nat) => k + (i : Int)
def markTo (k : Int) (xs : List Int) (g : Nat) : List Int := marks k g ++ xs.drop g
theorem marks_len (k : Int) (n : Nat) : (marks k n).length = n := by simp [marks]
theorem markTo_zero (k : Int) (xs : List Int) : markTo k xs 0 = xs := by simp [markTo, marks]
theorem markTo_all (k : Int) (xs : List Int) : markTo k xs xs.length = marks k xs.length := by simp [markTo]
theorem markTo_len (k : Int) (xs : List Int) (g : Nat) (h : g ≤ xs.length) : (markTo k xs g).length = xs.length := by simp [markTo, marks_len]; omega
theorem markTo_step (k : Int) (xs : List Int) (g : Nat) (h : g < xs.length) : (markTo k xs g).set g (k + (g : Int)) = markTo k xs (g + 1) := by
  apply List.ext_getElem?
  intro j
  simp only [markTo, marks, List.getElem?_set, List.getElem?_append, List.length_map, List.length_range, List.getElem?_map, List.getElem?_drop, List.length_append, List.length_drop]
  by_cases h1 : g = j
  · subst h1
    simp [h]
    omega
  · by_cases h2 : j < g
    · simp [h1, h2, show j < g + 1 by omega]
    · simp [h1, h2, show ¬ j < g + 1 by omega]
      congr 1; omega
theorem sum_take : ∀ (ns : List Nat) (g : Nat), g < ns.length → (ns.take (g + 1)).sum = (ns.take g).sum + ns.getD g 0
  | [], g, h => by simp at h
  | n :: r, 0, _ => by simp
  | n :: r, g + 1, h => by
    have := sum_take r g (by simpa using h)
    simp only [List.take_succ_cons, List.sum_cons, List.getD_cons_succ, this]
    omega
theorem sum_take_le (ns : List Nat) (g : Nat) : (ns.take g).sum ≤ ns.sum := by
  have := List.take_append_drop g ns
  have h2 : ns.sum = (ns.take g).sum + (ns.drop g).sum := by rw [← List.sum_append, this]
  omega

def laws_markIntS_g_C (f : FuncId) (ms : List MV) : Option Int := none
def laws_markIntS_g_A (n : Nat) (k : Int) : MAnn := .two (.none) (.two (.two (.none) (.loop n (fun g => [(0, .shp (.ints n)), (1, .int (k + (g : Int))), (5, .int (g : Int))]) (fun g => []) (fun g => .none))) (.none))
def laws_markIntS_g_P (n : Nat) (k : Int) : Prop :=
  (((([] : List Int) = []) ∧ ((.ints n : Sh) = .ints n) ∧ ((k : Int) = (k + ((0 : Nat) : Int))) ∧ ((0 : Int) = ((0 : Nat) : Int))) ∧ (∀ g : Nat, g ≤ n → (((decide ((g : Int) < ((n : Nat) : Int))) = true → ((0 : Int) ≤ (g : Int)) ∧ (((g : Int) : Int) < ((n : Nat) : Int)) ∧ (-9223372036854775808 ≤ ((k + (g : Int)) + 1) ∧ ((k + (g : Int)) + 1) ≤ 9223372036854775807) ∧ (-9223372036854775808 ≤ ((g : Int) + 1) ∧ ((g : Int) + 1) ≤ 9223372036854775807) ∧ ((g + 1 ≤ n) ∧ (([] : List Int) = []) ∧ ((.ints n : Sh) = .ints n) ∧ ((((k + (g : Int)) + 1) : Int) = (k + ((g + 1 : Nat) : Int))) ∧ ((((g : Int) + 1) : Int) = ((g + 1 : Nat) : Int)))) ∧ ((decide ((g : Int) < ((n : Nat) : Int))) = false → (((((k + (g : Int)) : Int) = k + (n : Int))) ∧ ((([] : List Int) = [])))))))
theorem laws_markIntS_g_vc (n : Nat) (k : Int) (hk : 0 ≤ k) (hn : k + (n : Int) ≤ 9223372036854775807) : laws_markIntS_g_P n k := by
  unfold laws_markIntS_g_P
  refine ⟨?_, ?_⟩
  · refine ⟨?_, ?_⟩
    · exact rfl
    refine ⟨?_, ?_⟩
    · exact rfl
    refine ⟨?_, ?_⟩
    · first | omega | rfl | (simp; done) | (simp <;> omega)
    first | omega | rfl | (simp; done) | (simp <;> omega)
  intro g hg
  refine ⟨?_, ?_⟩
  · intro b1
    simp only [nrmT] at b1
    refine ⟨?_, ?_⟩
    · first | omega | rfl | (simp; done) | (simp <;> omega)
    refine ⟨?_, ?_⟩
    · first | omega | rfl | (simp; done) | (simp <;> omega)
    refine ⟨?_, ?_⟩
    · first | omega | rfl | (simp; done) | (simp <;> omega)
    refine ⟨?_, ?_⟩
    · first | omega | rfl | (simp; done) | (simp <;> omega)
    refine ⟨?_, ?_⟩
    · first | omega | rfl | (simp; done) | (simp <;> omega)
    refine ⟨?_, ?_⟩
    · exact rfl
    refine ⟨?_, ?_⟩
    · exact rfl
    refine ⟨?_, ?_⟩
    · first | omega | rfl | (simp; done) | (simp <;> omega)
    first | omega | rfl | (simp; done) | (simp <;> omega)
  · intro b2
    simp only [nrmT] at b2
    refine ⟨?_, ?_⟩
    · first | omega | rfl | (simp; done) | (simp <;> omega)
    exact rfl
theorem laws_markIntS_g_pg (n : Nat) (k : Int) (hk : 0 ≤ k) (hn : k + (n : Int) ≤ 9223372036854775807) : PG Try.prog 48 [.shp (.ints n), .int k] (k + (n : Int)) :=
  pg_by Try.func48 @Try.call48 (by kernel_rfl) laws_markIntS_g_C (laws_markIntS_g_A n k) (by kernel_rfl) (laws_markIntS_g_vc n k hk hn) (by kernel_rfl)

def laws_markIntS_w_C (f : FuncId) (ms : List MV) : Option Int := none
def laws_markIntS_w_A (xs : List Int) (k : Int) : MAnn := .two (.none) (.two (.two (.none) (.loop xs.length (fun g => [(0, .row xs.length), (1, .int (k + (g : Int))), (5, .int (g : Int))]) (fun g => (markTo k xs g)) (fun g => .none))) (.none))
def laws_markIntS_w_P (xs : List Int) (k : Int) : Prop :=
  ((((xs : List Int) = (markTo k xs (0 : Nat))) ∧ ((xs.length : Nat) = xs.length) ∧ ((k : Int) = (k + ((0 : Nat) : Int))) ∧ ((0 : Int) = ((0 : Nat) : Int))) ∧ (∀ g : Nat, g ≤ xs.length → (((decide ((g : Int) < (xs.length : Int))) = true → ((0 : Int) ≤ (g : Int)) ∧ (((g : Int) : Int) < (xs.length : Int)) ∧ ((g : Int).toNat < (markTo k xs g).length) ∧ (-9223372036854775808 ≤ ((k + (g : Int)) + 1) ∧ ((k + (g : Int)) + 1) ≤ 9223372036854775807) ∧ (-9223372036854775808 ≤ ((g : Int) + 1) ∧ ((g : Int) + 1) ≤ 9223372036854775807) ∧ ((g + 1 ≤ xs.length) ∧ ((((markTo k xs g).set ((g : Int).toNat) (k + (g : Int))) : List Int) = (markTo k xs (g + 1 : Nat))) ∧ ((xs.length : Nat) = xs.length) ∧ ((((k + (g : Int)) + 1) : Int) = (k + ((g + 1 : Nat) : Int))) ∧ ((((g : Int) + 1) : Int) = ((g + 1 : Nat) : Int)))) ∧ ((decide ((g : Int) < (xs.length : Int))) = false → (((((k + (g : Int)) : Int) = k + (xs.length : Int))) ∧ ((((markTo k xs g) : List Int) = (marks k xs.length))))))))
theorem laws_markIntS_w_vc (xs : List Int) (k : Int) (hk : 0 ≤ k) (hn : k + (xs.length : Int) ≤ 9223372036854775807) : laws_markIntS_w_P xs k := by
  unfold laws_markIntS_w_P
  refine ⟨?_, ?_⟩
  · refine ⟨?_, ?_⟩
    · exact (markTo_zero k xs).symm
    refine ⟨?_, ?_⟩
    · exact rfl
    refine ⟨?_, ?_⟩
    · first | omega | rfl | (simp; done) | (simp <;> omega)
    first | omega | rfl | (simp; done) | (simp <;> omega)
  intro g hg
  refine ⟨?_, ?_⟩
  · intro b1
    simp only [nrmT] at b1
    refine ⟨?_, ?_⟩
    · first | omega | rfl | (simp; done) | (simp <;> omega)
    refine ⟨?_, ?_⟩
    · first | omega | rfl | (simp; done) | (simp <;> omega)
    refine ⟨?_, ?_⟩
    · rw [markTo_len _ _ _ (by omega)]; omega
    refine ⟨?_, ?_⟩
    · first | omega | rfl | (simp; done) | (simp <;> omega)
    refine ⟨?_, ?_⟩
    · first | omega | rfl | (simp; done) | (simp <;> omega)
    refine ⟨?_, ?_⟩
    · first | omega | rfl | (simp; done) | (simp <;> omega)
    refine ⟨?_, ?_⟩
    · exact markTo_step k xs g (by omega)
    refine ⟨?_, ?_⟩
    · exact rfl
    refine ⟨?_, ?_⟩
    · first | omega | rfl | (simp; done) | (simp <;> omega)
    first | omega | rfl | (simp; done) | (simp <;> omega)
  · intro b2
    simp only [nrmT] at b2
    refine ⟨?_, ?_⟩
    · first | omega | rfl | (simp; done) | (simp <;> omega)
    rw [show g = xs.length by omega]; exact markTo_all k xs
theorem laws_markIntS_w_pw (xs : List Int) (k : Int) (hk : 0 ≤ k) (hn : k + (xs.length : Int) ≤ 9223372036854775807) : PW Try.prog 48 3 xs (marks k xs.length) k (k + (xs.length : Int)) :=
  pw_by Try.func48 @Try.call48 (by kernel_rfl) laws_markIntS_w_C (laws_markIntS_w_A xs k) (by kernel_rfl) (Nat.le_of_eq (marks_len _ _)) (laws_markIntS_w_vc xs k hk hn) (by kernel_rfl)

def laws_markIntA2S_g_C (f : FuncId) (ms : List MV) : Option Int := none
def laws_markIntA2S_g_A (n : Nat) (k : Int) : MAnn := .two (.none) (.two (.two (.none) (.loop n (fun g => [(0, .shp (.pairs n)), (1, .int (k + (g : Int) * 2)), (5, .int (g : Int))]) (fun g => []) (fun g => .two (.none) (.two (.two (.none) (.loop 2 (fun g2 => [(0, .shp (.pairs n)), (1, .int (k + (g : Int) * 2 + (g2 : Int))), (5, .int (g : Int)), (6, .int (g2 : Int))]) (fun g2 => []) (fun g2 => .none))) (.none))))) (.none))
def laws_markIntA2S_g_P (n : Nat) (k : Int) : Prop :=
  (((([] : List Int) = []) ∧ ((.pairs n : Sh) = .pairs n) ∧ ((k : Int) = (k + ((0 : Nat) : Int) * 2)) ∧ ((0 : Int) = ((0 : Nat) : Int))) ∧ (∀ g : Nat, g ≤ n → (((decide ((g : Int) < ((n : Nat) : Int))) = true → (((([] : List Int) = []) ∧ ((.pairs n : Sh) = .pairs n) ∧ (((k + (g : Int) * 2) : Int) = (k + (g : Int) * 2 + ((0 : Nat) : Int))) ∧ (((g : Int) : Int) = (g : Int)) ∧ ((0 : Int) = ((0 : Nat) : Int))) ∧ (∀ g2 : Nat, g2 ≤ 2 → (((decide ((g2 : Int) < 2)) = true → ((0 : Int) ≤ (g : Int)) ∧ (((g : Int) : Int) < ((n : Nat) : Int)) ∧ ((0 : Int) ≤ (g2 : Int)) ∧ (((g2 : Int) : Int) < 2) ∧ (-9223372036854775808 ≤ ((k + (g : Int) * 2 + (g2 : Int)) + 1) ∧ ((k + (g : Int) * 2 + (g2 : Int)) + 1) ≤ 9223372036854775807) ∧ (-9223372036854775808 ≤ ((g2 : Int) + 1) ∧ ((g2 : Int) + 1) ≤ 9223372036854775807) ∧ ((g2 + 1 ≤ 2) ∧ (([] : List Int) = []) ∧ ((.pairs n : Sh) = .pairs n) ∧ ((((k + (g : Int) * 2 + (g2 : Int)) + 1) : Int) = (k + (g : Int) * 2 + ((g2 + 1 : Nat) : Int))) ∧ (((g : Int) : Int) = (g : Int)) ∧ ((((g2 : Int) + 1) : Int) = ((g2 + 1 : Nat) : Int)))) ∧ ((decide ((g2 : Int) < 2)) = false → (-9223372036854775808 ≤ ((g : Int) + 1) ∧ ((g : Int) + 1) ≤ 9223372036854775807) ∧ ((g + 1 ≤ n) ∧ (([] : List Int) = []) ∧ ((.pairs n : Sh) = .pairs n) ∧ (((k + (g : Int) * 2 + (g2 : Int)) : Int) = (k + ((g + 1 : Nat) : Int) * 2)) ∧ ((((g : Int) + 1) : Int) = ((g + 1 : Nat) : Int)))))))) ∧ ((decide ((g : Int) < ((n : Nat) : Int))) = false → (((((k + (g : Int) * 2) : Int) = k + (n : Int) * 2)) ∧ ((([] : List Int) = [])))))))
theorem laws_markIntA2S_g_vc (n : Nat) (k : Int) (hk : 0 ≤ k) (hn : k + (n : Int) * 2 ≤ 9223372036854775807) : laws_markIntA2S_g_P n k := by
  unfold laws_markIntA2S_g_P
  refine ⟨?_, ?_⟩
  · refine ⟨?_, ?_⟩
    · exact rfl
    refine ⟨?_, ?_⟩
    · exact rfl
    refine ⟨?_, ?_⟩
    · first | omega | rfl | (simp; done) | (simp <;> omega)
    first | omega | rfl | (simp; done) | (simp <;> omega)
  intro g hg
  refine ⟨?_, ?_⟩
  · intro b1
    simp only [nrmT] at b1
    refine ⟨?_, ?_⟩
    · refine ⟨?_, ?_⟩
      · exact rfl
      refine ⟨?_, ?_⟩
      · exact rfl
      refine ⟨?_, ?_⟩
      · first | omega | rfl | (simp; done) | (simp <;> omega)
      refine ⟨?_, ?_⟩
      · exact rfl
      first | omega | rfl | (simp; done) | (simp <;> omega)
    intro g2 hg2
    refine ⟨?_, ?_⟩
    · intro b2
      simp only [nrmT] at b2
      refine ⟨?_, ?_⟩
      · first | omega | rfl | (simp; done) | (simp <;> omega)
      refine ⟨?_, ?_⟩
      · first | omega | rfl | (simp; done) | (simp <;> omega)
      refine ⟨?_, ?_⟩
      · first | omega | rfl | (simp; done) | (simp <;> omega)
      refine ⟨?_, ?_⟩
      · first | omega | rfl | (simp; done) | (simp <;> omega)
      refine ⟨?_, ?_⟩
      · first | omega | rfl | (simp; done) | (simp <;> omega)
      refine ⟨?_, ?_⟩
      · first | omega | rfl | (simp; done) | (simp <;> omega)
      refine ⟨?_, ?_⟩
      · first | omega | rfl | (simp; done) | (simp <;> omega)
      refine ⟨?_, ?_⟩
      · exact rfl
      refine ⟨?_, ?_⟩
      · exact rfl
      refine ⟨?_, ?_⟩
      · first | omega | rfl | (simp; done) | (simp <;> omega)
      refine ⟨?_, ?_⟩
      · exact rfl
      first | omega | rfl | (simp; done) | (simp <;> omega)
    · intro b3
      simp only [nrmT] at b3
      refine ⟨?_, ?_⟩
      · first | omega | rfl | (simp; done) | (simp <;> omega)
      refine ⟨?_, ?_⟩
      · first | omega | rfl | (simp; done) | (simp <;> omega)
      refine ⟨?_, ?_⟩
      · exact rfl
      refine ⟨?_, ?_⟩
      · exact rfl
      refine ⟨?_, ?_⟩
      · first | omega | rfl | (simp; done) | (simp <;> omega)
      first | omega | rfl | (simp; done) | (simp <;> omega)
  · intro b4
    simp only [nrmT] at b4
    refine ⟨?_, ?_⟩
    · first | omega | rfl | (simp; done) | (simp <;> omega)
    exact rfl
theorem laws_markIntA2S_g_pg (n : Nat) (k : Int) (hk : 0 ≤ k) (hn : k + (n : Int) * 2 ≤ 9223372036854775807) : PG Try.prog 47 [.shp (.pairs n), .int k] (k + (n : Int) * 2) :=
  pg_by Try.func47 @Try.call47 (by kernel_rfl) laws_markIntA2S_g_C (laws_markIntA2S_g_A n k) (by kernel_rfl) (laws_markIntA2S_g_vc n k hk hn) (by kernel_rfl)

def laws_markIntSS_g_C (f : FuncId) (ms : List MV) : Option Int := bif Nat.beq f 48 then (match ms with
  | [.shp (.ints n), .int k] => some (k + (n : Int))
  | _ => none) else none
def laws_markIntSS_g_A (ns : List Nat) (k : Int) : MAnn := .two (.none) (.two (.two (.none) (.loop ns.length (fun g => [(0, .shp (.rows ns)), (1, .int (k + ((ns.take g).sum : Int))), (5, .int (g : Int))]) (fun g => []) (fun g => .none))) (.none))
def laws_markIntSS_g_P (ns : List Nat) (k : Int) : Prop :=
  (((([] : List Int) = []) ∧ ((.rows ns : Sh) = .rows ns) ∧ ((k : Int) = (k + ((ns.take (0 : Nat)).sum : Int))) ∧ ((0 : Int) = ((0 : Nat) : Int))) ∧ (∀ g : Nat, g ≤ ns.length → (((decide ((g : Int) < ((ns.length : Nat) : Int))) = true → ((0 : Int) ≤ (g : Int)) ∧ (((g : Int) : Int) < ((ns.length : Nat) : Int)) ∧ (PG Try.prog 48 [.shp (.ints (ns.getD ((g : Int).toNat) 0)), .int (k + ((ns.take g).sum : Int))] ((k + ((ns.take g).sum : Int)) + ((ns.getD ((g : Int).toNat) 0) : Int))) ∧ (-9223372036854775808 ≤ ((g : Int) + 1) ∧ ((g : Int) + 1) ≤ 9223372036854775807) ∧ ((g + 1 ≤ ns.length) ∧ (([] : List Int) = []) ∧ ((.rows ns : Sh) = .rows ns) ∧ ((((k + ((ns.take g).sum : Int)) + ((ns.getD ((g : Int).toNat) 0) : Int)) : Int) = (k + ((ns.take (g + 1 : Nat)).sum : Int))) ∧ ((((g : Int) + 1) : Int) = ((g + 1 : Nat) : Int)))) ∧ ((decide ((g : Int) < ((ns.length : Nat) : Int))) = false → (((((k + ((ns.take g).sum : Int)) : Int) = k + (ns.sum : Int))) ∧ ((([] : List Int) = [])))))))
theorem laws_markIntSS_g_vc (ns : List Nat) (k : Int) (hk : 0 ≤ k) (hl : (ns.length : Int) ≤ 9223372036854775807) (hn : k + (ns.sum : Int) ≤ 9223372036854775807) : laws_markIntSS_g_P ns k := by
  unfold laws_markIntSS_g_P
  refine ⟨?_, ?_⟩
  · refine ⟨?_, ?_⟩
    · exact rfl
    refine ⟨?_, ?_⟩
    · exact rfl
    refine ⟨?_, ?_⟩
    · first | omega | rfl | (simp; done) | (simp <;> omega)
    first | omega | rfl | (simp; done) | (simp <;> omega)
  intro g hg
  refine ⟨?_, ?_⟩
  · intro b1
    simp only [nrmT] at b1
    refine ⟨?_, ?_⟩
    · first | omega | rfl | (simp; done) | (simp <;> omega)
    refine ⟨?_, ?_⟩
    · first | omega | rfl | (simp; done) | (simp <;> omega)
    refine ⟨?_, ?_⟩
    · refine laws_markIntS_g_pg (ns.getD ((g : Int).toNat) 0) (k + ((ns.take g).sum : Int)) ?_ ?_
      · first | omega | rfl | (simp; done) | (simp <;> omega)
      · have := sum_take_le ns (g + 1); rw [sum_take ns g (by omega)] at this; simp only [Int.toNat_natCast]; omega
    refine ⟨?_, ?_⟩
    · first | omega | rfl | (simp; done) | (simp <;> omega)
    refine ⟨?_, ?_⟩
    · first | omega | rfl | (simp; done) | (simp <;> omega)
    refine ⟨?_, ?_⟩
    · exact rfl
    refine ⟨?_, ?_⟩
    · exact rfl
    refine ⟨?_, ?_⟩
    · rw [sum_take ns g (by omega)]; simp; omega
    first | omega | rfl | (simp; done) | (simp <;> omega)
  · intro b2
    simp only [nrmT] at b2
    refine ⟨?_, ?_⟩
    · rw [show g = ns.length by omega]; simp
    exact rfl
theorem laws_markIntSS_g_pg (ns : List Nat) (k : Int) (hk : 0 ≤ k) (hl : (ns.length : Int) ≤ 9223372036854775807) (hn : k + (ns.sum : Int) ≤ 9223372036854775807) : PG Try.prog 127 [.shp (.rows ns), .int k] (k + (ns.sum : Int)) :=
  pg_by Try.func127 @Try.call127 (by kernel_rfl) laws_markIntSS_g_C (laws_markIntSS_g_A ns k) (by kernel_rfl) (laws_markIntSS_g_vc ns k hk hl hn) (by kernel_rfl)

def laws_markField_g_C (f : FuncId) (ms : List MV) : Option Int := bif Nat.beq f 48 then (match ms with
  | [.shp (.ints n), .int k] => some (k + (n : Int))
  | _ => none) else bif Nat.beq f 127 then (match ms with
  | [.shp (.rows ns), .int k] => some (k + (ns.sum : Int))
  | _ => none) else none
def laws_markField_g_A (n : Nat) (ns : List Nat) (k : Int) : MAnn := .none
def laws_markField_g_P (n : Nat) (ns : List Nat) (k : Int) : Prop :=
  (PG Try.prog 48 [.shp (.ints n), .int k] (k + (n : Int))) ∧ (PG Try.prog 127 [.shp (.rows ns), .int (k + (n : Int))] ((k + (n : Int)) + (ns.sum : Int))) ∧ ((((((k + (n : Int)) + (ns.sum : Int)) : Int) = k + (n : Int) + (ns.sum : Int))) ∧ ((([] : List Int) = [])))
theorem laws_markField_g_vc (n : Nat) (ns : List Nat) (k : Int) (hk : 0 ≤ k) (hl : (ns.length : Int) ≤ 9223372036854775807) (hn : k + (n : Int) + (ns.sum : Int) ≤ 9223372036854775807) : laws_markField_g_P n ns k := by
  unfold laws_markField_g_P
  refine ⟨?_, ?_⟩
  · refine laws_markIntS_g_pg n k ?_ ?_
    · first | omega | rfl | (simp; done) | (simp <;> omega)
    · first | omega | rfl | (simp; done) | (simp <;> omega)
  refine ⟨?_, ?_⟩
  · refine laws_markIntSS_g_pg ns (k + (n : Int)) ?_ ?_ ?_
    · first | omega | rfl | (simp; done) | (simp <;> omega)
    · first | omega | rfl | (simp; done) | (simp <;> omega)
    · first | omega | rfl | (simp; done) | (simp <;> omega)
  refine ⟨?_, ?_⟩
  · first | omega | rfl | (simp; done) | (simp <;> omega)
  exact rfl
theorem laws_markField_g_pg (n : Nat) (ns : List Nat) (k : Int) (hk : 0 ≤ k) (hl : (ns.length : Int) ≤ 9223372036854775807) (hn : k + (n : Int) + (ns.sum : Int) ≤ 9223372036854775807) : PG Try.prog 64 [.agg [.ints n, .rows ns], .int k] (k + (n : Int) + (ns.sum : Int)) :=
  pg_by Try.func64 @Try.call64 (by kernel_rfl) laws_markField_g_C (laws_markField_g_A n ns k) (by kernel_rfl) (laws_markField_g_vc n ns k hk hl hn) (by kernel_rfl)

def laws_markSystem_g_C (f : FuncId) (ms : List MV) : Option Int := bif Nat.beq f 48 then (match ms with
  | [.shp (.ints n), .int k] => some (k + (n : Int))
  | _ => none) else bif Nat.beq f 127 then (match ms with
  | [.shp (.rows ns), .int k] => some (k + (ns.sum : Int))
  | _ => none) else none
def laws_markSystem_g_A (ns : List Nat) (n : Nat) (k : Int) : MAnn := .none
def laws_markSystem_g_P (ns : List Nat) (n : Nat) (k : Int) : Prop :=
  (PG Try.prog 127 [.shp (.rows ns), .int k] (k + (ns.sum : Int))) ∧ (PG Try.prog 48 [.shp (.ints n), .int (k + (ns.sum : Int))] ((k + (ns.sum : Int)) + (n : Int))) ∧ ((((((k + (ns.sum : Int)) + (n : Int)) : Int) = k + (ns.sum : Int) + (n : Int))) ∧ ((([] : List Int) = [])))
theorem laws_markSystem_g_vc (ns : List Nat) (n : Nat) (k : Int) (hk : 0 ≤ k) (hl : (ns.length : Int) ≤ 9223372036854775807) (hn : k + (ns.sum : Int) + (n : Int) ≤ 9223372036854775807) : laws_markSystem_g_P ns n k := by
  unfold laws_markSystem_g_P
  refine ⟨?_, ?_⟩
  · refine laws_markIntSS_g_pg ns k ?_ ?_ ?_
    · first | omega | rfl | (simp; done) | (simp <;> omega)
    · first | omega | rfl | (simp; done) | (simp <;> omega)
    · first | omega | rfl | (simp; done) | (simp <;> omega)
  refine ⟨?_, ?_⟩
  · refine laws_markIntS_g_pg n (k + (ns.sum : Int)) ?_ ?_
    · first | omega | rfl | (simp; done) | (simp <;> omega)
    · first | omega | rfl | (simp; done) | (simp <;> omega)
  refine ⟨?_, ?_⟩
  · first | omega | rfl | (simp; done) | (simp <;> omega)
  exact rfl
theorem laws_markSystem_g_pg (ns : List Nat) (n : Nat) (k : Int) (hk : 0 ≤ k) (hl : (ns.length : Int) ≤ 9223372036854775807) (hn : k + (ns.sum : Int) + (n : Int) ≤ 9223372036854775807) : PG Try.prog 69 [.agg [.any, .rows ns, .ints n], .int k] (k + (ns.sum : Int) + (n : Int)) :=
  pg_by Try.func69 @Try.call69 (by kernel_rfl) laws_markSystem_g_C (laws_markSystem_g_A ns n k) (by kernel_rfl) (laws_markSystem_g_vc ns n k hk hl hn) (by kernel_rfl)

end Go.Proofs.Ytmcbcomcejgbcaa
