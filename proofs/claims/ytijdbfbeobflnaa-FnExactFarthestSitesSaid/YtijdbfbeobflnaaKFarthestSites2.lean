/- Contracts of the functions that the law reaches. -/
import Derived.Test.YtijdbfbeobflnaaKFarthestSites1
import Derived.KernelRfl
set_option linter.unusedVariables false
set_option linter.unusedSimpArgs false
namespace Go.Proofs.Ytijdbfbeobflnaa
open Go

theorem sit_same {Open : List Int} {Dist : List (List Int)} (hf : goodField Open Dist = true) {clients : List Int} (hc : ∀ c ∈ clients, 0 ≤ c ∧ c < (Dist.length : Int)) : members (fun k => (sitB Dist clients clients.length).testBit k) 62 = sitL Dist clients clients.length := by
  refine asc_ext (asc_members _ _) (sitL_asc _) fun x => ?_
  rw [mem_members, sitL_mem, sitB_bit]
  constructor
  · rintro ⟨h1, h2, j, h3, h4⟩
    have h5 := argM_in hf (hc _ (getD_mem (d := 0) h3))
    exact ⟨j, h3, by omega⟩
  · rintro ⟨j, h3, h4⟩
    have h5 := argM_in hf (hc _ (getD_mem (d := 0) h3))
    have h6 := gf_open hf
    exact ⟨by omega, by omega, j, h3, by omega⟩
theorem sitB_zero {Dist : List (List Int)} {clients : List Int} : sitB Dist clients clients.length = 0 ↔ clients.length = 0 := by
  constructor
  · intro h
    by_cases e : clients.length = 0
    · exact e
    · exfalso
      have h1 := (sitB_bit (Dist := Dist) (clients := clients) (x := (argM (Dist.getD (clients.getD 0 0).toNat [])).toNat) clients.length).2 ⟨0, by omega, rfl⟩
      rw [h, Nat.zero_testBit] at h1
      cases h1
  · intro h; rw [h]; rfl
theorem sitL_zero {Dist : List (List Int)} {clients : List Int} : (sitL Dist clients clients.length).length = 0 ↔ clients.length = 0 := by
  constructor
  · intro h
    by_cases e : clients.length = 0
    · exact e
    · have h1 := (sitL_mem (Dist := Dist) (clients := clients) (y := argM (Dist.getD (clients.getD 0 0).toNat [])) clients.length).2 ⟨0, by omega, rfl⟩
      rw [List.eq_nil_of_length_eq_zero h] at h1
      cases h1
  · intro h; rw [h]; rfl
theorem sitesOf_len {Dist : List (List Int)} {clients : List Int} : (sitesOf Dist clients).length ≤ clients.length + 1 := by
  unfold sitesOf
  split
  · simp
  · have := sitL_len (Dist := Dist) (clients := clients) clients.length; omega
theorem all_eq (n : Nat) : members (fun k => (((1 : Int) * 2 ^ ((n : Int).toNat)) - 1).toNat.testBit k) (n : Int).toNat = allN n := by
  rw [one_shl, Int.toNat_natCast, ← allN_bits]
  refine members_congr fun k _ => ?_
  congr 1
  have := Nat.two_pow_pos n
  omega
abbrev slices_Min_int_int__JJ0 (xs : List Int) (m : Int) (i : Int) : Prop := (1 ≤ i) ∧ (i ≤ (xs.length : Int)) ∧ (m = minTo xs i.toNat)
abbrev slices_Min_int_int__mJ0 (xs : List Int) (m : Int) (i : Int) : Nat := (xs.length - i).toNat
def slices_Min_int_int__C (f : FuncId) (ds : List D) : Orc := .no
def slices_Min_int_int__A (xs : List Int) : Ann := .two (.none) (.two (.two (.none) (.goF (.none))) (.two (.none) (.two (.two (.none) (.loop (cut2 (fun (m : Int) (i : Int) => slices_Min_int_int__JJ0 xs m i) (fun (m : Int) (i : Int) => [(0, .d false (.sl (.ints xs))), (3, .d true (.int .i64 m)), (4, .d true (.int .i64 i))]) (fun (m : Int) (i : Int) => [])) (fun g => slices_Min_int_int__mJ0 xs g.1 g.2) (fun _ => .none))) (.none))))
def slices_Min_int_int__P (xs : List Int) : Prop :=
  ((decide ((xs.length : Int) < 1)) = false) ∧ ((0 : Int) ≤ 0) ∧ ((0 : Int) < xs.length) ∧ (0 < xs.length) ∧ ((∃ m' : Int, ∃ i' : Int, (slices_Min_int_int__JJ0 xs m' i') ∧ (xs = xs) ∧ ((xs.getD 0 0) = m') ∧ ((1 : Int) = i')) ∧ (∀ m : Int, ∀ i : Int, (slices_Min_int_int__JJ0 xs m i) → (((decide (i < (xs.length : Int))) = true → ((0 : Int) ≤ i) ∧ ((i : Int) < xs.length) ∧ (i.toNat < xs.length) ∧ (-9223372036854775808 ≤ (i + 1) ∧ (i + 1) ≤ 9223372036854775807) ∧ (∃ m' : Int, ∃ i' : Int, (slices_Min_int_int__JJ0 xs m' i') ∧ (slices_Min_int_int__mJ0 xs m' i' < slices_Min_int_int__mJ0 xs m i) ∧ (xs = xs) ∧ ((min m (xs.getD i.toNat 0)) = m') ∧ ((i + 1) = i'))) ∧ ((decide (i < (xs.length : Int))) = false → ((m = (minL xs)))))))
theorem slices_Min_int_int__vc (xs : List Int) (hp : 0 < xs.length) (w_xs : (xs.length : Int) ≤ 9223372036854775807) : slices_Min_int_int__P xs := by
  unfold slices_Min_int_int__P
  refine ⟨?_, ?_, ?_, ?_, ?_, ?_⟩
  · exact decide_eq_false (by omega)
  · first | omega | rfl | (intro hg; simp only [nrmT] at hg; omega) | (intro g1 g2; simp [g1, g2]; done) | (intro g1; simp at g1 ⊢; simp [g1]; done) | (simp only [nrmT] at *; omega) | (simp at * <;> omega) | (simp_all <;> omega) | (simp_all; done)
  · first | omega | rfl | (intro hg; simp only [nrmT] at hg; omega) | (intro g1 g2; simp [g1, g2]; done) | (intro g1; simp at g1 ⊢; simp [g1]; done) | (simp only [nrmT] at *; omega) | (simp at * <;> omega) | (simp_all <;> omega) | (simp_all; done)
  · first | omega | rfl | (intro hg; simp only [nrmT] at hg; omega) | (intro g1 g2; simp [g1, g2]; done) | (intro g1; simp at g1 ⊢; simp [g1]; done) | (simp only [nrmT] at *; omega) | (simp at * <;> omega) | (simp_all <;> omega) | (simp_all; done)
  · refine ⟨(xs.getD 0 0), 1, ?_⟩
    refine ⟨?_, rfl, rfl, rfl⟩
    · refine ⟨?_, ?_, ?_⟩
      · first | omega | rfl | (intro hg; simp only [nrmT] at hg; omega) | (intro g1 g2; simp [g1, g2]; done) | (intro g1; simp at g1 ⊢; simp [g1]; done) | (simp only [nrmT] at *; omega) | (simp at * <;> omega) | (simp_all <;> omega) | (simp_all; done)
      · first | omega | rfl | (intro hg; simp only [nrmT] at hg; omega) | (intro g1 g2; simp [g1, g2]; done) | (intro g1; simp at g1 ⊢; simp [g1]; done) | (simp only [nrmT] at *; omega) | (simp at * <;> omega) | (simp_all <;> omega) | (simp_all; done)
      · show _ = min (xs.getD 0 0) (xs.getD 0 0)
        omega
  · intro m i hJ
    obtain ⟨h1, h2, h3⟩ := hJ
    refine ⟨?_, ?_⟩
    · intro b1
      try simp only [nrmT] at b1
      refine ⟨?_, ?_, ?_, ?_, ?_⟩
      · first | omega | rfl | (intro hg; simp only [nrmT] at hg; omega) | (intro g1 g2; simp [g1, g2]; done) | (intro g1; simp at g1 ⊢; simp [g1]; done) | (simp only [nrmT] at *; omega) | (simp at * <;> omega) | (simp_all <;> omega) | (simp_all; done)
      · first | omega | rfl | (intro hg; simp only [nrmT] at hg; omega) | (intro g1 g2; simp [g1, g2]; done) | (intro g1; simp at g1 ⊢; simp [g1]; done) | (simp only [nrmT] at *; omega) | (simp at * <;> omega) | (simp_all <;> omega) | (simp_all; done)
      · first | omega | rfl | (intro hg; simp only [nrmT] at hg; omega) | (intro g1 g2; simp [g1, g2]; done) | (intro g1; simp at g1 ⊢; simp [g1]; done) | (simp only [nrmT] at *; omega) | (simp at * <;> omega) | (simp_all <;> omega) | (simp_all; done)
      · first | omega | rfl | (intro hg; simp only [nrmT] at hg; omega) | (intro g1 g2; simp [g1, g2]; done) | (intro g1; simp at g1 ⊢; simp [g1]; done) | (simp only [nrmT] at *; omega) | (simp at * <;> omega) | (simp_all <;> omega) | (simp_all; done)
      · refine ⟨(min m (xs.getD i.toNat 0)), (i + 1), ?_⟩
        refine ⟨?_, ?_, rfl, rfl, rfl⟩
        · refine ⟨?_, ?_, ?_⟩
          · first | omega | rfl | (intro hg; simp only [nrmT] at hg; omega) | (intro g1 g2; simp [g1, g2]; done) | (intro g1; simp at g1 ⊢; simp [g1]; done) | (simp only [nrmT] at *; omega) | (simp at * <;> omega) | (simp_all <;> omega) | (simp_all; done)
          · first | omega | rfl | (intro hg; simp only [nrmT] at hg; omega) | (intro g1 g2; simp [g1, g2]; done) | (intro g1; simp at g1 ⊢; simp [g1]; done) | (simp only [nrmT] at *; omega) | (simp at * <;> omega) | (simp_all <;> omega) | (simp_all; done)
          · rw [h3, show (i + 1).toNat = i.toNat + 1 by omega, minTo_succ]
        · first | (show _ < _; omega) | (simp only [slices_Min_int_int__mJ0]; omega) | (simp only [slices_Min_int_int__mJ0] at *; simp at *; omega)
    · intro b2
      try simp only [nrmT] at b2
      unfold minL; rw [h3, show i.toNat = xs.length by omega]
theorem slices_Min_int_int__pc (xs : List Int) (hp : 0 < xs.length) : PC Try.prog 191 [.sl (.ints xs)] (.one (.d (.int .i64 (minL xs)))) :=
  pc_wf @Try.call191 fun hw => pc_by (by kernel_rfl) Try.func191 @Try.call191 (by kernel_rfl) slices_Min_int_int__C (slices_Min_int_int__A xs) (by kernel_rfl) (slices_Min_int_int__vc xs hp hw.1) (by kernel_rfl)
def slices_Min_int_int__orc : List D → Orc := orcN [some .ints] fun ds => match ds with
  | [.sl (.ints xs)] => some (.one (.d (.int .i64 (minL xs))))
  | _ => none
abbrev s_l5Nearest_JJ0 (Open : List Int) (Dist : List (List Int)) (clients : List Int) (out : List Int) (i : Int) : Prop := (0 ≤ i) ∧ (i ≤ (clients.length : Int)) ∧ (out = sitL Dist clients i.toNat)
abbrev s_l5Nearest_mJ0 (Open : List Int) (Dist : List (List Int)) (clients : List Int) (out : List Int) (i : Int) : Nat := (clients.length - i).toNat
def s_l5Nearest_C (f : FuncId) (ds : List D) : Orc := bif Nat.beq f 187 then s_l2Bits_orc ds else bif Nat.beq f 113 then s_l2Site_orc ds else bif Nat.beq f 138 then s_l1Put_orc ds else .no
def s_l5Nearest_A (Open : List Int) (Dist : List (List Int)) (clients : List Int) : Ann := .two (.none) (.two (.reg [(0, .frz)]) (.two (.none) (.two (.two (.none) (.loop (cut2 (fun (out : List Int) (i : Int) => s_l5Nearest_JJ0 Open Dist clients out i) (fun (out : List Int) (i : Int) => [(1, .d false (.sl (.ints clients))), (2, .ptr 2 0), (5, .d true (.sl (.ints out))), (6, .d true (.sl (.ints (members (fun k => (((1 : Int) * 2 ^ ((Open.length : Int).toNat)) - 1).toNat.testBit k) (Open.length : Int).toNat)))), (7, .d true (.int .i64 i))]) (fun (out : List Int) (i : Int) => [(2, .box 44 [.d false (.sl (.ints Open)), .d false (.sl (.rows Dist))])])) (fun g => s_l5Nearest_mJ0 Open Dist clients g.1 g.2) (fun _ => .none))) (.none))))
def s_l5Nearest_P (Open : List Int) (Dist : List (List Int)) (clients : List Int) : Prop :=
  (true = true) ∧ ((0 : Int) ≤ 1) ∧ ((0 : Int) ≤ (Open.length : Int)) ∧ ((0 : Int) ≤ ((1 : Int) * 2 ^ ((Open.length : Int).toNat)) ∧ (((1 : Int) * 2 ^ ((Open.length : Int).toNat)) : Int) ≤ 9223372036854775807) ∧ (-9223372036854775808 ≤ (((1 : Int) * 2 ^ ((Open.length : Int).toNat)) - 1) ∧ (((1 : Int) * 2 ^ ((Open.length : Int).toNat)) - 1) ≤ 9223372036854775807) ∧ (PC Try.prog 187 [.int .i64 (Open.length : Int), .int .i64 (((1 : Int) * 2 ^ ((Open.length : Int).toNat)) - 1)] (.one (.d (.sl (.ints (members (fun k => (((1 : Int) * 2 ^ ((Open.length : Int).toNat)) - 1).toNat.testBit k) (Open.length : Int).toNat)))))) ∧ ((∃ out' : List Int, ∃ i' : Int, (s_l5Nearest_JJ0 Open Dist clients out' i') ∧ (clients = clients) ∧ ([] = out') ∧ ((members (fun k => (((1 : Int) * 2 ^ ((Open.length : Int).toNat)) - 1).toNat.testBit k) (Open.length : Int).toNat) = (members (fun k => (((1 : Int) * 2 ^ ((Open.length : Int).toNat)) - 1).toNat.testBit k) (Open.length : Int).toNat)) ∧ ((0 : Int) = i') ∧ (Open = Open) ∧ (Dist = Dist)) ∧ (∀ out : List Int, ∀ i : Int, (s_l5Nearest_JJ0 Open Dist clients out i) → (((decide (i < (clients.length : Int))) = true → (true = true) ∧ ((0 : Int) ≤ i) ∧ ((i : Int) < clients.length) ∧ (i.toNat < clients.length) ∧ (PC Try.prog 113 [.agg [.sl (.ints Open), .sl (.rows Dist)], .int .i64 (clients.getD i.toNat 0), .sl (.ints (members (fun k => (((1 : Int) * 2 ^ ((Open.length : Int).toNat)) - 1).toNat.testBit k) (Open.length : Int).toNat))] (.one (.d (.int .i64 (siteTo (Dist.getD (clients.getD i.toNat 0).toNat []) (members (fun k => (((1 : Int) * 2 ^ ((Open.length : Int).toNat)) - 1).toNat.testBit k) (Open.length : Int).toNat) (members (fun k => (((1 : Int) * 2 ^ ((Open.length : Int).toNat)) - 1).toNat.testBit k) (Open.length : Int).toNat).length))))) ∧ (PCs Try.prog 138 [.sl (.ints out), .int .i64 (siteTo (Dist.getD (clients.getD i.toNat 0).toNat []) (members (fun k => (((1 : Int) * 2 ^ ((Open.length : Int).toNat)) - 1).toNat.testBit k) (Open.length : Int).toNat) (members (fun k => (((1 : Int) * 2 ^ ((Open.length : Int).toNat)) - 1).toNat.testBit k) (Open.length : Int).toNat).length)] 0 (.sl (.ints (putL out (siteTo (Dist.getD (clients.getD i.toNat 0).toNat []) (members (fun k => (((1 : Int) * 2 ^ ((Open.length : Int).toNat)) - 1).toNat.testBit k) (Open.length : Int).toNat) (members (fun k => (((1 : Int) * 2 ^ ((Open.length : Int).toNat)) - 1).toNat.testBit k) (Open.length : Int).toNat).length))))) ∧ (-9223372036854775808 ≤ (i + 1) ∧ (i + 1) ≤ 9223372036854775807) ∧ (∃ out' : List Int, ∃ i' : Int, (s_l5Nearest_JJ0 Open Dist clients out' i') ∧ (s_l5Nearest_mJ0 Open Dist clients out' i' < s_l5Nearest_mJ0 Open Dist clients out i) ∧ (clients = clients) ∧ ((putL out (siteTo (Dist.getD (clients.getD i.toNat 0).toNat []) (members (fun k => (((1 : Int) * 2 ^ ((Open.length : Int).toNat)) - 1).toNat.testBit k) (Open.length : Int).toNat) (members (fun k => (((1 : Int) * 2 ^ ((Open.length : Int).toNat)) - 1).toNat.testBit k) (Open.length : Int).toNat).length)) = out') ∧ ((members (fun k => (((1 : Int) * 2 ^ ((Open.length : Int).toNat)) - 1).toNat.testBit k) (Open.length : Int).toNat) = (members (fun k => (((1 : Int) * 2 ^ ((Open.length : Int).toNat)) - 1).toNat.testBit k) (Open.length : Int).toNat)) ∧ ((i + 1) = i') ∧ (Open = Open) ∧ (Dist = Dist))) ∧ ((decide (i < (clients.length : Int))) = false → ((((out.length : Int) == 0) = true → (((1 : Nat) = 1) ∧ (([0] : List Int) = (sitesOf Dist clients)))) ∧ (((out.length : Int) == 0) = false → (((out : List Int) = (sitesOf Dist clients)))))))))
theorem s_l5Nearest_vc (Open : List Int) (Dist : List (List Int)) (clients : List Int) (hf : goodField Open Dist = true) (hc : ∀ c ∈ clients, 0 ≤ c ∧ c < (Dist.length : Int)) (hl : clients.length ≤ 7) (w_Open : (Open.length : Int) ≤ 9223372036854775807) (w_Dist : (Dist.length : Int) ≤ 9223372036854775807) (v_Dist : ∀ x9 ∈ Dist, (x9.length : Int) ≤ 9223372036854775807) (w_clients : (clients.length : Int) ≤ 9223372036854775807) : s_l5Nearest_P Open Dist clients := by
  unfold s_l5Nearest_P
  obtain ⟨g1, g2, g3⟩ := gf_open hf
  have p7 := pow8 (n := Open.length) (by omega)
  have pp := Nat.two_pow_pos Open.length
  have e0 := one_shl Open.length
  refine ⟨rfl, ?_, ?_, ?_, ?_, ?_, ?_, ?_⟩
  · first | omega | rfl | (intro hg; simp only [nrmT] at hg; omega) | (intro g1 g2; simp [g1, g2]; done) | (intro g1; simp at g1 ⊢; simp [g1]; done) | (simp only [nrmT] at *; omega) | (simp at * <;> omega) | (simp_all <;> omega) | (simp_all; done)
  · first | omega | rfl | (intro hg; simp only [nrmT] at hg; omega) | (intro g1 g2; simp [g1, g2]; done) | (intro g1; simp at g1 ⊢; simp [g1]; done) | (simp only [nrmT] at *; omega) | (simp at * <;> omega) | (simp_all <;> omega) | (simp_all; done)
  · rw [e0]
    generalize 2 ^ Open.length = M at *
    omega
  · rw [e0]
    generalize 2 ^ Open.length = M at *
    omega
  · refine s_l2Bits_pc (Open.length : Int) (((1 : Int) * 2 ^ ((Open.length : Int).toNat)) - 1) ?_ ?_
    · first | omega | rfl | (intro hg; simp only [nrmT] at hg; omega) | (intro g1 g2; simp [g1, g2]; done) | (intro g1; simp at g1 ⊢; simp [g1]; done) | (simp only [nrmT] at *; omega) | (simp at * <;> omega) | (simp_all <;> omega) | (simp_all; done)
    · rw [e0]
      generalize 2 ^ Open.length = M at *
      omega
  · refine ⟨([]), 0, ?_⟩
    refine ⟨?_, rfl, ?_, rfl, rfl, rfl, rfl⟩
    · refine ⟨?_, ?_, ?_⟩
      · first | omega | rfl | (intro hg; simp only [nrmT] at hg; omega) | (intro g1 g2; simp [g1, g2]; done) | (intro g1; simp at g1 ⊢; simp [g1]; done) | (simp only [nrmT] at *; omega) | (simp at * <;> omega) | (simp_all <;> omega) | (simp_all; done)
      · first | omega | rfl | (intro hg; simp only [nrmT] at hg; omega) | (intro g1 g2; simp [g1, g2]; done) | (intro g1; simp at g1 ⊢; simp [g1]; done) | (simp only [nrmT] at *; omega) | (simp at * <;> omega) | (simp_all <;> omega) | (simp_all; done)
      · first | omega | rfl | (intro hg; simp only [nrmT] at hg; omega) | (intro g1 g2; simp [g1, g2]; done) | (intro g1; simp at g1 ⊢; simp [g1]; done) | (simp only [nrmT] at *; omega) | (simp at * <;> omega) | (simp_all <;> omega) | (simp_all; done)
    · first | omega | rfl | (intro hg; simp only [nrmT] at hg; omega) | (intro g1 g2; simp [g1, g2]; done) | (intro g1; simp at g1 ⊢; simp [g1]; done) | (simp only [nrmT] at *; omega) | (simp at * <;> omega) | (simp_all <;> omega) | (simp_all; done)
  · intro out i hJ
    obtain ⟨h1, h2, h3⟩ := hJ
    refine ⟨?_, ?_⟩
    · intro b1
      try simp only [nrmT] at b1
      refine ⟨rfl, ?_, ?_, ?_, ?_, ?_, ?_, ?_⟩
      · first | omega | rfl | (intro hg; simp only [nrmT] at hg; omega) | (intro g1 g2; simp [g1, g2]; done) | (intro g1; simp at g1 ⊢; simp [g1]; done) | (simp only [nrmT] at *; omega) | (simp at * <;> omega) | (simp_all <;> omega) | (simp_all; done)
      · first | omega | rfl | (intro hg; simp only [nrmT] at hg; omega) | (intro g1 g2; simp [g1, g2]; done) | (intro g1; simp at g1 ⊢; simp [g1]; done) | (simp only [nrmT] at *; omega) | (simp at * <;> omega) | (simp_all <;> omega) | (simp_all; done)
      · first | omega | rfl | (intro hg; simp only [nrmT] at hg; omega) | (intro g1 g2; simp [g1, g2]; done) | (intro g1; simp at g1 ⊢; simp [g1]; done) | (simp only [nrmT] at *; omega) | (simp at * <;> omega) | (simp_all <;> omega) | (simp_all; done)
      · refine s_l2Site_pc Open Dist (clients.getD i.toNat 0) (members (fun k => (((1 : Int) * 2 ^ ((Open.length : Int).toNat)) - 1).toNat.testBit k) (Open.length : Int).toNat) ?_ ?_
        · rw [all_eq, hf, all_rising, allN_len, decide_eq_true (by omega)]; rfl
        · have hcc := hc _ (getD_mem (d := 0) (show i.toNat < clients.length by omega))
          have ai := argM_in hf hcc
          have ix := arg_idx (row := Dist.getD (clients.getD i.toNat 0).toNat []) (by omega)
          exact hcc
      · refine s_l1Put_pc out (siteTo (Dist.getD (clients.getD i.toNat 0).toNat []) (members (fun k => (((1 : Int) * 2 ^ ((Open.length : Int).toNat)) - 1).toNat.testBit k) (Open.length : Int).toNat) (members (fun k => (((1 : Int) * 2 ^ ((Open.length : Int).toNat)) - 1).toNat.testBit k) (Open.length : Int).toNat).length) ?_
        · rw [h3]; have := sitL_len (Dist := Dist) (clients := clients) i.toNat; omega
      · first | omega | rfl | (intro hg; simp only [nrmT] at hg; omega) | (intro g1 g2; simp [g1, g2]; done) | (intro g1; simp at g1 ⊢; simp [g1]; done) | (simp only [nrmT] at *; omega) | (simp at * <;> omega) | (simp_all <;> omega) | (simp_all; done)
      · refine ⟨(putL out (siteTo (Dist.getD (clients.getD i.toNat 0).toNat []) (members (fun k => (((1 : Int) * 2 ^ ((Open.length : Int).toNat)) - 1).toNat.testBit k) (Open.length : Int).toNat) (members (fun k => (((1 : Int) * 2 ^ ((Open.length : Int).toNat)) - 1).toNat.testBit k) (Open.length : Int).toNat).length)), (i + 1), ?_⟩
        refine ⟨?_, ?_, rfl, rfl, rfl, rfl, rfl, rfl⟩
        · refine ⟨?_, ?_, ?_⟩
          · first | omega | rfl | (intro hg; simp only [nrmT] at hg; omega) | (intro g1 g2; simp [g1, g2]; done) | (intro g1; simp at g1 ⊢; simp [g1]; done) | (simp only [nrmT] at *; omega) | (simp at * <;> omega) | (simp_all <;> omega) | (simp_all; done)
          · first | omega | rfl | (intro hg; simp only [nrmT] at hg; omega) | (intro g1 g2; simp [g1, g2]; done) | (intro g1; simp at g1 ⊢; simp [g1]; done) | (simp only [nrmT] at *; omega) | (simp at * <;> omega) | (simp_all <;> omega) | (simp_all; done)
          · have hcc := hc _ (getD_mem (d := 0) (show i.toNat < clients.length by omega))
            have ai := argM_in hf hcc
            have ix := arg_idx (row := Dist.getD (clients.getD i.toNat 0).toNat []) (by omega)
            have e : sitL Dist clients (i.toNat + 1) = putL (sitL Dist clients i.toNat) (argM (Dist.getD (clients.getD i.toNat 0).toNat [])) := rfl
            rw [all_eq, allN_len, site_arg (by omega), show (i + 1).toNat = i.toNat + 1 by omega, e, h3]
            unfold argM
            rw [ai.2.2]
        · first | (show _ < _; omega) | (simp only [s_l5Nearest_mJ0]; omega) | (simp only [s_l5Nearest_mJ0] at *; simp at *; omega)
    · intro b2
      try simp only [nrmT] at b2
      refine ⟨?_, ?_⟩
      · intro b3
        try simp only [nrmT] at b3
        refine ⟨rfl, ?_⟩
        · rw [h3, show i.toNat = clients.length by omega] at b3
          unfold sitesOf
          rw [if_pos ((sitL_zero (Dist := Dist)).1 (by omega))]
      · intro b4
        try simp only [nrmT] at b4
        have e : out = sitL Dist clients clients.length := by rw [h3, show i.toNat = clients.length by omega]
        rw [e] at b4 ⊢
        unfold sitesOf
        rw [if_neg (fun h => b4 (by rw [sitL_zero.2 h]; rfl))]
theorem s_l5Nearest_pc (Open : List Int) (Dist : List (List Int)) (clients : List Int) (hf : goodField Open Dist = true) (hc : ∀ c ∈ clients, 0 ≤ c ∧ c < (Dist.length : Int)) (hl : clients.length ≤ 7) : PC Try.prog 144 [.agg [.sl (.ints Open), .sl (.rows Dist)], .sl (.ints clients)] (.one (.d (.sl (.ints (sitesOf Dist clients))))) :=
  pc_wf @Try.call144 fun hw => pc_by (by kernel_rfl) Try.func144 @Try.call144 (by kernel_rfl) s_l5Nearest_C (s_l5Nearest_A Open Dist clients) (by kernel_rfl) (s_l5Nearest_vc Open Dist clients hf hc hl hw.1.1 hw.1.2.1.1 hw.1.2.1.2 hw.2.1) (by kernel_rfl)
def s_l5Nearest_orc : List D → Orc := orcN [none, some .ints] fun ds => match ds with
  | [.agg [.sl (.ints Open), .sl (.rows Dist)], .sl (.ints clients)] => some (.one (.d (.sl (.ints (sitesOf Dist clients)))))
  | _ => none
abbrev i_Field_sitesOf_JJ0 (Open : List Int) (Dist : List (List Int)) (clients : List Int) (out : Int) (i : Int) : Prop := (0 ≤ i) ∧ (i ≤ (clients.length : Int)) ∧ (out = ((sitB Dist clients i.toNat : Nat) : Int))
abbrev i_Field_sitesOf_mJ0 (Open : List Int) (Dist : List (List Int)) (clients : List Int) (out : Int) (i : Int) : Nat := (clients.length - i).toNat
def i_Field_sitesOf_C (f : FuncId) (ds : List D) : Orc := bif Nat.beq f 191 then slices_Min_int_int__orc ds else bif Nat.beq f 116 then slices_Index_int_int__orc ds else bif Nat.beq f 151 then i_bag_list_orc ds else .no
def i_Field_sitesOf_A (Open : List Int) (Dist : List (List Int)) (clients : List Int) : Ann := .two (.none) (.two (.none) (.two (.two (.none) (.loop (cut2 (fun (out : Int) (i : Int) => i_Field_sitesOf_JJ0 Open Dist clients out i) (fun (out : Int) (i : Int) => [(2, .ptr 2 0), (5, .d true (.int .u64 out)), (8, .d false (.sl (.ints clients))), (9, .d true (.int .i64 (clients.length : Int))), (10, .d true (.int .i64 i))]) (fun (out : Int) (i : Int) => [(2, .box 44 [.d false (.sl (.ints Open)), .d false (.sl (.rows Dist))])])) (fun g => i_Field_sitesOf_mJ0 Open Dist clients g.1 g.2) (fun _ => .none))) (.none)))
def i_Field_sitesOf_P (Open : List Int) (Dist : List (List Int)) (clients : List Int) : Prop :=
  ((∃ out' : Int, ∃ i' : Int, (i_Field_sitesOf_JJ0 Open Dist clients out' i') ∧ ((0 : Int) = out') ∧ (clients = clients) ∧ ((clients.length : Int) = (clients.length : Int)) ∧ ((0 : Int) = i') ∧ (Open = Open) ∧ (Dist = Dist)) ∧ (∀ out : Int, ∀ i : Int, (i_Field_sitesOf_JJ0 Open Dist clients out i) → (((decide (i < (clients.length : Int))) = true → ((0 : Int) ≤ i) ∧ ((i : Int) < clients.length) ∧ (i.toNat < clients.length) ∧ (true = true) ∧ ((0 : Int) ≤ (clients.getD i.toNat 0)) ∧ (((clients.getD i.toNat 0) : Int) < Dist.length) ∧ ((clients.getD i.toNat 0).toNat < Dist.length) ∧ ((0 : Int) ≤ (clients.getD i.toNat 0)) ∧ (((clients.getD i.toNat 0) : Int) < Dist.length) ∧ ((clients.getD i.toNat 0).toNat < Dist.length) ∧ (PC Try.prog 191 [.sl (.ints (Dist.getD ((clients.getD i.toNat 0).toNat) []))] (.one (.d (.int .i64 (minL (Dist.getD ((clients.getD i.toNat 0).toNat) [])))))) ∧ (PC Try.prog 116 [.sl (.ints (Dist.getD ((clients.getD i.toNat 0).toNat) [])), .int .i64 (minL (Dist.getD ((clients.getD i.toNat 0).toNat) []))] (.one (.d (.int .i64 (idxI (fun y => (minL (Dist.getD ((clients.getD i.toNat 0).toNat) [])) == y) (Dist.getD ((clients.getD i.toNat 0).toNat) [])))))) ∧ ((0 : Int) ≤ 1) ∧ ((0 : Int) ≤ (idxI (fun y => (minL (Dist.getD ((clients.getD i.toNat 0).toNat) [])) == y) (Dist.getD ((clients.getD i.toNat 0).toNat) []))) ∧ ((0 : Int) ≤ ((1 : Int) * 2 ^ ((idxI (fun y => (minL (Dist.getD ((clients.getD i.toNat 0).toNat) [])) == y) (Dist.getD ((clients.getD i.toNat 0).toNat) [])).toNat)) ∧ (((1 : Int) * 2 ^ ((idxI (fun y => (minL (Dist.getD ((clients.getD i.toNat 0).toNat) [])) == y) (Dist.getD ((clients.getD i.toNat 0).toNat) [])).toNat)) : Int) ≤ 18446744073709551615) ∧ ((0 : Int) ≤ out ∧ (out : Int) ≤ 18446744073709551615) ∧ ((0 : Int) ≤ ((1 : Int) * 2 ^ ((idxI (fun y => (minL (Dist.getD ((clients.getD i.toNat 0).toNat) [])) == y) (Dist.getD ((clients.getD i.toNat 0).toNat) [])).toNat)) ∧ (((1 : Int) * 2 ^ ((idxI (fun y => (minL (Dist.getD ((clients.getD i.toNat 0).toNat) [])) == y) (Dist.getD ((clients.getD i.toNat 0).toNat) [])).toNat)) : Int) ≤ 18446744073709551615) ∧ (-9223372036854775808 ≤ (i + 1) ∧ (i + 1) ≤ 9223372036854775807) ∧ (∃ out' : Int, ∃ i' : Int, (i_Field_sitesOf_JJ0 Open Dist clients out' i') ∧ (i_Field_sitesOf_mJ0 Open Dist clients out' i' < i_Field_sitesOf_mJ0 Open Dist clients out i) ∧ (((out.toNat ||| ((1 : Int) * 2 ^ ((idxI (fun y => (minL (Dist.getD ((clients.getD i.toNat 0).toNat) [])) == y) (Dist.getD ((clients.getD i.toNat 0).toNat) [])).toNat)).toNat : Nat) : Int) = out') ∧ (clients = clients) ∧ ((clients.length : Int) = (clients.length : Int)) ∧ ((i + 1) = i') ∧ (Open = Open) ∧ (Dist = Dist))) ∧ ((decide (i < (clients.length : Int))) = false → (((out == 0) = true → (PC Try.prog 151 [.int .u64 1] (.one (.own 3 (.ints (members (fun k => (1 : Int).toNat.testBit k) 62))))) ∧ (((members (fun k => (1 : Int).toNat.testBit k) 62).length = (members (fun k => (1 : Int).toNat.testBit k) 62).length) ∧ ((members (fun k => (1 : Int).toNat.testBit k) 62 : List Int) = sitesOf Dist clients))) ∧ ((out == 0) = false → (PC Try.prog 151 [.int .u64 out] (.one (.own 3 (.ints (members (fun k => out.toNat.testBit k) 62))))) ∧ (((members (fun k => out.toNat.testBit k) 62).length = (members (fun k => out.toNat.testBit k) 62).length) ∧ ((members (fun k => out.toNat.testBit k) 62 : List Int) = sitesOf Dist clients))))))))
theorem i_Field_sitesOf_vc (Open : List Int) (Dist : List (List Int)) (clients : List Int) (hf : goodField Open Dist = true) (hc : ∀ c ∈ clients, 0 ≤ c ∧ c < (Dist.length : Int)) (hl : clients.length ≤ 7) (w_Open : (Open.length : Int) ≤ 9223372036854775807) (w_Dist : (Dist.length : Int) ≤ 9223372036854775807) (v_Dist : ∀ x9 ∈ Dist, (x9.length : Int) ≤ 9223372036854775807) (w_clients : (clients.length : Int) ≤ 9223372036854775807) : i_Field_sitesOf_P Open Dist clients := by
  unfold i_Field_sitesOf_P
  obtain ⟨g1, g2, g3⟩ := gf_open hf
  have p7 := pow8 (n := Open.length) (by omega)
  have pp := Nat.two_pow_pos Open.length
  have e0 := one_shl Open.length
  refine ⟨?_, ?_⟩
  · refine ⟨0, 0, ?_⟩
    refine ⟨?_, rfl, rfl, rfl, rfl, rfl, rfl⟩
    · refine ⟨?_, ?_, ?_⟩
      · first | omega | rfl | (intro hg; simp only [nrmT] at hg; omega) | (intro g1 g2; simp [g1, g2]; done) | (intro g1; simp at g1 ⊢; simp [g1]; done) | (simp only [nrmT] at *; omega) | (simp at * <;> omega) | (simp_all <;> omega) | (simp_all; done)
      · first | omega | rfl | (intro hg; simp only [nrmT] at hg; omega) | (intro g1 g2; simp [g1, g2]; done) | (intro g1; simp at g1 ⊢; simp [g1]; done) | (simp only [nrmT] at *; omega) | (simp at * <;> omega) | (simp_all <;> omega) | (simp_all; done)
      · first | omega | rfl | (intro hg; simp only [nrmT] at hg; omega) | (intro g1 g2; simp [g1, g2]; done) | (intro g1; simp at g1 ⊢; simp [g1]; done) | (simp only [nrmT] at *; omega) | (simp at * <;> omega) | (simp_all <;> omega) | (simp_all; done)
  · intro out i hJ
    obtain ⟨h1, h2, h3⟩ := hJ
    refine ⟨?_, ?_⟩
    · intro b1
      try simp only [nrmT] at b1
      refine ⟨?_, ?_, ?_, rfl, ?_, ?_, ?_, ?_, ?_, ?_, ?_, slices_Index_int_int__pc (Dist.getD ((clients.getD i.toNat 0).toNat) []) (minL (Dist.getD ((clients.getD i.toNat 0).toNat) [])), ?_, ?_, ?_, ?_, ?_, ?_, ?_⟩
      · first | omega | rfl | (intro hg; simp only [nrmT] at hg; omega) | (intro g1 g2; simp [g1, g2]; done) | (intro g1; simp at g1 ⊢; simp [g1]; done) | (simp only [nrmT] at *; omega) | (simp at * <;> omega) | (simp_all <;> omega) | (simp_all; done)
      · first | omega | rfl | (intro hg; simp only [nrmT] at hg; omega) | (intro g1 g2; simp [g1, g2]; done) | (intro g1; simp at g1 ⊢; simp [g1]; done) | (simp only [nrmT] at *; omega) | (simp at * <;> omega) | (simp_all <;> omega) | (simp_all; done)
      · first | omega | rfl | (intro hg; simp only [nrmT] at hg; omega) | (intro g1 g2; simp [g1, g2]; done) | (intro g1; simp at g1 ⊢; simp [g1]; done) | (simp only [nrmT] at *; omega) | (simp at * <;> omega) | (simp_all <;> omega) | (simp_all; done)
      · have hcc := hc _ (getD_mem (d := 0) (show i.toNat < clients.length by omega))
        have ai := argM_in hf hcc
        have ix := arg_idx (row := Dist.getD (clients.getD i.toNat 0).toNat []) (by omega)
        omega
      · have hcc := hc _ (getD_mem (d := 0) (show i.toNat < clients.length by omega))
        have ai := argM_in hf hcc
        have ix := arg_idx (row := Dist.getD (clients.getD i.toNat 0).toNat []) (by omega)
        omega
      · have hcc := hc _ (getD_mem (d := 0) (show i.toNat < clients.length by omega))
        have ai := argM_in hf hcc
        have ix := arg_idx (row := Dist.getD (clients.getD i.toNat 0).toNat []) (by omega)
        omega
      · have hcc := hc _ (getD_mem (d := 0) (show i.toNat < clients.length by omega))
        have ai := argM_in hf hcc
        have ix := arg_idx (row := Dist.getD (clients.getD i.toNat 0).toNat []) (by omega)
        omega
      · have hcc := hc _ (getD_mem (d := 0) (show i.toNat < clients.length by omega))
        have ai := argM_in hf hcc
        have ix := arg_idx (row := Dist.getD (clients.getD i.toNat 0).toNat []) (by omega)
        omega
      · have hcc := hc _ (getD_mem (d := 0) (show i.toNat < clients.length by omega))
        have ai := argM_in hf hcc
        have ix := arg_idx (row := Dist.getD (clients.getD i.toNat 0).toNat []) (by omega)
        omega
      · refine slices_Min_int_int__pc (Dist.getD ((clients.getD i.toNat 0).toNat) []) ?_
        · have hcc := hc _ (getD_mem (d := 0) (show i.toNat < clients.length by omega))
          have ai := argM_in hf hcc
          have ix := arg_idx (row := Dist.getD (clients.getD i.toNat 0).toNat []) (by omega)
          omega
      · first | omega | rfl | (intro hg; simp only [nrmT] at hg; omega) | (intro g1 g2; simp [g1, g2]; done) | (intro g1; simp at g1 ⊢; simp [g1]; done) | (simp only [nrmT] at *; omega) | (simp at * <;> omega) | (simp_all <;> omega) | (simp_all; done)
      · have hcc := hc _ (getD_mem (d := 0) (show i.toNat < clients.length by omega))
        have ai := argM_in hf hcc
        have ix := arg_idx (row := Dist.getD (clients.getD i.toNat 0).toNat []) (by omega)
        rw [ix]; omega
      · have hcc := hc _ (getD_mem (d := 0) (show i.toNat < clients.length by omega))
        have ai := argM_in hf hcc
        have ix := arg_idx (row := Dist.getD (clients.getD i.toNat 0).toNat []) (by omega)
        rw [ix]
        have h7 := pow_le (x := argM (Dist.getD (clients.getD i.toNat 0).toNat [])) (m := 8) (by omega)
        have he : (2 : Nat) ^ 8 = 256 := by decide
        omega
      · have := sitB_lt hf hc i.toNat (by omega)
        omega
      · have hcc := hc _ (getD_mem (d := 0) (show i.toNat < clients.length by omega))
        have ai := argM_in hf hcc
        have ix := arg_idx (row := Dist.getD (clients.getD i.toNat 0).toNat []) (by omega)
        rw [ix]
        have h7 := pow_le (x := argM (Dist.getD (clients.getD i.toNat 0).toNat [])) (m := 8) (by omega)
        have he : (2 : Nat) ^ 8 = 256 := by decide
        omega
      · first | omega | rfl | (intro hg; simp only [nrmT] at hg; omega) | (intro g1 g2; simp [g1, g2]; done) | (intro g1; simp at g1 ⊢; simp [g1]; done) | (simp only [nrmT] at *; omega) | (simp at * <;> omega) | (simp_all <;> omega) | (simp_all; done)
      · refine ⟨((out.toNat ||| ((1 : Int) * 2 ^ ((idxI (fun y => (minL (Dist.getD ((clients.getD i.toNat 0).toNat) [])) == y) (Dist.getD ((clients.getD i.toNat 0).toNat) [])).toNat)).toNat : Nat) : Int), (i + 1), ?_⟩
        refine ⟨?_, ?_, rfl, rfl, rfl, rfl, rfl, rfl⟩
        · refine ⟨?_, ?_, ?_⟩
          · first | omega | rfl | (intro hg; simp only [nrmT] at hg; omega) | (intro g1 g2; simp [g1, g2]; done) | (intro g1; simp at g1 ⊢; simp [g1]; done) | (simp only [nrmT] at *; omega) | (simp at * <;> omega) | (simp_all <;> omega) | (simp_all; done)
          · first | omega | rfl | (intro hg; simp only [nrmT] at hg; omega) | (intro g1 g2; simp [g1, g2]; done) | (intro g1; simp at g1 ⊢; simp [g1]; done) | (simp only [nrmT] at *; omega) | (simp at * <;> omega) | (simp_all <;> omega) | (simp_all; done)
          · have hcc := hc _ (getD_mem (d := 0) (show i.toNat < clients.length by omega))
            have ai := argM_in hf hcc
            have ix := arg_idx (row := Dist.getD (clients.getD i.toNat 0).toNat []) (by omega)
            rw [ix, one_pow, show (i + 1).toNat = i.toNat + 1 by omega, h3, Int.toNat_natCast]; rfl
        · first | (show _ < _; omega) | (simp only [i_Field_sitesOf_mJ0]; omega) | (simp only [i_Field_sitesOf_mJ0] at *; simp at *; omega)
    · intro b2
      try simp only [nrmT] at b2
      refine ⟨?_, ?_⟩
      · intro b3
        try simp only [nrmT] at b3
        refine ⟨?_, rfl, ?_⟩
        · refine i_bag_list_pc 1 ?_
          · first | omega | rfl | (intro hg; simp only [nrmT] at hg; omega) | (intro g1 g2; simp [g1, g2]; done) | (intro g1; simp at g1 ⊢; simp [g1]; done) | (simp only [nrmT] at *; omega) | (simp at * <;> omega) | (simp_all <;> omega) | (simp_all; done)
        · have e : sitB Dist clients clients.length = 0 := by rw [show i.toNat = clients.length by omega] at h3; omega
          unfold sitesOf; rw [if_pos (sitB_zero.1 e)]; rfl
      · intro b4
        try simp only [nrmT] at b4
        refine ⟨?_, rfl, ?_⟩
        · refine i_bag_list_pc out ?_
          · have := sitB_lt hf hc i.toNat (by omega)
            omega
        · have e : out.toNat = sitB Dist clients clients.length := by rw [h3, show i.toNat = clients.length by omega, Int.toNat_natCast]
          rw [e, sit_same hf hc]
          unfold sitesOf
          rw [if_neg (fun h => b4 (by have := (sitB_zero (Dist := Dist)).2 h; omega))]
theorem i_Field_sitesOf_pc (Open : List Int) (Dist : List (List Int)) (clients : List Int) (hf : goodField Open Dist = true) (hc : ∀ c ∈ clients, 0 ≤ c ∧ c < (Dist.length : Int)) (hl : clients.length ≤ 7) : PC Try.prog 146 [.agg [.sl (.ints Open), .sl (.rows Dist)], .sl (.ints clients)] (.one (.own 3 (.ints (sitesOf Dist clients)))) :=
  pc_wf @Try.call146 fun hw => pc_by (by kernel_rfl) Try.func146 @Try.call146 (by kernel_rfl) i_Field_sitesOf_C (i_Field_sitesOf_A Open Dist clients) (by kernel_rfl) (i_Field_sitesOf_vc Open Dist clients hf hc hl hw.1.1 hw.1.2.1.1 hw.1.2.1.2 hw.2.1) (by kernel_rfl)
def i_Field_sitesOf_orc : List D → Orc := orcN [none, some .ints] fun ds => match ds with
  | [.agg [.sl (.ints Open), .sl (.rows Dist)], .sl (.ints clients)] => some (.one (.own 3 (.ints (sitesOf Dist clients))))
  | _ => none
def fsL (Open : List Int) (Dist : List (List Int)) (k : Int) : List Int := if (goodField Open Dist && inB k 1 (Open.length : Int)) = true then sitesOf Dist (fcRun Dist (min k.toNat Dist.length) []) else []
theorem fsL_len {Open : List Int} {Dist : List (List Int)} {k : Int} : (fsL Open Dist k).length ≤ 8 := by
  unfold fsL
  split
  · rename_i h
    rw [Bool.and_eq_true] at h
    obtain ⟨g1, g2, g3⟩ := gf_open h.1
    have h1 := sitesOf_len (Dist := Dist) (clients := fcRun Dist (min k.toNat Dist.length) [])
    rw [fcRun_len] at h1
    simp only [List.length_nil] at h1
    omega
  · simp
theorem fcRun_ok {Dist : List (List Int)} : ∀ n out, FcOk Dist out → out.length + n ≤ Dist.length → FcOk Dist (fcRun Dist n out)
  | 0, _, h, _ => h
  | n + 1, out, h, hl => fcRun_ok n _ (fcOk_app h (by omega)) (by rw [List.length_append, List.length_cons, List.length_nil]; omega)
def s_FarthestSites_C (f : FuncId) (ds : List D) : Orc := bif Nat.beq f 125 then s_l5Ask_orc ds else bif Nat.beq f 126 then s_l5Farthest_orc ds else bif Nat.beq f 144 then s_l5Nearest_orc ds else .no
def s_FarthestSites_A (Open : List Int) (Dist : List (List Int)) (k : Int) : Ann := .none
def s_FarthestSites_P (Open : List Int) (Dist : List (List Int)) (k : Int) : Prop :=
  (PC Try.prog 125 [.agg [.sl (.ints Open), .sl (.rows Dist)], .int .i64 k] (.one (.d (.bool (goodField Open Dist && inB k 1 (Open.length : Int)))))) ∧ (((!(goodField Open Dist && inB k 1 (Open.length : Int))) = true → (((0 : Nat) = 0) ∧ (([] : List Int) = (fsL Open Dist k)) ∧ (false = (goodField Open Dist && inB k 1 (Open.length : Int))))) ∧ ((!(goodField Open Dist && inB k 1 (Open.length : Int))) = false → (true = true) ∧ (PC Try.prog 126 [.agg [.sl (.ints Open), .sl (.rows Dist)], .int .i64 k] (.one (.d (.sl (.ints (fcRun Dist (min k.toNat Dist.length) [])))))) ∧ (PC Try.prog 144 [.agg [.sl (.ints Open), .sl (.rows Dist)], .sl (.ints (fcRun Dist (min k.toNat Dist.length) []))] (.one (.d (.sl (.ints (sitesOf Dist (fcRun Dist (min k.toNat Dist.length) []))))))) ∧ ((((sitesOf Dist (fcRun Dist (min k.toNat Dist.length) [])) : List Int) = (fsL Open Dist k)) ∧ (true = (goodField Open Dist && inB k 1 (Open.length : Int))))))
theorem s_FarthestSites_vc (Open : List Int) (Dist : List (List Int)) (k : Int)  (w_Open : (Open.length : Int) ≤ 9223372036854775807) (w_Dist : (Dist.length : Int) ≤ 9223372036854775807) (v_Dist : ∀ x9 ∈ Dist, (x9.length : Int) ≤ 9223372036854775807) : s_FarthestSites_P Open Dist k := by
  unfold s_FarthestSites_P
  refine ⟨s_l5Ask_pc Open Dist k, ?_, ?_⟩
  · intro b1
    try simp only [Bool.not_eq_true', Bool.not_eq_false', Bool.not_not] at b1
    refine ⟨rfl, ?_, ?_⟩
    · unfold fsL; rw [b1]; rfl
    · exact b1.symm
  · intro b2
    try simp only [Bool.not_eq_true', Bool.not_eq_false', Bool.not_not] at b2
    refine ⟨rfl, ?_, ?_, ?_, ?_⟩
    · refine s_l5Farthest_pc Open Dist k ?_ ?_
      · exact (Bool.and_eq_true _ _ ▸ b2 : _ ∧ _).1
      · exact inB_le (Bool.and_eq_true _ _ ▸ b2 : _ ∧ _).2
    · refine s_l5Nearest_pc Open Dist (fcRun Dist (min k.toNat Dist.length) []) ?_ ?_ ?_
      · exact (Bool.and_eq_true _ _ ▸ b2 : _ ∧ _).1
      · exact (fcRun_ok _ [] (fcOk_nil _) (by simp only [List.length_nil]; omega)).inR
      · obtain ⟨g1, g2, g3⟩ := gf_open (Bool.and_eq_true _ _ ▸ b2 : _ ∧ _).1
        rw [fcRun_len]
        simp only [List.length_nil]
        omega
    · unfold fsL; rw [if_pos b2]
    · exact b2.symm
theorem s_FarthestSites_pc (Open : List Int) (Dist : List (List Int)) (k : Int)  : PC Try.prog 78 [.agg [.sl (.ints Open), .sl (.rows Dist)], .int .i64 k] (.tup [.d (.sl (.ints (fsL Open Dist k))), .d (.bool (goodField Open Dist && inB k 1 (Open.length : Int)))]) :=
  pc_wf @Try.call78 fun hw => pc_by (by kernel_rfl) Try.func78 @Try.call78 (by kernel_rfl) s_FarthestSites_C (s_FarthestSites_A Open Dist k) (by kernel_rfl) (s_FarthestSites_vc Open Dist k hw.1.1 hw.1.2.1.1 hw.1.2.1.2) (by kernel_rfl)
def s_FarthestSites_orc : List D → Orc := orcN [none, none] fun ds => match ds with
  | [.agg [.sl (.ints Open), .sl (.rows Dist)], .int .i64 k] => some (.tup [.d (.sl (.ints (fsL Open Dist k))), .d (.bool (goodField Open Dist && inB k 1 (Open.length : Int)))])
  | _ => none
def i_FarthestSites_C (f : FuncId) (ds : List D) : Orc := bif Nat.beq f 127 then i_isMedianCase_orc ds else bif Nat.beq f 128 then i_Field_farthest_orc ds else bif Nat.beq f 146 then i_Field_sitesOf_orc ds else .no
def i_FarthestSites_A (Open : List Int) (Dist : List (List Int)) (k : Int) : Ann := .none
def i_FarthestSites_P (Open : List Int) (Dist : List (List Int)) (k : Int) : Prop :=
  (PC Try.prog 127 [.agg [.sl (.ints Open), .sl (.rows Dist)], .int .i64 k] (.one (.d (.bool (goodField Open Dist && inB k 1 (Open.length : Int)))))) ∧ (((!(goodField Open Dist && inB k 1 (Open.length : Int))) = true → (((fsL Open Dist k).length = 0) ∧ (false = (goodField Open Dist && inB k 1 (Open.length : Int))))) ∧ ((!(goodField Open Dist && inB k 1 (Open.length : Int))) = false → (true = true) ∧ (PC Try.prog 128 [.agg [.sl (.ints Open), .sl (.rows Dist)], .int .i64 k] (.one (.own 3 (.ints (fcRun Dist (min k.toNat Dist.length) []))))) ∧ ((fcRun Dist (min k.toNat Dist.length) []).length = (fcRun Dist (min k.toNat Dist.length) []).length) ∧ (PC Try.prog 146 [.agg [.sl (.ints Open), .sl (.rows Dist)], .sl (.ints (fcRun Dist (min k.toNat Dist.length) []))] (.one (.own 3 (.ints (sitesOf Dist (fcRun Dist (min k.toNat Dist.length) [])))))) ∧ (((sitesOf Dist (fcRun Dist (min k.toNat Dist.length) [])).length = (sitesOf Dist (fcRun Dist (min k.toNat Dist.length) [])).length) ∧ ((sitesOf Dist (fcRun Dist (min k.toNat Dist.length) []) : List Int) = fsL Open Dist k) ∧ (true = (goodField Open Dist && inB k 1 (Open.length : Int))))))
theorem i_FarthestSites_vc (Open : List Int) (Dist : List (List Int)) (k : Int)  (w_Open : (Open.length : Int) ≤ 9223372036854775807) (w_Dist : (Dist.length : Int) ≤ 9223372036854775807) (v_Dist : ∀ x9 ∈ Dist, (x9.length : Int) ≤ 9223372036854775807) : i_FarthestSites_P Open Dist k := by
  unfold i_FarthestSites_P
  refine ⟨i_isMedianCase_pc Open Dist k, ?_, ?_⟩
  · intro b1
    try simp only [Bool.not_eq_true', Bool.not_eq_false', Bool.not_not] at b1
    refine ⟨?_, ?_⟩
    · unfold fsL; rw [b1]; rfl
    · exact b1.symm
  · intro b2
    try simp only [Bool.not_eq_true', Bool.not_eq_false', Bool.not_not] at b2
    refine ⟨rfl, ?_, rfl, ?_, rfl, ?_, ?_⟩
    · refine i_Field_farthest_pc Open Dist k ?_ ?_
      · exact (Bool.and_eq_true _ _ ▸ b2 : _ ∧ _).1
      · exact inB_le (Bool.and_eq_true _ _ ▸ b2 : _ ∧ _).2
    · refine i_Field_sitesOf_pc Open Dist (fcRun Dist (min k.toNat Dist.length) []) ?_ ?_ ?_
      · exact (Bool.and_eq_true _ _ ▸ b2 : _ ∧ _).1
      · exact (fcRun_ok _ [] (fcOk_nil _) (by simp only [List.length_nil]; omega)).inR
      · obtain ⟨g1, g2, g3⟩ := gf_open (Bool.and_eq_true _ _ ▸ b2 : _ ∧ _).1
        rw [fcRun_len]
        simp only [List.length_nil]
        omega
    · unfold fsL; rw [if_pos b2]
    · exact b2.symm
theorem i_FarthestSites_pc (Open : List Int) (Dist : List (List Int)) (k : Int)  : PC Try.prog 79 [.agg [.sl (.ints Open), .sl (.rows Dist)], .int .i64 k] (.tup [.own 3 (.ints (fsL Open Dist k)), .d (.bool (goodField Open Dist && inB k 1 (Open.length : Int)))]) :=
  pc_wf @Try.call79 fun hw => pc_by (by kernel_rfl) Try.func79 @Try.call79 (by kernel_rfl) i_FarthestSites_C (i_FarthestSites_A Open Dist k) (by kernel_rfl) (i_FarthestSites_vc Open Dist k hw.1.1 hw.1.2.1.1 hw.1.2.1.2) (by kernel_rfl)
def i_FarthestSites_orc : List D → Orc := orcN [none, none] fun ds => match ds with
  | [.agg [.sl (.ints Open), .sl (.rows Dist)], .int .i64 k] => some (.tup [.own 3 (.ints (fsL Open Dist k)), .d (.bool (goodField Open Dist && inB k 1 (Open.length : Int)))])
  | _ => none
def l_FnExactFarthestSites_C (f : FuncId) (ds : List D) : Orc := bif Nat.beq f 40 then l_szField_orc ds else bif Nat.beq f 42 then l_toField_orc ds else bif Nat.beq f 78 then s_FarthestSites_orc ds else bif Nat.beq f 79 then i_FarthestSites_orc ds else bif Nat.beq f 32 then l_eqIntS_orc ds else bif Nat.beq f 44 then l_eqField_orc ds else bif Nat.beq f 36 then l_heldIntS_orc ds else .no
def l_FnExactFarthestSites_A (Open : List Int) (Dist : List (List Int)) (k : Int) : Ann := .two (.none) (.two (.none) (.two (.none) (.two (.none) (.two (.reg [(1, .g)]) (.two (.reg [(1, .g)]) (.two (.none) (.two (.none) (.two (.two (.reg [(2, .g)]) (.none)) (.two (.none) (.two (.mark [] 2 (.kill (1 + (Open.length : Int) + ((Dist.map List.length).sum : Int)))) (.two (.none) (.two (.none) (.two (.mark [] 2 (.wr (marks 1 (fsL Open Dist k).length) (1 + ((fsL Open Dist k).length : Int)))) (.two (.none) (.two (.none) (.two (.none) (.two (.none) (.two (.reg [(1, .g)]) (.none)))))))))))))))))))
def l_FnExactFarthestSites_P (Open : List Int) (Dist : List (List Int)) (k : Int) : Prop :=
  (PC Try.prog 40 [.agg [.sl (.ints Open), .sl (.rows Dist)], .int .i64 1048576] (.one (.d (.int .i64 (szField Open Dist 1048576))))) ∧ (((decide ((szField Open Dist 1048576) < 0)) = true → ((true = true))) ∧ ((decide ((szField Open Dist 1048576) < 0)) = false → (PC Try.prog 42 [.agg [.sl (.ints Open), .sl (.rows Dist)]] (.one (.d (.agg [.sl (.ints Open), .sl (.rows Dist)])))) ∧ (PC Try.prog 78 [.agg [.sl (.ints Open), .sl (.rows Dist)], .int .i64 k] (.tup [.d (.sl (.ints (fsL Open Dist k))), .d (.bool (goodField Open Dist && inB k 1 (Open.length : Int)))])) ∧ (PC Try.prog 42 [.agg [.sl (.ints Open), .sl (.rows Dist)]] (.one (.d (.agg [.sl (.ints Open), .sl (.rows Dist)])))) ∧ (PC Try.prog 79 [.agg [.sl (.ints Open), .sl (.rows Dist)], .int .i64 k] (.tup [.own 3 (.ints (fsL Open Dist k)), .d (.bool (goodField Open Dist && inB k 1 (Open.length : Int)))])) ∧ ((fsL Open Dist k).length = (fsL Open Dist k).length) ∧ (PC Try.prog 32 [.sl (.ints (fsL Open Dist k)), .sl (.ints (fsL Open Dist k))] (.one (.d (.bool ((fsL Open Dist k) == (fsL Open Dist k)))))) ∧ ((!(!((fsL Open Dist k) == (fsL Open Dist k)))) = true → (!(!((fsL Open Dist k) == (fsL Open Dist k)))) = true) ∧ ((!(!((fsL Open Dist k) == (fsL Open Dist k)))) = true → (!(!((fsL Open Dist k) == (fsL Open Dist k)))) = true) ∧ (true = true) ∧ (((!((fsL Open Dist k) == (fsL Open Dist k))) = true → true = true)) ∧ (((!((fsL Open Dist k) == (fsL Open Dist k))) = false → (!(!((fsL Open Dist k) == (fsL Open Dist k)))) = true)) ∧ (((cond (!((fsL Open Dist k) == (fsL Open Dist k))) true ((goodField Open Dist && inB k 1 (Open.length : Int)) != (goodField Open Dist && inB k 1 (Open.length : Int)))) = true → ((false = true))) ∧ ((cond (!((fsL Open Dist k) == (fsL Open Dist k))) true ((goodField Open Dist && inB k 1 (Open.length : Int)) != (goodField Open Dist && inB k 1 (Open.length : Int)))) = false → (true = true) ∧ (PC Try.prog 42 [.agg [.sl (.ints Open), .sl (.rows Dist)]] (.one (.d (.agg [.sl (.ints Open), .sl (.rows Dist)])))) ∧ (PC Try.prog 44 [.agg [.sl (.ints Open), .sl (.rows Dist)], .agg [.sl (.ints Open), .sl (.rows Dist)]] (.one (.d (.bool ((Open == Open) && (Dist == Dist)))))) ∧ (((!((Open == Open) && (Dist == Dist))) = true → ((false = true))) ∧ ((!((Open == Open) && (Dist == Dist))) = false → (PG Try.prog 45 [.agg [.ints Open.length, .rows (Dist.map List.length)], .int 1] (1 + (Open.length : Int) + ((Dist.map List.length).sum : Int))) ∧ ((!(decide ((1 + (Open.length : Int) + ((Dist.map List.length).sum : Int)) < 0))) = true → (!(decide ((1 + (Open.length : Int) + ((Dist.map List.length).sum : Int)) < 0))) = true) ∧ ((!(decide ((1 + (Open.length : Int) + ((Dist.map List.length).sum : Int)) < 0))) = true → (!(decide ((1 + (Open.length : Int) + ((Dist.map List.length).sum : Int)) < 0))) = true) ∧ (((!(decide ((1 + (Open.length : Int) + ((Dist.map List.length).sum : Int)) < 0))) = true → (fsL Open Dist k).length = (fsL Open Dist k).length)) ∧ ((!(decide ((1 + (Open.length : Int) + ((Dist.map List.length).sum : Int)) < 0))) = true → PC Try.prog 32 [.sl (.ints (fsL Open Dist k)), .sl (.ints (fsL Open Dist k))] (.one (.d (.bool ((fsL Open Dist k) == (fsL Open Dist k)))))) ∧ ((!(decide ((1 + (Open.length : Int) + ((Dist.map List.length).sum : Int)) < 0))) = true → (!(decide ((1 + (Open.length : Int) + ((Dist.map List.length).sum : Int)) < 0))) = true) ∧ (true = true) ∧ (((decide ((1 + (Open.length : Int) + ((Dist.map List.length).sum : Int)) < 0)) = true → true = true)) ∧ (((decide ((1 + (Open.length : Int) + ((Dist.map List.length).sum : Int)) < 0)) = false → (!(decide ((1 + (Open.length : Int) + ((Dist.map List.length).sum : Int)) < 0))) = true)) ∧ ((!(cond (decide ((1 + (Open.length : Int) + ((Dist.map List.length).sum : Int)) < 0)) true (!((fsL Open Dist k) == (fsL Open Dist k))))) = true → (!(cond (decide ((1 + (Open.length : Int) + ((Dist.map List.length).sum : Int)) < 0)) true (!((fsL Open Dist k) == (fsL Open Dist k))))) = true) ∧ ((!(cond (decide ((1 + (Open.length : Int) + ((Dist.map List.length).sum : Int)) < 0)) true (!((fsL Open Dist k) == (fsL Open Dist k))))) = true → (!(cond (decide ((1 + (Open.length : Int) + ((Dist.map List.length).sum : Int)) < 0)) true (!((fsL Open Dist k) == (fsL Open Dist k))))) = true) ∧ (true = true) ∧ (((cond (decide ((1 + (Open.length : Int) + ((Dist.map List.length).sum : Int)) < 0)) true (!((fsL Open Dist k) == (fsL Open Dist k)))) = true → true = true)) ∧ (((cond (decide ((1 + (Open.length : Int) + ((Dist.map List.length).sum : Int)) < 0)) true (!((fsL Open Dist k) == (fsL Open Dist k)))) = false → (!(cond (decide ((1 + (Open.length : Int) + ((Dist.map List.length).sum : Int)) < 0)) true (!((fsL Open Dist k) == (fsL Open Dist k))))) = true)) ∧ (((cond (cond (decide ((1 + (Open.length : Int) + ((Dist.map List.length).sum : Int)) < 0)) true (!((fsL Open Dist k) == (fsL Open Dist k)))) true ((goodField Open Dist && inB k 1 (Open.length : Int)) != (goodField Open Dist && inB k 1 (Open.length : Int)))) = true → ((false = true))) ∧ ((cond (cond (decide ((1 + (Open.length : Int) + ((Dist.map List.length).sum : Int)) < 0)) true (!((fsL Open Dist k) == (fsL Open Dist k)))) true ((goodField Open Dist && inB k 1 (Open.length : Int)) != (goodField Open Dist && inB k 1 (Open.length : Int)))) = false → ((fsL Open Dist k).length = (fsL Open Dist k).length) ∧ ((marks 1 (fsL Open Dist k).length).length = (fsL Open Dist k).length) ∧ (PW Try.prog 35 3 (fsL Open Dist k) (marks 1 (fsL Open Dist k).length) 1 (1 + ((fsL Open Dist k).length : Int))) ∧ ((fsL Open Dist k).length = (marks 1 (fsL Open Dist k).length).length) ∧ (PC Try.prog 36 [.sl (.ints (marks 1 (fsL Open Dist k).length)), .int .i64 1] (.one (.d (.int .i64 (1 + ((marks 1 (fsL Open Dist k).length).length : Int)))))) ∧ (((decide ((1 + ((marks 1 (fsL Open Dist k).length).length : Int)) < 0)) = true → ((false = true))) ∧ ((decide ((1 + ((marks 1 (fsL Open Dist k).length).length : Int)) < 0)) = false → ((((1 + ((marks 1 (fsL Open Dist k).length).length : Int)) != (1 + ((fsL Open Dist k).length : Int))) = true → ((false = true))) ∧ (((1 + ((marks 1 (fsL Open Dist k).length).length : Int)) != (1 + ((fsL Open Dist k).length : Int))) = false → (PC Try.prog 42 [.agg [.sl (.ints Open), .sl (.rows Dist)]] (.one (.d (.agg [.sl (.ints Open), .sl (.rows Dist)])))) ∧ (PC Try.prog 79 [.agg [.sl (.ints Open), .sl (.rows Dist)], .int .i64 k] (.tup [.own 3 (.ints (fsL Open Dist k)), .d (.bool (goodField Open Dist && inB k 1 (Open.length : Int)))])) ∧ ((fsL Open Dist k).length = (fsL Open Dist k).length) ∧ (PC Try.prog 32 [.sl (.ints (fsL Open Dist k)), .sl (.ints (fsL Open Dist k))] (.one (.d (.bool ((fsL Open Dist k) == (fsL Open Dist k)))))) ∧ ((!(!((fsL Open Dist k) == (fsL Open Dist k)))) = true → (!(!((fsL Open Dist k) == (fsL Open Dist k)))) = true) ∧ ((!(!((fsL Open Dist k) == (fsL Open Dist k)))) = true → (!(!((fsL Open Dist k) == (fsL Open Dist k)))) = true) ∧ (true = true) ∧ (((!((fsL Open Dist k) == (fsL Open Dist k))) = true → true = true)) ∧ (((!((fsL Open Dist k) == (fsL Open Dist k))) = false → (!(!((fsL Open Dist k) == (fsL Open Dist k)))) = true)) ∧ (((cond (!((fsL Open Dist k) == (fsL Open Dist k))) true ((goodField Open Dist && inB k 1 (Open.length : Int)) != (goodField Open Dist && inB k 1 (Open.length : Int)))) = true → ((false = true))) ∧ ((cond (!((fsL Open Dist k) == (fsL Open Dist k))) true ((goodField Open Dist && inB k 1 (Open.length : Int)) != (goodField Open Dist && inB k 1 (Open.length : Int)))) = false → ((fsL Open Dist k).length = (marks 1 (fsL Open Dist k).length).length) ∧ (PC Try.prog 36 [.sl (.ints (marks 1 (fsL Open Dist k).length)), .int .i64 1] (.one (.d (.int .i64 (1 + ((marks 1 (fsL Open Dist k).length).length : Int)))))) ∧ (((decide ((1 + ((marks 1 (fsL Open Dist k).length).length : Int)) < 0)) = true → ((false = true))) ∧ ((decide ((1 + ((marks 1 (fsL Open Dist k).length).length : Int)) < 0)) = false → ((((1 + ((marks 1 (fsL Open Dist k).length).length : Int)) != (1 + ((fsL Open Dist k).length : Int))) = true → ((false = true))) ∧ (((1 + ((marks 1 (fsL Open Dist k).length).length : Int)) != (1 + ((fsL Open Dist k).length : Int))) = false → ((true = true))))))))))))))))))))
theorem l_FnExactFarthestSites_vc (Open : List Int) (Dist : List (List Int)) (k : Int)  (w_Open : (Open.length : Int) ≤ 9223372036854775807) (w_Dist : (Dist.length : Int) ≤ 9223372036854775807) (v_Dist : ∀ x9 ∈ Dist, (x9.length : Int) ≤ 9223372036854775807) : l_FnExactFarthestSites_P Open Dist k := by
  unfold l_FnExactFarthestSites_P
  refine ⟨?_, ?_, ?_⟩
  · refine l_szField_pc Open Dist 1048576 ?_
    · first | omega | rfl | (intro hg; simp only [nrmT] at hg; omega) | (intro g1 g2; simp [g1, g2]; done) | (intro g1; simp at g1 ⊢; simp [g1]; done) | (simp only [nrmT] at *; omega) | (simp at * <;> omega) | (simp_all <;> omega) | (simp_all; done)
  · intro b1
    try simp only [nrmT] at b1
    exact rfl
  · intro b2
    try simp only [nrmT] at b2
    refine ⟨?_, s_FarthestSites_pc Open Dist k, ?_, i_FarthestSites_pc Open Dist k, rfl, l_eqIntS_pc (fsL Open Dist k) (fsL Open Dist k), id, id, rfl, fun _ => rfl, ?_, ?_, ?_⟩
    · refine l_toField_pc Open Dist ?_ ?_ ?_
      · have := szField_bound b2; omega
      · have := szField_bound b2; omega
      · have h := (szField_bound b2).2.2
        intro xs hx
        have h := h xs hx
        omega
    · refine l_toField_pc Open Dist ?_ ?_ ?_
      · have := szField_bound b2; omega
      · have := szField_bound b2; omega
      · have h := (szField_bound b2).2.2
        intro xs hx
        have h := h xs hx
        omega
    · intro h; rw [h]; rfl
    · intro b3
      first | (exfalso; simp only [marks_len] at b3; omega) | (simp at b3; done) | (exfalso; simp only [marks_len] at b3; simp at b3; done) | omega | rfl | (intro hg; simp only [nrmT] at hg; omega) | (intro g1 g2; simp [g1, g2]; done) | (intro g1; simp at g1 ⊢; simp [g1]; done) | (simp only [nrmT] at *; omega) | (simp at * <;> omega) | (simp_all <;> omega) | (simp_all; done)
    · intro b4
      refine ⟨rfl, ?_, l_eqField_pc Open Dist Open Dist, ?_, ?_⟩
      · refine l_toField_pc Open Dist ?_ ?_ ?_
        · have := szField_bound b2; omega
        · have := szField_bound b2; omega
        · have h := (szField_bound b2).2.2
          intro xs hx
          have h := h xs hx
          omega
      · intro b5
        try simp only [Bool.not_eq_true', Bool.not_eq_false', Bool.not_not] at b5
        first | (exfalso; simp only [marks_len] at b5; omega) | (simp at b5; done) | (exfalso; simp only [marks_len] at b5; simp at b5; done) | omega | rfl | (intro hg; simp only [nrmT] at hg; omega) | (intro g1 g2; simp [g1, g2]; done) | (intro g1; simp at g1 ⊢; simp [g1]; done) | (simp only [nrmT] at *; omega) | (simp at * <;> omega) | (simp_all <;> omega) | (simp_all; done)
      · intro b6
        try simp only [Bool.not_eq_true', Bool.not_eq_false', Bool.not_not] at b6
        refine ⟨?_, id, id, fun _ => rfl, fun _ => l_eqIntS_pc (fsL Open Dist k) (fsL Open Dist k), id, rfl, fun _ => rfl, ?_, id, id, rfl, fun _ => rfl, ?_, ?_, ?_⟩
        · refine laws_markField_g_pg Open.length (Dist.map List.length) 1 ?_ ?_ ?_
          · first | omega | rfl | (intro hg; simp only [nrmT] at hg; omega) | (intro g1 g2; simp [g1, g2]; done) | (intro g1; simp at g1 ⊢; simp [g1]; done) | (simp only [nrmT] at *; omega) | (simp at * <;> omega) | (simp_all <;> omega) | (simp_all; done)
          · rw [List.length_map]; have hz := szField_bound b2; omega
          · have hz := szField_bound b2
            have hs := sum_lens20 (xss := Dist) (by omega) (fun xs hx => by have := hz.2.2 xs hx; omega)
            omega
        · first | omega | rfl | (intro hg; simp only [nrmT] at hg; omega) | (intro g1 g2; simp [g1, g2]; done) | (intro g1; simp at g1 ⊢; simp [g1]; done) | (simp only [nrmT] at *; omega) | (simp at * <;> omega) | (simp_all <;> omega) | (simp_all; done)
        · intro h; rw [h]; rfl
        · intro b7
          first | (exfalso; simp only [marks_len] at b7; omega) | (simp at b7; done) | (exfalso; simp only [marks_len] at b7; simp at b7; done) | omega | rfl | (intro hg; simp only [nrmT] at hg; omega) | (intro g1 g2; simp [g1, g2]; done) | (intro g1; simp at g1 ⊢; simp [g1]; done) | (simp only [nrmT] at *; omega) | (simp at * <;> omega) | (simp_all <;> omega) | (simp_all; done)
        · intro b8
          refine ⟨rfl, marks_len _ _, ?_, ?_, ?_, ?_, ?_⟩
          · refine laws_markIntS_w_pw (fsL Open Dist k) 1 ?_ ?_
            · first | omega | rfl | (intro hg; simp only [nrmT] at hg; omega) | (intro g1 g2; simp [g1, g2]; done) | (intro g1; simp at g1 ⊢; simp [g1]; done) | (simp only [nrmT] at *; omega) | (simp at * <;> omega) | (simp_all <;> omega) | (simp_all; done)
            · have := @fsL_len Open Dist k
              omega
          · simp only [marks_len]
          · refine l_heldIntS_pc (marks 1 (fsL Open Dist k).length) 1 ?_ ?_ ?_
            · first | omega | rfl | (intro hg; simp only [nrmT] at hg; omega) | (intro g1 g2; simp [g1, g2]; done) | (intro g1; simp at g1 ⊢; simp [g1]; done) | (simp only [nrmT] at *; omega) | (simp at * <;> omega) | (simp_all <;> omega) | (simp_all; done)
            · simp only [marks_len]
            · simp only [marks_len]
              have := @fsL_len Open Dist k
              omega
          · intro b9
            try simp only [nrmT] at b9
            first | (exfalso; simp only [marks_len] at b9; omega) | (simp at b9; done) | (exfalso; simp only [marks_len] at b9; simp at b9; done) | omega | rfl | (intro hg; simp only [nrmT] at hg; omega) | (intro g1 g2; simp [g1, g2]; done) | (intro g1; simp at g1 ⊢; simp [g1]; done) | (simp only [nrmT] at *; omega) | (simp at * <;> omega) | (simp_all <;> omega) | (simp_all; done)
          · intro b10
            try simp only [nrmT] at b10
            refine ⟨?_, ?_⟩
            · intro b11
              try simp only [nrmT] at b11
              first | (exfalso; simp only [marks_len] at b11; omega) | (simp at b11; done) | (exfalso; simp only [marks_len] at b11; simp at b11; done) | omega | rfl | (intro hg; simp only [nrmT] at hg; omega) | (intro g1 g2; simp [g1, g2]; done) | (intro g1; simp at g1 ⊢; simp [g1]; done) | (simp only [nrmT] at *; omega) | (simp at * <;> omega) | (simp_all <;> omega) | (simp_all; done)
            · intro b12
              try simp only [nrmT] at b12
              refine ⟨?_, i_FarthestSites_pc Open Dist k, rfl, l_eqIntS_pc (fsL Open Dist k) (fsL Open Dist k), id, id, rfl, fun _ => rfl, ?_, ?_, ?_⟩
              · refine l_toField_pc Open Dist ?_ ?_ ?_
                · have := szField_bound b2; omega
                · have := szField_bound b2; omega
                · have h := (szField_bound b2).2.2
                  intro xs hx
                  have h := h xs hx
                  omega
              · intro h; rw [h]; rfl
              · intro b13
                first | (exfalso; simp only [marks_len] at b13; omega) | (simp at b13; done) | (exfalso; simp only [marks_len] at b13; simp at b13; done) | omega | rfl | (intro hg; simp only [nrmT] at hg; omega) | (intro g1 g2; simp [g1, g2]; done) | (intro g1; simp at g1 ⊢; simp [g1]; done) | (simp only [nrmT] at *; omega) | (simp at * <;> omega) | (simp_all <;> omega) | (simp_all; done)
              · intro b14
                refine ⟨?_, ?_, ?_, ?_⟩
                · simp only [marks_len]
                · refine l_heldIntS_pc (marks 1 (fsL Open Dist k).length) 1 ?_ ?_ ?_
                  · first | omega | rfl | (intro hg; simp only [nrmT] at hg; omega) | (intro g1 g2; simp [g1, g2]; done) | (intro g1; simp at g1 ⊢; simp [g1]; done) | (simp only [nrmT] at *; omega) | (simp at * <;> omega) | (simp_all <;> omega) | (simp_all; done)
                  · simp only [marks_len]
                  · simp only [marks_len]
                    have := @fsL_len Open Dist k
                    omega
                · intro b15
                  try simp only [nrmT] at b15
                  first | (exfalso; simp only [marks_len] at b15; omega) | (simp at b15; done) | (exfalso; simp only [marks_len] at b15; simp at b15; done) | omega | rfl | (intro hg; simp only [nrmT] at hg; omega) | (intro g1 g2; simp [g1, g2]; done) | (intro g1; simp at g1 ⊢; simp [g1]; done) | (simp only [nrmT] at *; omega) | (simp at * <;> omega) | (simp_all <;> omega) | (simp_all; done)
                · intro b16
                  try simp only [nrmT] at b16
                  refine ⟨?_, ?_⟩
                  · intro b17
                    try simp only [nrmT] at b17
                    first | (exfalso; simp only [marks_len] at b17; omega) | (simp at b17; done) | (exfalso; simp only [marks_len] at b17; simp at b17; done) | omega | rfl | (intro hg; simp only [nrmT] at hg; omega) | (intro g1 g2; simp [g1, g2]; done) | (intro g1; simp at g1 ⊢; simp [g1]; done) | (simp only [nrmT] at *; omega) | (simp at * <;> omega) | (simp_all <;> omega) | (simp_all; done)
                  · intro b18
                    try simp only [nrmT] at b18
                    exact rfl
theorem l_FnExactFarthestSites_pc (Open : List Int) (Dist : List (List Int)) (k : Int)  : PC Try.prog 20 [.agg [.sl (.ints Open), .sl (.rows Dist)], .int .i64 k] (.one (.d (.bool true))) :=
  pc_wf @Try.call20 fun hw => pc_by (by kernel_rfl) Try.func20 @Try.call20 (by kernel_rfl) l_FnExactFarthestSites_C (l_FnExactFarthestSites_A Open Dist k) (by kernel_rfl) (l_FnExactFarthestSites_vc Open Dist k hw.1.1 hw.1.2.1.1 hw.1.2.1.2) (by kernel_rfl)
end Go.Proofs.Ytijdbfbeobflnaa
