/- Contracts of the functions that the law reaches. -/
import Derived.Test.YtomnmacmlhkceaaKMedianPrices1
import Derived.KernelRfl
set_option linter.unusedVariables false
set_option linter.unusedSimpArgs false
namespace Go.Proofs.Ytomnmacmlhkceaa
open Go

theorem pickV_in (code : List Nat) (c : Cur) {n : Int} (hn : 1 ≤ n) : 0 ≤ pickV code c n ∧ pickV code c n < n := by
  unfold pickV
  split
  · omega
  · exact ⟨Int.emod_nonneg _ (by omega), Int.emod_lt_of_pos _ (by omega)⟩
def s_l1Cur_pick_C (f : FuncId) (ds : List D) : Orc := .no
def s_l1Cur_pick_A (u : Value) (code : List Nat) (c : Cur) (n : Int) : Ann := .two (.none) (.two (.none) (.two (.mark [] [(1, .cell [.int .i64 ((nextC code c).pos), .int .u64 ((nextC code c).seed)] (.one (.d (.int .i64 (nextV code c)))))]) (.two (.two (.none) (.two (.mark [] [(3, .cell [.int .i64 ((nextC code (nextC code c)).pos), .int .u64 ((nextC code (nextC code c)).seed)] (.one (.d (.int .i64 (nextV code (nextC code c))))))]) (.none))) (.none))))
def s_l1Cur_pick_P (u : Value) (code : List Nat) (c : Cur) (n : Int) : Prop :=
  (((decide (n ≤ 1)) = true → (((.lit u (.sl (.bytes code)) : D) = .lit u (.sl (.bytes code))) ∧ (c.pos = (pickC code c n).pos) ∧ (c.seed = (pickC code c n).seed) ∧ ((0 : Int) = (pickV code c n)))) ∧ ((decide (n ≤ 1)) = false → (PK Try.prog 195 98 (.sl (.bytes code)) [.int .i64 c.pos, .int .u64 c.seed] [.int .i64 ((nextC code c).pos), .int .u64 ((nextC code c).seed)] [] (.one (.d (.int .i64 (nextV code c))))) ∧ (((decide (n > 200)) = true → (-9223372036854775808 ≤ ((nextV code c) * 256) ∧ ((nextV code c) * 256) ≤ 9223372036854775807) ∧ (PK Try.prog 195 98 (.sl (.bytes code)) [.int .i64 ((nextC code c).pos), .int .u64 ((nextC code c).seed)] [.int .i64 ((nextC code (nextC code c)).pos), .int .u64 ((nextC code (nextC code c)).seed)] [] (.one (.d (.int .i64 (nextV code (nextC code c)))))) ∧ (-9223372036854775808 ≤ (((nextV code c) * 256) + (nextV code (nextC code c))) ∧ (((nextV code c) * 256) + (nextV code (nextC code c))) ≤ 9223372036854775807) ∧ ((0 : Int) ≤ (((nextV code c) * 256) + (nextV code (nextC code c)))) ∧ ((1 : Int) ≤ n) ∧ (((.lit u (.sl (.bytes code)) : D) = .lit u (.sl (.bytes code))) ∧ ((nextC code (nextC code c)).pos = (pickC code c n).pos) ∧ ((nextC code (nextC code c)).seed = (pickC code c n).seed) ∧ (((((nextV code c) * 256) + (nextV code (nextC code c))) % n) = (pickV code c n)))) ∧ ((decide (n > 200)) = false → ((0 : Int) ≤ (nextV code c)) ∧ ((1 : Int) ≤ n) ∧ (((.lit u (.sl (.bytes code)) : D) = .lit u (.sl (.bytes code))) ∧ ((nextC code c).pos = (pickC code c n).pos) ∧ ((nextC code c).seed = (pickC code c n).seed) ∧ (((nextV code c) % n) = (pickV code c n)))))))
theorem s_l1Cur_pick_vc (u : Value) (code : List Nat) (c : Cur) (n : Int) (hb : ∀ x9 ∈ code, x9 < 256) (hc : okC c 900000000000)  : s_l1Cur_pick_P u code c n := by
  unfold s_l1Cur_pick_P
  refine ⟨?_, ?_⟩
  ·intro b1
   try simp only [nrmT] at b1
   refine ⟨rfl, ?_, ?_, ?_⟩
   ·unfold pickC; first | rw [if_pos (by omega)] | rw [if_neg (by omega), if_pos (by omega)] | rw [if_neg (by omega), if_neg (by omega)]
   ·unfold pickC; first | rw [if_pos (by omega)] | rw [if_neg (by omega), if_pos (by omega)] | rw [if_neg (by omega), if_neg (by omega)]
   ·unfold pickV; first | rw [if_pos (by omega)] | rw [if_neg (by omega), if_pos (by omega)] | rw [if_neg (by omega), if_neg (by omega)]
  ·intro b2
   try simp only [nrmT] at b2
   refine ⟨?_, ?_, ?_⟩
   ·refine s_l1Cur_next_pk code c ?_ ?_
    ·exact hb
    ·exact okC_le (by repeat (first | assumption | apply ok_pick | apply ok_next)) (by omega)
   ·intro b3
    try simp only [nrmT] at b3
    refine ⟨?_, ?_, ?_, ?_, ?_, rfl, ?_, ?_, ?_⟩
    ·have q0 := nextV_in hb (c := c) hc.1
     have q1 := nextV_in hb (c := nextC code c) (ok_next hc).1
     omega
    ·refine s_l1Cur_next_pk code (nextC code c) ?_ ?_
     ·exact hb
     ·exact okC_le (by repeat (first | assumption | apply ok_pick | apply ok_next)) (by omega)
    ·have q0 := nextV_in hb (c := c) hc.1
     have q1 := nextV_in hb (c := nextC code c) (ok_next hc).1
     omega
    ·have q0 := nextV_in hb (c := c) hc.1
     have q1 := nextV_in hb (c := nextC code c) (ok_next hc).1
     omega
    ·omega
    ·unfold pickC; first | rw [if_pos (by omega)] | rw [if_neg (by omega), if_pos (by omega)] | rw [if_neg (by omega), if_neg (by omega)]
    ·unfold pickC; first | rw [if_pos (by omega)] | rw [if_neg (by omega), if_pos (by omega)] | rw [if_neg (by omega), if_neg (by omega)]
    ·unfold pickV; first | rw [if_pos (by omega)] | rw [if_neg (by omega), if_pos (by omega)] | rw [if_neg (by omega), if_neg (by omega)]
   ·intro b4
    try simp only [nrmT] at b4
    refine ⟨?_, ?_, rfl, ?_, ?_, ?_⟩
    ·have q0 := nextV_in hb (c := c) hc.1
     have q1 := nextV_in hb (c := nextC code c) (ok_next hc).1
     omega
    ·omega
    ·unfold pickC; first | rw [if_pos (by omega)] | rw [if_neg (by omega), if_pos (by omega)] | rw [if_neg (by omega), if_neg (by omega)]
    ·unfold pickC; first | rw [if_pos (by omega)] | rw [if_neg (by omega), if_pos (by omega)] | rw [if_neg (by omega), if_neg (by omega)]
    ·unfold pickV; first | rw [if_pos (by omega)] | rw [if_neg (by omega), if_pos (by omega)] | rw [if_neg (by omega), if_neg (by omega)]
theorem s_l1Cur_pick_pk (code : List Nat) (c : Cur) (n : Int) (hb : ∀ x9 ∈ code, x9 < 256) (hc : okC c 900000000000) : PK Try.prog 107 98 (.sl (.bytes code)) [.int .i64 c.pos, .int .u64 c.seed] [.int .i64 (pickC code c n).pos, .int .u64 (pickC code c n).seed] [.int .i64 n] (.one (.d (.int .i64 (pickV code c n)))) :=
  pk_by (Q := fun u => s_l1Cur_pick_P u code c n) (by kernel_rfl) Try.func107 @Try.call107 (by kernel_rfl) s_l1Cur_pick_C (fun u => s_l1Cur_pick_A u code c n) (by kernel_rfl) (fun u => s_l1Cur_pick_vc u code c n hb hc) (fun u => by kernel_rfl)
def s_l1Cur_among_C (f : FuncId) (ds : List D) : Orc := .no
def s_l1Cur_among_A (u : Value) (code : List Nat) (c : Cur) (list : List Int) : Ann := .two (.none) (.two (.mark [] [(4, .cell [.int .i64 ((pickC code c (list.length : Int)).pos), .int .u64 ((pickC code c (list.length : Int)).seed)] (.one (.d (.int .i64 (pickV code c (list.length : Int))))))]) (.none))
def s_l1Cur_among_P (u : Value) (code : List Nat) (c : Cur) (list : List Int) : Prop :=
  (PK Try.prog 107 98 (.sl (.bytes code)) [.int .i64 c.pos, .int .u64 c.seed] [.int .i64 ((pickC code c (list.length : Int)).pos), .int .u64 ((pickC code c (list.length : Int)).seed)] [.int .i64 (list.length : Int)] (.one (.d (.int .i64 (pickV code c (list.length : Int)))))) ∧ ((0 : Int) ≤ (pickV code c (list.length : Int))) ∧ (((pickV code c (list.length : Int)) : Int) < list.length) ∧ ((pickV code c (list.length : Int)).toNat < list.length) ∧ (((.lit u (.sl (.bytes code)) : D) = .lit u (.sl (.bytes code))) ∧ ((pickC code c (list.length : Int)).pos = (pickC code c (list.length : Int)).pos) ∧ ((pickC code c (list.length : Int)).seed = (pickC code c (list.length : Int)).seed) ∧ ((list.getD ((pickV code c (list.length : Int)).toNat) 0) = (list.getD (pickV code c (list.length : Int)).toNat 0)))
theorem s_l1Cur_among_vc (u : Value) (code : List Nat) (c : Cur) (list : List Int) (hb : ∀ x9 ∈ code, x9 < 256) (hc : okC c 800000000000) (hl : 0 < list.length)  : s_l1Cur_among_P u code c list := by
  unfold s_l1Cur_among_P
  refine ⟨?_, ?_, ?_, ?_, rfl, rfl, rfl, ?_⟩
  ·refine s_l1Cur_pick_pk code c (list.length : Int) ?_ ?_
   ·exact hb
   ·exact okC_le (by repeat (first | assumption | apply ok_pick | apply ok_next)) (by omega)
  ·have := pickV_in code c (n := (list.length : Int)) (by omega)
   omega
  ·have := pickV_in code c (n := (list.length : Int)) (by omega)
   omega
  ·have := pickV_in code c (n := (list.length : Int)) (by omega)
   omega
  ·have := pickV_in code c (n := (list.length : Int)) (by omega)
   omega
theorem s_l1Cur_among_pk (code : List Nat) (c : Cur) (list : List Int) (hb : ∀ x9 ∈ code, x9 < 256) (hc : okC c 800000000000) (hl : 0 < list.length) : PK Try.prog 106 98 (.sl (.bytes code)) [.int .i64 c.pos, .int .u64 c.seed] [.int .i64 (pickC code c (list.length : Int)).pos, .int .u64 (pickC code c (list.length : Int)).seed] [.sl (.ints list)] (.one (.d (.int .i64 (list.getD (pickV code c (list.length : Int)).toNat 0)))) :=
  pk_by (Q := fun u => s_l1Cur_among_P u code c list) (by kernel_rfl) Try.func106 @Try.call106 (by kernel_rfl) s_l1Cur_among_C (fun u => s_l1Cur_among_A u code c list) (by kernel_rfl) (fun u => s_l1Cur_among_vc u code c list hb hc hl) (fun u => by kernel_rfl)
def s_l1Cur_one_C (f : FuncId) (ds : List D) : Orc := .no
def s_l1Cur_one_A (u : Value) (code : List Nat) (c : Cur) (n : Int) : Ann := .two (.none) (.two (.mark [] [(2, .cell [.int .i64 ((pickC code c n).pos), .int .u64 ((pickC code c n).seed)] (.one (.d (.int .i64 (pickV code c n)))))]) (.none))
def s_l1Cur_one_P (u : Value) (code : List Nat) (c : Cur) (n : Int) : Prop :=
  (PK Try.prog 107 98 (.sl (.bytes code)) [.int .i64 c.pos, .int .u64 c.seed] [.int .i64 ((pickC code c n).pos), .int .u64 ((pickC code c n).seed)] [.int .i64 n] (.one (.d (.int .i64 (pickV code c n))))) ∧ (((.lit u (.sl (.bytes code)) : D) = .lit u (.sl (.bytes code))) ∧ ((pickC code c n).pos = (pickC code c n).pos) ∧ ((pickC code c n).seed = (pickC code c n).seed) ∧ (((pickV code c n) == 0) = (pickV code c n == 0)))
theorem s_l1Cur_one_vc (u : Value) (code : List Nat) (c : Cur) (n : Int) (hb : ∀ x9 ∈ code, x9 < 256) (hc : okC c 800000000000)  : s_l1Cur_one_P u code c n := by
  unfold s_l1Cur_one_P
  refine ⟨?_, rfl, rfl, rfl, ?_⟩
  ·refine s_l1Cur_pick_pk code c n ?_ ?_
   ·exact hb
   ·exact okC_le (by repeat (first | assumption | apply ok_pick | apply ok_next)) (by omega)
  ·rfl
theorem s_l1Cur_one_pk (code : List Nat) (c : Cur) (n : Int) (hb : ∀ x9 ∈ code, x9 < 256) (hc : okC c 800000000000) : PK Try.prog 108 98 (.sl (.bytes code)) [.int .i64 c.pos, .int .u64 c.seed] [.int .i64 (pickC code c n).pos, .int .u64 (pickC code c n).seed] [.int .i64 n] (.one (.d (.bool (pickV code c n == 0)))) :=
  pk_by (Q := fun u => s_l1Cur_one_P u code c n) (by kernel_rfl) Try.func108 @Try.call108 (by kernel_rfl) s_l1Cur_one_C (fun u => s_l1Cur_one_A u code c n) (by kernel_rfl) (fun u => s_l1Cur_one_vc u code c n hb hc) (fun u => by kernel_rfl)
theorem okC0 : okC cur0 0 := by unfold okC; decide
theorem pick_mem (l : List Int) (code : List Nat) (c : Cur) (h : 0 < l.length) : l.getD (pickV code c (l.length : Int)).toNat 0 ∈ l := by
  have := pickV_in code c (n := (l.length : Int)) (by omega)
  exact getD_mem (by omega)
def l_rBig_C (f : FuncId) (ds : List D) : Orc := .no
def l_rBig_A (code : List Nat) : Ann := .none
def l_rBig_P (code : List Nat) : Prop :=
  (((decide ((code.length : Int) > 65536)) = (decide ((code.length : Int) > 65536))))
theorem l_rBig_vc (code : List Nat)  (w_code : (code.length : Int) ≤ 9223372036854775807) : l_rBig_P code := by
  unfold l_rBig_P
  exact rfl
theorem l_rBig_pc (code : List Nat)  : PC Try.prog 14 [.sl (.bytes code)] (.one (.d (.bool (decide ((code.length : Int) > 65536))))) :=
  pc_wf @Try.call14 fun hw => pc_by (by kernel_rfl) Try.func14 @Try.call14 (by kernel_rfl) l_rBig_C (l_rBig_A code) (by kernel_rfl) (l_rBig_vc code hw.1) (by kernel_rfl)
def l_rBig_orc : List D → Orc := orcN [some .bytes] fun ds => match ds with
  | [.sl (.bytes code)] => some (.one (.d (.bool (decide ((code.length : Int) > 65536)))))
  | _ => none
abbrev l_rInts_JJ0 (xs : List Int) (ys : List Int) (i : Int) : Prop := (0 ≤ i) ∧ (i ≤ (xs.length : Int)) ∧ (allTo (fun k => xs.getD k 0 == ys.getD k 0) i.toNat = true) ∧ (xs.length = ys.length)
abbrev l_rInts_mJ0 (xs : List Int) (ys : List Int) (i : Int) : Nat := (xs.length - i).toNat
def l_rInts_C (f : FuncId) (ds : List D) : Orc := .no
def l_rInts_A (xs : List Int) (ys : List Int) : Ann := .two (.none) (.two (.none) (.two (.two (.none) (.loop (cut1 (fun (i : Int) => l_rInts_JJ0 xs ys i) (fun (i : Int) => [(0, .d false (.sl (.ints xs))), (1, .d false (.sl (.ints ys))), (5, .d true (.int .i64 i))]) (fun (i : Int) => [])) (fun g => l_rInts_mJ0 xs ys g) (fun _ => .none))) (.none)))
def l_rInts_P (xs : List Int) (ys : List Int) : Prop :=
  ((((xs.length : Int) != (ys.length : Int)) = true → ((false = (xs == ys)))) ∧ (((xs.length : Int) != (ys.length : Int)) = false → ((∃ i' : Int, (l_rInts_JJ0 xs ys i') ∧ (xs = xs) ∧ (ys = ys) ∧ ((0 : Int) = i')) ∧ (∀ i : Int, (l_rInts_JJ0 xs ys i) → (((decide (i < (xs.length : Int))) = true → (true = true) ∧ ((0 : Int) ≤ i) ∧ ((i : Int) < xs.length) ∧ (i.toNat < xs.length) ∧ ((0 : Int) ≤ i) ∧ ((i : Int) < ys.length) ∧ (i.toNat < ys.length) ∧ ((((xs.getD i.toNat 0) != (ys.getD i.toNat 0)) = true → ((false = (xs == ys)))) ∧ (((xs.getD i.toNat 0) != (ys.getD i.toNat 0)) = false → (-9223372036854775808 ≤ (i + 1) ∧ (i + 1) ≤ 9223372036854775807) ∧ (∃ i' : Int, (l_rInts_JJ0 xs ys i') ∧ (l_rInts_mJ0 xs ys i' < l_rInts_mJ0 xs ys i) ∧ (xs = xs) ∧ (ys = ys) ∧ ((i + 1) = i'))))) ∧ ((decide (i < (xs.length : Int))) = false → ((true = (xs == ys)))))))))
theorem l_rInts_vc (xs : List Int) (ys : List Int)  (w_xs : (xs.length : Int) ≤ 9223372036854775807) (w_ys : (ys.length : Int) ≤ 9223372036854775807) : l_rInts_P xs ys := by
  unfold l_rInts_P
  refine ⟨?_, ?_⟩
  ·intro b1
   try simp only [nrmT] at b1
   exact (len_ne (by omega)).symm
  ·intro b2
   try simp only [nrmT] at b2
   refine ⟨?_, ?_⟩
   ·refine ⟨0, ?_⟩
    refine ⟨?_, rfl, rfl, rfl⟩
    ·refine ⟨?_, ?_, ?_, ?_⟩
     ·omega
     ·omega
     ·rfl
     ·omega
   ·intro i hJ
    obtain ⟨h1, h2, h3, h4⟩ := hJ
    refine ⟨?_, ?_⟩
    ·intro b3
     try simp only [nrmT] at b3
     refine ⟨rfl, ?_, ?_, ?_, ?_, ?_, ?_, ?_, ?_⟩
     ·omega
     ·omega
     ·omega
     ·omega
     ·omega
     ·omega
     ·intro b4
      try simp only [nrmT] at b4
      rw [← beq_of_all (d := 0) h4]; exact (allTo_falseI h1 (by omega) (by simpa using b4)).symm
     ·intro b5
      try simp only [nrmT] at b5
      refine ⟨?_, ?_⟩
      ·omega
      ·refine ⟨(i + 1), ?_⟩
       refine ⟨?_, ?_, rfl, rfl, rfl⟩
       ·refine ⟨?_, ?_, ?_, ?_⟩
        ·omega
        ·omega
        ·exact allTo_step h1 h3 (by simpa using b5)
        ·omega
       ·first | (show _ < _; omega) | (simp only [l_rInts_mJ0]; omega) | (simp only [l_rInts_mJ0] at *; simp at *; omega)
    ·intro b6
     try simp only [nrmT] at b6
     rw [← beq_of_all (d := 0) h4, ← h3]; congr 1; omega
theorem l_rInts_pc (xs : List Int) (ys : List Int)  : PC Try.prog 18 [.sl (.ints xs), .sl (.ints ys)] (.one (.d (.bool (xs == ys)))) :=
  pc_wf @Try.call18 fun hw => pc_by (by kernel_rfl) Try.func18 @Try.call18 (by kernel_rfl) l_rInts_C (l_rInts_A xs ys) (by kernel_rfl) (l_rInts_vc xs ys hw.1 hw.2.1) (by kernel_rfl)
def l_rInts_orc : List D → Orc := orcN [some .ints, some .ints] fun ds => match ds with
  | [.sl (.ints xs), .sl (.ints ys)] => some (.one (.d (.bool (xs == ys))))
  | _ => none
theorem siteTo_le (row set : List Int) : ∀ k i, i < k → row.getD (siteTo row set k).toNat 0 ≤ row.getD (set.getD i 0).toNat 0
  | 0, i, h => by omega
  | k + 1, i, h => by
    have ih := siteTo_le row set k
    rw [siteTo_succ]
    unfold siteF
    by_cases e : i = k
    · subst e
      split
      · exact Int.le_refl _
      · omega
    · have := ih i (by omega)
      split <;> omega
theorem ok_cond {g : Bool} {a b : Cur} {x y : Int} (ha : okC a x) (hb : okC b y) : okC (cond g a b) (max x y) := by
  cases g
  · exact okC_le hb (by omega)
  · exact okC_le ha (by omega)
theorem pick_ev {p : Int → Prop} (l : List Int) (code : List Nat) (c : Cur) (h0 : 0 < l.length) (h : ∀ x ∈ l, p x) : p (l.getD (pickV code c (l.length : Int)).toNat 0) := h _ (pick_mem l code c h0)
def lsum (f : Int → Int) (l : List Int) : Int := (l.map f).sum
theorem lsum_cons (f : Int → Int) (x : Int) (l : List Int) : lsum f (x :: l) = f x + lsum f l := rfl
theorem lsum_le {f g : Int → Int} : ∀ {l : List Int}, (∀ x ∈ l, f x ≤ g x) → lsum f l ≤ lsum g l
  | [], _ => Int.le_refl _
  | x :: r, h => by
    have h1 := h x List.mem_cons_self
    have h2 := lsum_le (f := f) (g := g) (l := r) fun y hy => h y (List.mem_cons_of_mem _ hy)
    rw [lsum_cons, lsum_cons]; omega
theorem lsum_mul (c : Int) (f : Int → Int) : ∀ l : List Int, lsum (fun x => c * f x) l = c * lsum f l
  | [] => by simp [lsum]
  | x :: r => by rw [lsum_cons, lsum_cons, lsum_mul c f r, Int.mul_add]
theorem lsum_nonneg {f : Int → Int} {l : List Int} (h : ∀ x ∈ l, 0 ≤ f x) : 0 ≤ lsum f l := by
  have := lsum_le (f := fun _ => 0) (g := f) h
  have e : lsum (fun _ => 0) l = 0 := by
    have := lsum_mul 0 (fun _ => 0) l
    simp at this
    exact this
  omega
/-- What rawField and lineField draw. -/
def drRow (n : Nat) (r : List Int) : Prop := r.length = n ∧ ∀ x ∈ r, 0 ≤ x ∧ x ≤ 60
def drF (O : List Int) (D : List (List Int)) : Prop := O.length ≤ 7 ∧ D.length ≤ 7 ∧ ∀ r ∈ D, drRow O.length r
theorem drF_at {O : List Int} {D : List (List Int)} (h : drF O D) {i a : Nat} (hi : i < D.length) (ha : a < O.length) : (D.getD i []).length = O.length ∧ 0 ≤ (D.getD i []).getD a 0 ∧ (D.getD i []).getD a 0 ≤ 60 := by
  obtain ⟨h1, h2⟩ := h.2.2 _ (getD_mem (d := []) hi)
  exact ⟨h1, h2 _ (getD_mem (by omega))⟩
theorem all_snoc {α : Type} {p : α → Prop} {l : List α} {x : α} (h : ∀ r ∈ l, p r) (hx : p x) : ∀ r ∈ l ++ [x], p r := by
  intro r hr
  rcases List.mem_append.1 hr with hr | hr
  · exact h r hr
  · rw [List.mem_singleton.1 hr]; exact hx
theorem all_set {α : Type} {p : α → Prop} {l : List α} {x : α} {k : Nat} (h : ∀ r ∈ l, p r) (hx : p x) : ∀ r ∈ l.set k x, p r := by
  intro r hr
  rcases List.mem_or_eq_of_mem_set hr with hr | hr
  · exact h r hr
  · rw [hr]; exact hx
theorem drF_set {O : List Int} {D : List (List Int)} (h : drF O D) {i a : Nat} {v : Int} (hi : i < D.length) (hv : 0 ≤ v ∧ v ≤ 60) : drF O (D.set i ((D.getD i []).set a v)) := by
  obtain ⟨h1, h2⟩ := h.2.2 _ (getD_mem (d := []) hi)
  refine ⟨h.1, by rw [List.length_set]; exact h.2.1, all_set h.2.2 ⟨by rw [List.length_set]; exact h1, all_set h2 hv⟩⟩
abbrev s_l1Cur_rawField_JJ0 (u : Value) (code : List Nat) (c : Cur) (most : Int) (n : Int) (m : Int) (c0 : Cur) (big : Int) (c1 : Cur) (O0 : List Int) (D0 : List (List Int)) (a : Int) (c3 : Cur) (O1 : List Int) (D1 : List (List Int)) : Prop := (0 ≤ a) ∧ (a ≤ 7) ∧ (O1.length = a.toNat) ∧ (D1 = []) ∧ (okC c3 (3000100 + 4 * a))
abbrev s_l1Cur_rawField_mJ0 (u : Value) (code : List Nat) (c : Cur) (most : Int) (n : Int) (m : Int) (c0 : Cur) (big : Int) (c1 : Cur) (O0 : List Int) (D0 : List (List Int)) (a : Int) (c3 : Cur) (O1 : List Int) (D1 : List (List Int)) : Nat := (7 - a).toNat
abbrev s_l1Cur_rawField_JA0 (u : Value) (code : List Nat) (c : Cur) (most : Int) (n : Int) (m : Int) (c0 : Cur) (big : Int) (c1 : Cur) (O0 : List Int) (D0 : List (List Int)) (c4 : Cur) (O2 : List Int) (D2 : List (List Int)) : Prop := (okC c4 3000200) ∧ (O2.length ≤ 7) ∧ (D2 = [])
abbrev s_l1Cur_rawField_JJ1 (u : Value) (code : List Nat) (c : Cur) (most : Int) (n : Int) (m : Int) (c0 : Cur) (big : Int) (c1 : Cur) (O0 : List Int) (D0 : List (List Int)) (c4 : Cur) (O2 : List Int) (D2 : List (List Int)) (i : Int) (c5 : Cur) (O3 : List Int) (D3 : List (List Int)) : Prop := (0 ≤ i) ∧ (i ≤ 7) ∧ (D3.length = i.toNat) ∧ (O3.length ≤ 7) ∧ (okC c5 (3000200 + 100 * i)) ∧ (∀ r ∈ D3, drRow O3.length r)
abbrev s_l1Cur_rawField_mJ1 (u : Value) (code : List Nat) (c : Cur) (most : Int) (n : Int) (m : Int) (c0 : Cur) (big : Int) (c1 : Cur) (O0 : List Int) (D0 : List (List Int)) (c4 : Cur) (O2 : List Int) (D2 : List (List Int)) (i : Int) (c5 : Cur) (O3 : List Int) (D3 : List (List Int)) : Nat := (7 - i).toNat
abbrev s_l1Cur_rawField_JJ2 (u : Value) (code : List Nat) (c : Cur) (most : Int) (n : Int) (m : Int) (c0 : Cur) (big : Int) (c1 : Cur) (O0 : List Int) (D0 : List (List Int)) (c4 : Cur) (O2 : List Int) (D2 : List (List Int)) (i : Int) (c5 : Cur) (O3 : List Int) (D3 : List (List Int)) (row : List Int) (a2 : Int) (c6 : Cur) : Prop := (0 ≤ a2) ∧ (a2 ≤ (O3.length : Int)) ∧ (row.length = a2.toNat) ∧ (okC c6 (3000200 + 100 * i + 4 * a2)) ∧ (∀ x ∈ row, 0 ≤ x ∧ x ≤ 60)
abbrev s_l1Cur_rawField_mJ2 (u : Value) (code : List Nat) (c : Cur) (most : Int) (n : Int) (m : Int) (c0 : Cur) (big : Int) (c1 : Cur) (O0 : List Int) (D0 : List (List Int)) (c4 : Cur) (O2 : List Int) (D2 : List (List Int)) (i : Int) (c5 : Cur) (O3 : List Int) (D3 : List (List Int)) (row : List Int) (a2 : Int) (c6 : Cur) : Nat := (O3.length - a2).toNat
abbrev s_l1Cur_rawField_JR1 (u : Value) (code : List Nat) (c : Cur) (most : Int) (n : Int) (m : Int) (c0 : Cur) : Prop := (0 ≤ n ∧ n ≤ 7) ∧ (0 ≤ m ∧ m ≤ 7) ∧ (okC c0 3000050)
abbrev s_l1Cur_rawField_JR2 (u : Value) (code : List Nat) (c : Cur) (most : Int) (n : Int) (m : Int) (c0 : Cur) (big : Int) (c1 : Cur) (O0 : List Int) (D0 : List (List Int)) : Prop := (1 ≤ big ∧ big ≤ 20) ∧ (okC c1 3000100) ∧ (O0 = []) ∧ (D0 = [])
abbrev s_l1Cur_rawField_Q (code : List Nat) (c : Cur) (most : Int) (O : List Int) (D : List (List Int)) (cf : Cur) : Prop := (okC cf 4000000) ∧ (drF O D)
def s_l1Cur_rawField_X (code : List Nat) (c : Cur) (most : Int) : Ex := ex3 1 (fun (O : List Int) (D : List (List Int)) (cf : Cur) => s_l1Cur_rawField_Q code c most O D cf) (fun (O : List Int) (D : List (List Int)) (cf : Cur) => [.int .i64 cf.pos, .int .u64 cf.seed]) (fun (O : List Int) (D : List (List Int)) (cf : Cur) => .agg [.own 3 (.ints O), .mat 3 26 D])
def s_l1Cur_rawField_C (f : FuncId) (ds : List D) : Orc := .no
def s_l1Cur_rawField_A (u : Value) (code : List Nat) (c : Cur) (most : Int) : Ann := .two (.none) (.cut (.mark [] [(2, .cell [.int .i64 ((pickC code c (([3, 4, 2, 5, 1, 6, 7]).length : Int)).pos), .int .u64 ((pickC code c (([3, 4, 2, 5, 1, 6, 7]).length : Int)).seed)] (.one (.d (.int .i64 (([3, 4, 2, 5, 1, 6, 7]).getD (pickV code c (([3, 4, 2, 5, 1, 6, 7]).length : Int)).toNat 0))))), (5, .cell [.int .i64 ((pickC code (pickC code c (([3, 4, 2, 5, 1, 6, 7]).length : Int)) (([4, 3, 5, 2, 6, 7, 1, 0]).length : Int)).pos), .int .u64 ((pickC code (pickC code c (([3, 4, 2, 5, 1, 6, 7]).length : Int)) (([4, 3, 5, 2, 6, 7, 1, 0]).length : Int)).seed)] (.one (.d (.int .i64 (([4, 3, 5, 2, 6, 7, 1, 0]).getD (pickV code (pickC code c (([3, 4, 2, 5, 1, 6, 7]).length : Int)) (([4, 3, 5, 2, 6, 7, 1, 0]).length : Int)).toNat 0)))))]) (cut3 (fun (n : Int) (m : Int) (c0 : Cur) => s_l1Cur_rawField_JR1 u code c most n m c0) (fun (n : Int) (m : Int) (c0 : Cur) => [(0, .ptr 0 0), (1, .d false (.int .i64 most)), (4, .ptr 4 0), (5, .d true (.int .i64 n)), (6, .d true (.int .i64 m))]) (fun (n : Int) (m : Int) (c0 : Cur) => [(0, .box 98 [.d false (.lit u (.sl (.bytes code))), .d true (.int .i64 c0.pos), .d true (.int .u64 c0.seed)]), (4, .box 39 [.d true (.nil), .d true (.nil)])])) (fun g => (fun (n : Int) (m : Int) (c0 : Cur) => .cut (.mark [] [(3, .cell [.int .i64 ((pickC code c0 (([10, 10, 20, 4]).length : Int)).pos), .int .u64 ((pickC code c0 (([10, 10, 20, 4]).length : Int)).seed)] (.one (.d (.int .i64 (([10, 10, 20, 4]).getD (pickV code c0 (([10, 10, 20, 4]).length : Int)).toNat 0)))))]) (cut4 (fun (big : Int) (c1 : Cur) (O0 : List Int) (D0 : List (List Int)) => s_l1Cur_rawField_JR2 u code c most n m c0 big c1 O0 D0) (fun (big : Int) (c1 : Cur) (O0 : List Int) (D0 : List (List Int)) => [(0, .ptr 0 0), (1, .d false (.int .i64 most)), (4, .ptr 4 0), (5, .d true (.int .i64 n)), (6, .d true (.int .i64 m)), (7, .ptr 7 0), (8, .d true (.int .i64 big))]) (fun (big : Int) (c1 : Cur) (O0 : List Int) (D0 : List (List Int)) => [(0, .box 98 [.d false (.lit u (.sl (.bytes code))), .d true (.int .i64 c1.pos), .d true (.int .u64 c1.seed)]), (4, .box 39 [.d true (.nil), .d true (.nil)]), (1500202, .arr true 3 (.ints O0)), (1500203, .mat 3 26 D0 none), (7, .box 39 [.own 1500202 O0.length, .own 1500203 D0.length])])) (fun g => (fun (big : Int) (c1 : Cur) (O0 : List Int) (D0 : List (List Int)) => .cut (.two (.none) (.loop (cut4 (fun (a : Int) (c3 : Cur) (O1 : List Int) (D1 : List (List Int)) => s_l1Cur_rawField_JJ0 u code c most n m c0 big c1 O0 D0 a c3 O1 D1) (fun (a : Int) (c3 : Cur) (O1 : List Int) (D1 : List (List Int)) => [(0, .ptr 0 0), (1, .d false (.int .i64 most)), (4, .ptr 4 0), (5, .d true (.int .i64 n)), (6, .d true (.int .i64 m)), (7, .ptr 7 0), (8, .d true (.int .i64 big)), (9, .d true (.int .i64 a))]) (fun (a : Int) (c3 : Cur) (O1 : List Int) (D1 : List (List Int)) => [(0, .box 98 [.d false (.lit u (.sl (.bytes code))), .d true (.int .i64 c3.pos), .d true (.int .u64 c3.seed)]), (4, .box 39 [.d true (.nil), .d true (.nil)]), (1000002, .arr true 3 (.ints O1)), (1000003, .mat 3 26 D1 none), (7, .box 39 [.own 1000002 O1.length, .own 1000003 D1.length])])) (fun g => s_l1Cur_rawField_mJ0 u code c most n m c0 big c1 O0 D0 g.1 g.2.1 g.2.2.1 g.2.2.2) (fun g => (fun (a : Int) (c3 : Cur) (O1 : List Int) (D1 : List (List Int)) => .two (.none) (.two (.reg [(4, .cell [.int .i64 ((pickC code c3 big).pos), .int .u64 ((pickC code c3 big).seed)] (.one (.d (.int .i64 (pickV code c3 big)))))]) (.none))) (g.1) (g.2.1) (g.2.2.1) (g.2.2.2)))) (cut3 (fun (c4 : Cur) (O2 : List Int) (D2 : List (List Int)) => s_l1Cur_rawField_JA0 u code c most n m c0 big c1 O0 D0 c4 O2 D2) (fun (c4 : Cur) (O2 : List Int) (D2 : List (List Int)) => [(0, .ptr 0 0), (1, .d false (.int .i64 most)), (4, .ptr 4 0), (6, .d true (.int .i64 m)), (7, .ptr 7 0), (8, .d true (.int .i64 big))]) (fun (c4 : Cur) (O2 : List Int) (D2 : List (List Int)) => [(0, .box 98 [.d false (.lit u (.sl (.bytes code))), .d true (.int .i64 c4.pos), .d true (.int .u64 c4.seed)]), (4, .box 39 [.d true (.nil), .d true (.nil)]), (1000051, .arr true 3 (.ints O2)), (1000052, .mat 3 26 D2 none), (7, .box 39 [.own 1000051 O2.length, .own 1000052 D2.length])])) (fun g => (fun (c4 : Cur) (O2 : List Int) (D2 : List (List Int)) => .two (.two (.none) (.loop (cut4 (fun (i : Int) (c5 : Cur) (O3 : List Int) (D3 : List (List Int)) => s_l1Cur_rawField_JJ1 u code c most n m c0 big c1 O0 D0 c4 O2 D2 i c5 O3 D3) (fun (i : Int) (c5 : Cur) (O3 : List Int) (D3 : List (List Int)) => [(0, .ptr 0 0), (1, .d false (.int .i64 most)), (4, .ptr 4 0), (6, .d true (.int .i64 m)), (7, .ptr 7 0), (8, .d true (.int .i64 big)), (10, .d true (.int .i64 i))]) (fun (i : Int) (c5 : Cur) (O3 : List Int) (D3 : List (List Int)) => [(0, .box 98 [.d false (.lit u (.sl (.bytes code))), .d true (.int .i64 c5.pos), .d true (.int .u64 c5.seed)]), (4, .box 39 [.d true (.nil), .d true (.nil)]), (1000102, .arr true 3 (.ints O3)), (1000103, .mat 3 26 D3 none), (7, .box 39 [.own 1000102 O3.length, .own 1000103 D3.length])])) (fun g => s_l1Cur_rawField_mJ1 u code c most n m c0 big c1 O0 D0 c4 O2 D2 g.1 g.2.1 g.2.2.1 g.2.2.2) (fun g => (fun (i : Int) (c5 : Cur) (O3 : List Int) (D3 : List (List Int)) => .two (.none) (.two (.two (.none) (.two (.two (.none) (.loop (cut3 (fun (row : List Int) (a2 : Int) (c6 : Cur) => s_l1Cur_rawField_JJ2 u code c most n m c0 big c1 O0 D0 c4 O2 D2 i c5 O3 D3 row a2 c6) (fun (row : List Int) (a2 : Int) (c6 : Cur) => [(0, .ptr 0 0), (1, .d false (.int .i64 most)), (4, .ptr 4 0), (6, .d true (.int .i64 m)), (7, .ptr 7 0), (8, .d true (.int .i64 big)), (10, .d true (.int .i64 i)), (11, .own 1000200 row.length), (12, .d true (.int .i64 a2))]) (fun (row : List Int) (a2 : Int) (c6 : Cur) => [(1000200, .arr true 3 (.ints row)), (0, .box 98 [.d false (.lit u (.sl (.bytes code))), .d true (.int .i64 c6.pos), .d true (.int .u64 c6.seed)]), (4, .box 39 [.d true (.nil), .d true (.nil)]), (7, .box 39 [.own 1000102 O3.length, .own 1000103 D3.length]), (1000102, .arr true 3 (.ints O3)), (1000103, .mat 3 26 D3 none)])) (fun g => s_l1Cur_rawField_mJ2 u code c most n m c0 big c1 O0 D0 c4 O2 D2 i c5 O3 D3 g.1 g.2.1 g.2.2) (fun g => (fun (row : List Int) (a2 : Int) (c6 : Cur) => .two (.none) (.two (.mark [] [(3, .cell [.int .i64 ((pickC code c6 big).pos), .int .u64 ((pickC code c6 big).seed)] (.one (.d (.int .i64 (pickV code c6 big)))))]) (.none))) (g.1) (g.2.1) (g.2.2)))) (.none))) (.none))) (g.1) (g.2.1) (g.2.2.1) (g.2.2.2)))) (.none)) (g.1) (g.2.1) (g.2.2))) (g.1) (g.2.1) (g.2.2.1) (g.2.2.2))) (g.1) (g.2.1) (g.2.2)))
def s_l1Cur_rawField_P (u : Value) (code : List Nat) (c : Cur) (most : Int) : Prop :=
  ((((7 : Nat) = 7) ∧ (PK Try.prog 106 98 (.sl (.bytes code)) [.int .i64 c.pos, .int .u64 c.seed] [.int .i64 ((pickC code c (([3, 4, 2, 5, 1, 6, 7]).length : Int)).pos), .int .u64 ((pickC code c (([3, 4, 2, 5, 1, 6, 7]).length : Int)).seed)] [.sl (.ints ([3, 4, 2, 5, 1, 6, 7]))] (.one (.d (.int .i64 (([3, 4, 2, 5, 1, 6, 7]).getD (pickV code c (([3, 4, 2, 5, 1, 6, 7]).length : Int)).toNat 0))))) ∧ ((8 : Nat) = 8) ∧ (PK Try.prog 106 98 (.sl (.bytes code)) [.int .i64 ((pickC code c (([3, 4, 2, 5, 1, 6, 7]).length : Int)).pos), .int .u64 ((pickC code c (([3, 4, 2, 5, 1, 6, 7]).length : Int)).seed)] [.int .i64 ((pickC code (pickC code c (([3, 4, 2, 5, 1, 6, 7]).length : Int)) (([4, 3, 5, 2, 6, 7, 1, 0]).length : Int)).pos), .int .u64 ((pickC code (pickC code c (([3, 4, 2, 5, 1, 6, 7]).length : Int)) (([4, 3, 5, 2, 6, 7, 1, 0]).length : Int)).seed)] [.sl (.ints ([4, 3, 5, 2, 6, 7, 1, 0]))] (.one (.d (.int .i64 (([4, 3, 5, 2, 6, 7, 1, 0]).getD (pickV code (pickC code c (([3, 4, 2, 5, 1, 6, 7]).length : Int)) (([4, 3, 5, 2, 6, 7, 1, 0]).length : Int)).toNat 0))))) ∧ (∃ n' : Int, ∃ m' : Int, ∃ c0' : Cur, (s_l1Cur_rawField_JR1 u code c most n' m' c0') ∧ (most = most) ∧ ((([3, 4, 2, 5, 1, 6, 7]).getD (pickV code c (([3, 4, 2, 5, 1, 6, 7]).length : Int)).toNat 0) = n') ∧ ((([4, 3, 5, 2, 6, 7, 1, 0]).getD (pickV code (pickC code c (([3, 4, 2, 5, 1, 6, 7]).length : Int)) (([4, 3, 5, 2, 6, 7, 1, 0]).length : Int)).toNat 0) = m') ∧ ((.lit u (.sl (.bytes code)) : D) = .lit u (.sl (.bytes code))) ∧ ((pickC code (pickC code c (([3, 4, 2, 5, 1, 6, 7]).length : Int)) (([4, 3, 5, 2, 6, 7, 1, 0]).length : Int)).pos = c0'.pos) ∧ ((pickC code (pickC code c (([3, 4, 2, 5, 1, 6, 7]).length : Int)) (([4, 3, 5, 2, 6, 7, 1, 0]).length : Int)).seed = c0'.seed))) ∧ (∀ n : Int, ∀ m : Int, ∀ c0 : Cur, (s_l1Cur_rawField_JR1 u code c most n m c0) → ((((4 : Nat) = 4) ∧ (PK Try.prog 106 98 (.sl (.bytes code)) [.int .i64 c0.pos, .int .u64 c0.seed] [.int .i64 ((pickC code c0 (([10, 10, 20, 4]).length : Int)).pos), .int .u64 ((pickC code c0 (([10, 10, 20, 4]).length : Int)).seed)] [.sl (.ints ([10, 10, 20, 4]))] (.one (.d (.int .i64 (([10, 10, 20, 4]).getD (pickV code c0 (([10, 10, 20, 4]).length : Int)).toNat 0))))) ∧ (∃ big' : Int, ∃ c1' : Cur, ∃ O0' : List Int, ∃ D0' : List (List Int), (s_l1Cur_rawField_JR2 u code c most n m c0 big' c1' O0' D0') ∧ (most = most) ∧ (n = n) ∧ (m = m) ∧ ((([10, 10, 20, 4]).getD (pickV code c0 (([10, 10, 20, 4]).length : Int)).toNat 0) = big') ∧ ((.lit u (.sl (.bytes code)) : D) = .lit u (.sl (.bytes code))) ∧ ((pickC code c0 (([10, 10, 20, 4]).length : Int)).pos = c1'.pos) ∧ ((pickC code c0 (([10, 10, 20, 4]).length : Int)).seed = c1'.seed) ∧ ((O0').length = 0) ∧ ((D0').length = 0) ∧ ((0 : Nat) = O0'.length) ∧ ((0 : Nat) = D0'.length))) ∧ (∀ big : Int, ∀ c1 : Cur, ∀ O0 : List Int, ∀ D0 : List (List Int), (s_l1Cur_rawField_JR2 u code c most n m c0 big c1 O0 D0) → ((((∃ a' : Int, ∃ c3' : Cur, ∃ O1' : List Int, ∃ D1' : List (List Int), (s_l1Cur_rawField_JJ0 u code c most n m c0 big c1 O0 D0 a' c3' O1' D1') ∧ (most = most) ∧ (n = n) ∧ (m = m) ∧ (big = big) ∧ ((0 : Int) = a') ∧ ((.lit u (.sl (.bytes code)) : D) = .lit u (.sl (.bytes code))) ∧ (c1.pos = c3'.pos) ∧ (c1.seed = c3'.seed) ∧ (O0 = O1') ∧ (D0 = D1') ∧ (O0.length = O1'.length) ∧ (D0.length = D1'.length)) ∧ (∀ a : Int, ∀ c3 : Cur, ∀ O1 : List Int, ∀ D1 : List (List Int), (s_l1Cur_rawField_JJ0 u code c most n m c0 big c1 O0 D0 a c3 O1 D1) → ((decide (a < n)) = true → (decide (a < n)) = true) ∧ ((decide (a < n)) = true → (decide (a < n)) = true) ∧ (true = true) ∧ (((decide (a < n)) = true → (decide (a < n)) = true)) ∧ (((decide (a < n)) = false → true = true)) ∧ (((cond (decide (a < n)) (decide (a < most)) false) = true → (true = true) ∧ (PK Try.prog 107 98 (.sl (.bytes code)) [.int .i64 c3.pos, .int .u64 c3.seed] [.int .i64 ((pickC code c3 big).pos), .int .u64 ((pickC code c3 big).seed)] [.int .i64 big] (.one (.d (.int .i64 (pickV code c3 big))))) ∧ (O1.length = O1.length) ∧ ((1 : Nat) = 1) ∧ ((O1.length + 1) * 8 ≤ 140737488355328) ∧ (-9223372036854775808 ≤ (a + 1) ∧ (a + 1) ≤ 9223372036854775807) ∧ (∃ a' : Int, ∃ c3' : Cur, ∃ O1' : List Int, ∃ D1' : List (List Int), (s_l1Cur_rawField_JJ0 u code c most n m c0 big c1 O0 D0 a' c3' O1' D1') ∧ (s_l1Cur_rawField_mJ0 u code c most n m c0 big c1 O0 D0 a' c3' O1' D1' < s_l1Cur_rawField_mJ0 u code c most n m c0 big c1 O0 D0 a c3 O1 D1) ∧ (most = most) ∧ (n = n) ∧ (m = m) ∧ (big = big) ∧ ((a + 1) = a') ∧ ((.lit u (.sl (.bytes code)) : D) = .lit u (.sl (.bytes code))) ∧ ((pickC code c3 big).pos = c3'.pos) ∧ ((pickC code c3 big).seed = c3'.seed) ∧ ((O1 ++ [(pickV code c3 big)]) = O1') ∧ (D1 = D1') ∧ ((O1.length + 1) = O1'.length) ∧ (D1.length = D1'.length))) ∧ ((cond (decide (a < n)) (decide (a < most)) false) = false → (∃ c4' : Cur, ∃ O2' : List Int, ∃ D2' : List (List Int), (s_l1Cur_rawField_JA0 u code c most n m c0 big c1 O0 D0 c4' O2' D2') ∧ (most = most) ∧ (m = m) ∧ (big = big) ∧ ((.lit u (.sl (.bytes code)) : D) = .lit u (.sl (.bytes code))) ∧ (c3.pos = c4'.pos) ∧ (c3.seed = c4'.seed) ∧ (O1 = O2') ∧ (D1 = D2') ∧ (O1.length = O2'.length) ∧ (D1.length = D2'.length))))))) ∧ (∀ c4 : Cur, ∀ O2 : List Int, ∀ D2 : List (List Int), (s_l1Cur_rawField_JA0 u code c most n m c0 big c1 O0 D0 c4 O2 D2) → ((∃ i' : Int, ∃ c5' : Cur, ∃ O3' : List Int, ∃ D3' : List (List Int), (s_l1Cur_rawField_JJ1 u code c most n m c0 big c1 O0 D0 c4 O2 D2 i' c5' O3' D3') ∧ (most = most) ∧ (m = m) ∧ (big = big) ∧ ((0 : Int) = i') ∧ ((.lit u (.sl (.bytes code)) : D) = .lit u (.sl (.bytes code))) ∧ (c4.pos = c5'.pos) ∧ (c4.seed = c5'.seed) ∧ (O2 = O3') ∧ (D2 = D3') ∧ (O2.length = O3'.length) ∧ (D2.length = D3'.length)) ∧ (∀ i : Int, ∀ c5 : Cur, ∀ O3 : List Int, ∀ D3 : List (List Int), (s_l1Cur_rawField_JJ1 u code c most n m c0 big c1 O0 D0 c4 O2 D2 i c5 O3 D3) → ((decide (i < m)) = true → (decide (i < m)) = true) ∧ ((decide (i < m)) = true → (decide (i < m)) = true) ∧ (true = true) ∧ (((decide (i < m)) = true → (decide (i < m)) = true)) ∧ (((decide (i < m)) = false → true = true)) ∧ (((cond (decide (i < m)) (decide (i < most)) false) = true → ((∃ row' : List Int, ∃ a2' : Int, ∃ c6' : Cur, (s_l1Cur_rawField_JJ2 u code c most n m c0 big c1 O0 D0 c4 O2 D2 i c5 O3 D3 row' a2' c6') ∧ (most = most) ∧ (m = m) ∧ (big = big) ∧ (i = i) ∧ ((0 : Nat) = row'.length) ∧ ((0 : Int) = a2') ∧ ([] = row') ∧ ((.lit u (.sl (.bytes code)) : D) = .lit u (.sl (.bytes code))) ∧ (c5.pos = c6'.pos) ∧ (c5.seed = c6'.seed) ∧ (O3.length = O3.length) ∧ (D3.length = D3.length) ∧ (O3 = O3) ∧ (D3 = D3)) ∧ (∀ row : List Int, ∀ a2 : Int, ∀ c6 : Cur, (s_l1Cur_rawField_JJ2 u code c most n m c0 big c1 O0 D0 c4 O2 D2 i c5 O3 D3 row a2 c6) → (((decide (a2 < (O3.length : Int))) = true → (PK Try.prog 107 98 (.sl (.bytes code)) [.int .i64 c6.pos, .int .u64 c6.seed] [.int .i64 ((pickC code c6 big).pos), .int .u64 ((pickC code c6 big).seed)] [.int .i64 big] (.one (.d (.int .i64 (pickV code c6 big))))) ∧ (row.length = row.length) ∧ ((1 : Nat) = 1) ∧ ((row.length + 1) * 8 ≤ 140737488355328) ∧ (-9223372036854775808 ≤ (a2 + 1) ∧ (a2 + 1) ≤ 9223372036854775807) ∧ (∃ row' : List Int, ∃ a2' : Int, ∃ c6' : Cur, (s_l1Cur_rawField_JJ2 u code c most n m c0 big c1 O0 D0 c4 O2 D2 i c5 O3 D3 row' a2' c6') ∧ (s_l1Cur_rawField_mJ2 u code c most n m c0 big c1 O0 D0 c4 O2 D2 i c5 O3 D3 row' a2' c6' < s_l1Cur_rawField_mJ2 u code c most n m c0 big c1 O0 D0 c4 O2 D2 i c5 O3 D3 row a2 c6) ∧ (most = most) ∧ (m = m) ∧ (big = big) ∧ (i = i) ∧ ((row.length + 1) = row'.length) ∧ ((a2 + 1) = a2') ∧ ((row ++ [(pickV code c6 big)]) = row') ∧ ((.lit u (.sl (.bytes code)) : D) = .lit u (.sl (.bytes code))) ∧ ((pickC code c6 big).pos = c6'.pos) ∧ ((pickC code c6 big).seed = c6'.seed) ∧ (O3.length = O3.length) ∧ (D3.length = D3.length) ∧ (O3 = O3) ∧ (D3 = D3))) ∧ ((decide (a2 < (O3.length : Int))) = false → (row.length = row.length) ∧ (D3.length = D3.length) ∧ ((1 : Nat) = 1) ∧ (0 < 1) ∧ ((D3.length + 1) * 24 ≤ 140737488355328) ∧ (-9223372036854775808 ≤ (i + 1) ∧ (i + 1) ≤ 9223372036854775807) ∧ (∃ i' : Int, ∃ c5' : Cur, ∃ O3' : List Int, ∃ D3' : List (List Int), (s_l1Cur_rawField_JJ1 u code c most n m c0 big c1 O0 D0 c4 O2 D2 i' c5' O3' D3') ∧ (s_l1Cur_rawField_mJ1 u code c most n m c0 big c1 O0 D0 c4 O2 D2 i' c5' O3' D3' < s_l1Cur_rawField_mJ1 u code c most n m c0 big c1 O0 D0 c4 O2 D2 i c5 O3 D3) ∧ (most = most) ∧ (m = m) ∧ (big = big) ∧ ((i + 1) = i') ∧ ((.lit u (.sl (.bytes code)) : D) = .lit u (.sl (.bytes code))) ∧ (c6.pos = c5'.pos) ∧ (c6.seed = c5'.seed) ∧ (O3 = O3') ∧ ((D3 ++ [row]) = D3') ∧ (O3.length = O3'.length) ∧ ((D3.length + 1) = D3'.length))))))) ∧ ((cond (decide (i < m)) (decide (i < most)) false) = false → (∃ O' : List Int, ∃ D' : List (List Int), ∃ cf' : Cur, (s_l1Cur_rawField_Q code c most O' D' cf') ∧ (true = true) ∧ ((.lit u (.sl (.bytes code)) : D) = .lit u (.sl (.bytes code))) ∧ (c5.pos = cf'.pos) ∧ (c5.seed = cf'.seed) ∧ (O3.length = O3.length) ∧ ((O3 : List Int) = O') ∧ (D3.length = D3.length) ∧ ((D3 : List (List Int)) = D'))))))))))))
theorem s_l1Cur_rawField_vc (u : Value) (code : List Nat) (c : Cur) (most : Int) (hb : ∀ x9 ∈ code, x9 < 256) (hc : okC c 3000000) (hm : 0 ≤ most ∧ most ≤ 7)  : s_l1Cur_rawField_P u code c most := by
  unfold s_l1Cur_rawField_P
  refine ⟨?_, ?_⟩
  ·refine ⟨rfl, ?_, rfl, ?_, ?_⟩
   ·refine s_l1Cur_among_pk code c ([3, 4, 2, 5, 1, 6, 7]) ?_ ?_ ?_
    ·exact hb
    ·exact okC_le (by repeat (first | assumption | apply ok_cond | apply ok_pick | apply ok_next | exact okC0)) (by omega)
    ·simp
   ·refine s_l1Cur_among_pk code (pickC code c (([3, 4, 2, 5, 1, 6, 7]).length : Int)) ([4, 3, 5, 2, 6, 7, 1, 0]) ?_ ?_ ?_
    ·exact hb
    ·exact okC_le (by repeat (first | assumption | apply ok_cond | apply ok_pick | apply ok_next | exact okC0)) (by omega)
    ·simp
   ·refine ⟨(([3, 4, 2, 5, 1, 6, 7]).getD (pickV code c (([3, 4, 2, 5, 1, 6, 7]).length : Int)).toNat 0), (([4, 3, 5, 2, 6, 7, 1, 0]).getD (pickV code (pickC code c (([3, 4, 2, 5, 1, 6, 7]).length : Int)) (([4, 3, 5, 2, 6, 7, 1, 0]).length : Int)).toNat 0), (pickC code (pickC code c (([3, 4, 2, 5, 1, 6, 7]).length : Int)) (([4, 3, 5, 2, 6, 7, 1, 0]).length : Int)), ?_⟩
    refine ⟨?_, rfl, rfl, rfl, rfl, rfl, rfl⟩
    ·refine ⟨?_, ?_, ?_⟩
     ·exact pick_ev (p := fun z => 0 ≤ z ∧ z ≤ 7) [3, 4, 2, 5, 1, 6, 7] code _ (by simp) (by simp)
     ·exact pick_ev (p := fun z => 0 ≤ z ∧ z ≤ 7) [4, 3, 5, 2, 6, 7, 1, 0] code _ (by simp) (by simp)
     ·exact okC_le (by repeat (first | assumption | apply ok_cond | apply ok_pick | apply ok_next | exact okC0)) (by omega)
  ·intro n m c0 hJ
   obtain ⟨n1, n2, n7⟩ := hJ
   refine ⟨?_, ?_⟩
   ·refine ⟨rfl, ?_, ?_⟩
    ·refine s_l1Cur_among_pk code c0 ([10, 10, 20, 4]) ?_ ?_ ?_
     ·exact hb
     ·exact okC_le (by repeat (first | assumption | apply ok_cond | apply ok_pick | apply ok_next | exact okC0)) (by omega)
     ·simp
    ·refine ⟨(([10, 10, 20, 4]).getD (pickV code c0 (([10, 10, 20, 4]).length : Int)).toNat 0), (pickC code c0 (([10, 10, 20, 4]).length : Int)), ([]), ([]), ?_⟩
     refine ⟨?_, rfl, rfl, rfl, rfl, rfl, rfl, rfl, ?_, ?_, rfl, rfl⟩
     ·refine ⟨?_, ?_, ?_, ?_⟩
      ·exact pick_ev (p := fun z => 1 ≤ z ∧ z ≤ 20) [10, 10, 20, 4] code _ (by simp) (by simp)
      ·exact okC_le (by repeat (first | assumption | apply ok_cond | apply ok_pick | apply ok_next | exact okC0)) (by omega)
      ·first | rfl | assumption
      ·first | rfl | assumption
     ·rfl
     ·rfl
   ·intro big c1 O0 D0 hJ
    obtain ⟨n3, n4, n5, n6⟩ := hJ
    refine ⟨?_, ?_⟩
    ·refine ⟨?_, ?_⟩
     ·refine ⟨0, c1, O0, D0, ?_⟩
      refine ⟨?_, rfl, rfl, rfl, rfl, rfl, rfl, rfl, rfl, rfl, rfl, rfl, rfl⟩
      ·refine ⟨?_, ?_, ?_, ?_, ?_⟩
       ·omega
       ·omega
       ·(simp_all; done)
       ·first | rfl | assumption
       ·exact okC_le (by repeat (first | assumption | apply ok_cond | apply ok_pick | apply ok_next | exact okC0)) (by omega)
     ·intro a c3 O1 D1 hJ
      obtain ⟨h1, h2, h3, h4, h5⟩ := hJ
      refine ⟨id, id, rfl, id, fun _ => rfl, ?_, ?_⟩
      ·intro b1
       refine ⟨rfl, ?_, rfl, rfl, ?_, ?_, ?_⟩
       ·refine s_l1Cur_pick_pk code c3 big ?_ ?_
        ·exact hb
        ·exact okC_le (by repeat (first | assumption | apply ok_cond | apply ok_pick | apply ok_next | exact okC0)) (by omega)
       ·omega
       ·omega
       ·refine ⟨(a + 1), (pickC code c3 big), (O1 ++ [(pickV code c3 big)]), D1, ?_⟩
        refine ⟨?_, ?_, rfl, rfl, rfl, rfl, rfl, rfl, rfl, rfl, rfl, rfl, ?_, rfl⟩
        ·refine ⟨?_, ?_, ?_, ?_, ?_⟩
         ·omega
         ·(simp_all <;> omega)
         ·(simp_all <;> omega)
         ·first | rfl | assumption
         ·exact okC_le (by repeat (first | assumption | apply ok_cond | apply ok_pick | apply ok_next | exact okC0)) (by omega)
        ·first | (show _ < _; omega) | (simp only [s_l1Cur_rawField_mJ0]; omega) | (simp only [s_l1Cur_rawField_mJ0] at *; simp at *; omega)
        ·simp
      ·intro b2
       refine ⟨c3, O1, D1, ?_⟩
       refine ⟨?_, rfl, rfl, rfl, rfl, rfl, rfl, rfl, rfl, rfl, rfl⟩
       ·refine ⟨?_, ?_, ?_⟩
        ·exact okC_le (by repeat (first | assumption | apply ok_cond | apply ok_pick | apply ok_next | exact okC0)) (by omega)
        ·omega
        ·first | rfl | assumption
    ·intro c4 O2 D2 hJ
     obtain ⟨j0, j1, j2⟩ := hJ
     refine ⟨?_, ?_⟩
     ·refine ⟨0, c4, O2, D2, ?_⟩
      refine ⟨?_, rfl, rfl, rfl, rfl, rfl, rfl, rfl, rfl, rfl, rfl, rfl⟩
      ·refine ⟨?_, ?_, ?_, ?_, ?_, ?_⟩
       ·omega
       ·omega
       ·(simp_all; done)
       ·omega
       ·exact okC_le (by repeat (first | assumption | apply ok_cond | apply ok_pick | apply ok_next | exact okC0)) (by omega)
       ·first | (rw [j2]; intro r hr; cases hr) | (intro r hr; cases hr)
     ·intro i c5 O3 D3 hJ
      obtain ⟨k1, k2, k3, k4, k5, k6⟩ := hJ
      refine ⟨id, id, rfl, id, fun _ => rfl, ?_, ?_⟩
      ·intro b3
       refine ⟨?_, ?_⟩
       ·refine ⟨([]), 0, c5, ?_⟩
        refine ⟨?_, rfl, rfl, rfl, rfl, rfl, rfl, ?_, rfl, rfl, rfl, rfl, rfl, rfl, rfl⟩
        ·refine ⟨?_, ?_, ?_, ?_, ?_⟩
         ·omega
         ·omega
         ·rfl
         ·exact okC_le (by repeat (first | assumption | apply ok_cond | apply ok_pick | apply ok_next | exact okC0)) (by omega)
         ·first | (rw [j2]; intro r hr; cases hr) | (intro r hr; cases hr)
        ·rfl
       ·intro row a2 c6 hJ
        obtain ⟨m1, m2, m3, m4, m5⟩ := hJ
        refine ⟨?_, ?_⟩
        ·intro b4
         try simp only [nrmT] at b4
         refine ⟨?_, rfl, rfl, ?_, ?_, ?_⟩
         ·refine s_l1Cur_pick_pk code c6 big ?_ ?_
          ·exact hb
          ·exact okC_le (by repeat (first | assumption | apply ok_cond | apply ok_pick | apply ok_next | exact okC0)) (by omega)
         ·omega
         ·omega
         ·refine ⟨(row ++ [(pickV code c6 big)]), (a2 + 1), (pickC code c6 big), ?_⟩
          refine ⟨?_, ?_, rfl, rfl, rfl, rfl, ?_, rfl, rfl, rfl, rfl, rfl, rfl, rfl, rfl, rfl⟩
          ·refine ⟨?_, ?_, ?_, ?_, ?_⟩
           ·omega
           ·omega
           ·(simp_all <;> omega)
           ·exact okC_le (by repeat (first | assumption | apply ok_cond | apply ok_pick | apply ok_next | exact okC0)) (by omega)
           ·refine all_snoc (by assumption) ?_
            have v := pickV_in code c6 (n := big) (by omega)
            omega
          ·first | (show _ < _; omega) | (simp only [s_l1Cur_rawField_mJ2]; omega) | (simp only [s_l1Cur_rawField_mJ2] at *; simp at *; omega)
          ·simp
        ·intro b5
         try simp only [nrmT] at b5
         refine ⟨rfl, rfl, rfl, by decide, ?_, ?_, ?_⟩
         ·omega
         ·omega
         ·refine ⟨(i + 1), c6, O3, (D3 ++ [row]), ?_⟩
          refine ⟨?_, ?_, rfl, rfl, rfl, rfl, rfl, rfl, rfl, rfl, rfl, rfl, ?_⟩
          ·refine ⟨?_, ?_, ?_, ?_, ?_, ?_⟩
           ·omega
           ·(simp_all <;> omega)
           ·(simp_all <;> omega)
           ·omega
           ·exact okC_le (by repeat (first | assumption | apply ok_cond | apply ok_pick | apply ok_next | exact okC0)) (by omega)
           ·refine all_snoc (by assumption) ?_
            exact ⟨by omega, by assumption⟩
          ·first | (show _ < _; omega) | (simp only [s_l1Cur_rawField_mJ1]; omega) | (simp only [s_l1Cur_rawField_mJ1] at *; simp at *; omega)
          ·simp
      ·intro b6
       refine ⟨O3, D3, c5, ?_⟩
       refine ⟨?_, rfl, rfl, rfl, rfl, rfl, rfl, rfl, rfl⟩
       ·refine ⟨?_, ?_⟩
        ·exact okC_le (by repeat (first | assumption | apply ok_cond | apply ok_pick | apply ok_next | exact okC0)) (by omega)
        ·exact ⟨by omega, by omega, by assumption⟩
theorem s_l1Cur_rawField_pke (code : List Nat) (c : Cur) (most : Int) (hb : ∀ x9 ∈ code, x9 < 256) (hc : okC c 3000000) (hm : 0 ≤ most ∧ most ≤ 7) : PKE Try.prog 242 98 (.sl (.bytes code)) [.int .i64 c.pos, .int .u64 c.seed] [.int .i64 most] (s_l1Cur_rawField_X code c most) :=
  pke_by (Q := fun u => s_l1Cur_rawField_P u code c most) (by kernel_rfl) Try.func242 @Try.call242 (by kernel_rfl) s_l1Cur_rawField_C (fun u => s_l1Cur_rawField_A u code c most) (by kernel_rfl) (fun u => s_l1Cur_rawField_vc u code c most hb hc hm) (fun u => by kernel_rfl)
abbrev s_l1Cur_lineField_JJ0 (u : Value) (code : List Nat) (c : Cur) (most : Int) (pl : List Int) (c0 : Cur) (O0 : List Int) (D0 : List (List Int)) (pl2 : List Int) (a : Int) (c1 : Cur) : Prop := (0 ≤ a) ∧ (a ≤ (O0.length : Int)) ∧ (pl2.length = a.toNat) ∧ (∀ y ∈ pl2, 0 ≤ y ∧ y < 20) ∧ (okC c1 (4000000 + 4 * a))
abbrev s_l1Cur_lineField_mJ0 (u : Value) (code : List Nat) (c : Cur) (most : Int) (pl : List Int) (c0 : Cur) (O0 : List Int) (D0 : List (List Int)) (pl2 : List Int) (a : Int) (c1 : Cur) : Nat := (O0.length - a).toNat
abbrev s_l1Cur_lineField_JA0 (u : Value) (code : List Nat) (c : Cur) (most : Int) (pl : List Int) (c0 : Cur) (O0 : List Int) (D0 : List (List Int)) (pl1 : List Int) (c2 : Cur) : Prop := (okC c2 4001000) ∧ (pl1.length = O0.length) ∧ (∀ y ∈ pl1, 0 ≤ y ∧ y < 20)
abbrev s_l1Cur_lineField_JJ1 (u : Value) (code : List Nat) (c : Cur) (most : Int) (pl : List Int) (c0 : Cur) (O0 : List Int) (D0 : List (List Int)) (pl1 : List Int) (c2 : Cur) (i : Int) (c3 : Cur) (O1 : List Int) (D1 : List (List Int)) : Prop := (0 ≤ i) ∧ (i ≤ (D1.length : Int)) ∧ (drF O1 D1) ∧ (pl1.length = O1.length) ∧ (okC c3 (4001000 + 10 * i))
abbrev s_l1Cur_lineField_mJ1 (u : Value) (code : List Nat) (c : Cur) (most : Int) (pl : List Int) (c0 : Cur) (O0 : List Int) (D0 : List (List Int)) (pl1 : List Int) (c2 : Cur) (i : Int) (c3 : Cur) (O1 : List Int) (D1 : List (List Int)) : Nat := (D1.length - i).toNat
abbrev s_l1Cur_lineField_JJ2 (u : Value) (code : List Nat) (c : Cur) (most : Int) (pl : List Int) (c0 : Cur) (O0 : List Int) (D0 : List (List Int)) (pl1 : List Int) (c2 : Cur) (i : Int) (c3 : Cur) (O1 : List Int) (D1 : List (List Int)) (x : Int) (c5 : Cur) (a2 : Int) (D2 : List (List Int)) : Prop := (0 ≤ a2) ∧ (a2 ≤ (O1.length : Int)) ∧ (drF O1 D2) ∧ (D2.length = D1.length)
abbrev s_l1Cur_lineField_mJ2 (u : Value) (code : List Nat) (c : Cur) (most : Int) (pl : List Int) (c0 : Cur) (O0 : List Int) (D0 : List (List Int)) (pl1 : List Int) (c2 : Cur) (i : Int) (c3 : Cur) (O1 : List Int) (D1 : List (List Int)) (x : Int) (c5 : Cur) (a2 : Int) (D2 : List (List Int)) : Nat := (O1.length - a2).toNat
abbrev s_l1Cur_lineField_JR1 (u : Value) (code : List Nat) (c : Cur) (most : Int) (pl : List Int) (c0 : Cur) (O0 : List Int) (D0 : List (List Int)) : Prop := (pl = []) ∧ (okC c0 4000000) ∧ (drF O0 D0)
abbrev s_l1Cur_lineField_JR9 (u : Value) (code : List Nat) (c : Cur) (most : Int) (pl : List Int) (c0 : Cur) (O0 : List Int) (D0 : List (List Int)) (pl1 : List Int) (c2 : Cur) (i : Int) (c3 : Cur) (O1 : List Int) (D1 : List (List Int)) (x : Int) (c5 : Cur) : Prop := (0 ≤ x ∧ x < 20) ∧ (okC c5 (4001010 + 10 * i))
abbrev s_l1Cur_lineField_Q (code : List Nat) (c : Cur) (most : Int) (O : List Int) (D : List (List Int)) (cg : Cur) : Prop := (okC cg 6000000) ∧ (drF O D)
def s_l1Cur_lineField_X (code : List Nat) (c : Cur) (most : Int) : Ex := ex3 1 (fun (O : List Int) (D : List (List Int)) (cg : Cur) => s_l1Cur_lineField_Q code c most O D cg) (fun (O : List Int) (D : List (List Int)) (cg : Cur) => [.int .i64 cg.pos, .int .u64 cg.seed]) (fun (O : List Int) (D : List (List Int)) (cg : Cur) => .agg [.own 3 (.ints O), .mat 3 26 D])
def s_l1Cur_lineField_C (f : FuncId) (ds : List D) : Orc := bif Nat.beq f 152 then s_l1Most_orc ds else .no
def s_l1Cur_lineField_A (u : Value) (code : List Nat) (c : Cur) (most : Int) : Ann := .two (.none) (.cut (.exr (.ex [] 2 (s_l1Cur_rawField_X code c most) (fun g => (fun (Or1 : List Int) (Dr1 : List (List Int)) (cfr1 : Cur) => .ms [] []) (g.1) (g.2.1) (g.2.2)))) (cut4 (fun (pl : List Int) (c0 : Cur) (O0 : List Int) (D0 : List (List Int)) => s_l1Cur_lineField_JR1 u code c most pl c0 O0 D0) (fun (pl : List Int) (c0 : Cur) (O0 : List Int) (D0 : List (List Int)) => [(0, .ptr 0 0), (4, .ptr 4 0), (5, .ptr 5 0), (6, .own 1500100 pl.length)]) (fun (pl : List Int) (c0 : Cur) (O0 : List Int) (D0 : List (List Int)) => [(1500100, .arr true 3 (.ints pl)), (0, .box 98 [.d false (.lit u (.sl (.bytes code))), .d true (.int .i64 c0.pos), .d true (.int .u64 c0.seed)]), (4, .box 39 [.d true (.nil), .d true (.nil)]), (1500102, .arr true 3 (.ints O0)), (1500103, .mat 3 26 D0 none), (5, .box 39 [.own 1500102 O0.length, .own 1500103 D0.length])])) (fun g => (fun (pl : List Int) (c0 : Cur) (O0 : List Int) (D0 : List (List Int)) => .cut (.two (.none) (.loop (cut3 (fun (pl2 : List Int) (a : Int) (c1 : Cur) => s_l1Cur_lineField_JJ0 u code c most pl c0 O0 D0 pl2 a c1) (fun (pl2 : List Int) (a : Int) (c1 : Cur) => [(0, .ptr 0 0), (4, .ptr 4 0), (5, .ptr 5 0), (6, .own 1000000 pl2.length), (7, .d true (.int .i64 a))]) (fun (pl2 : List Int) (a : Int) (c1 : Cur) => [(1000000, .arr true 3 (.ints pl2)), (0, .box 98 [.d false (.lit u (.sl (.bytes code))), .d true (.int .i64 c1.pos), .d true (.int .u64 c1.seed)]), (4, .box 39 [.d true (.nil), .d true (.nil)]), (5, .box 39 [.own 1500102 O0.length, .own 1500103 D0.length]), (1500102, .arr true 3 (.ints O0)), (1500103, .mat 3 26 D0 none)])) (fun g => s_l1Cur_lineField_mJ0 u code c most pl c0 O0 D0 g.1 g.2.1 g.2.2) (fun g => (fun (pl2 : List Int) (a : Int) (c1 : Cur) => .two (.none) (.two (.mark [] [(2, .cell [.int .i64 ((pickC code c1 20).pos), .int .u64 ((pickC code c1 20).seed)] (.one (.d (.int .i64 (pickV code c1 20)))))]) (.none))) (g.1) (g.2.1) (g.2.2)))) (cut2 (fun (pl1 : List Int) (c2 : Cur) => s_l1Cur_lineField_JA0 u code c most pl c0 O0 D0 pl1 c2) (fun (pl1 : List Int) (c2 : Cur) => [(0, .ptr 0 0), (4, .ptr 4 0), (5, .ptr 5 0), (6, .own 1000050 pl1.length)]) (fun (pl1 : List Int) (c2 : Cur) => [(1000050, .arr true 3 (.ints pl1)), (0, .box 98 [.d false (.lit u (.sl (.bytes code))), .d true (.int .i64 c2.pos), .d true (.int .u64 c2.seed)]), (4, .box 39 [.d true (.nil), .d true (.nil)]), (5, .box 39 [.own 1500102 O0.length, .own 1500103 D0.length]), (1500102, .arr true 3 (.ints O0)), (1500103, .mat 3 26 D0 none)])) (fun g => (fun (pl1 : List Int) (c2 : Cur) => .two (.two (.none) (.loop (cut4 (fun (i : Int) (c3 : Cur) (O1 : List Int) (D1 : List (List Int)) => s_l1Cur_lineField_JJ1 u code c most pl c0 O0 D0 pl1 c2 i c3 O1 D1) (fun (i : Int) (c3 : Cur) (O1 : List Int) (D1 : List (List Int)) => [(0, .ptr 0 0), (4, .ptr 4 0), (5, .ptr 5 0), (6, .own 1000050 pl1.length), (8, .d true (.int .i64 i))]) (fun (i : Int) (c3 : Cur) (O1 : List Int) (D1 : List (List Int)) => [(0, .box 98 [.d false (.lit u (.sl (.bytes code))), .d true (.int .i64 c3.pos), .d true (.int .u64 c3.seed)]), (4, .box 39 [.d true (.nil), .d true (.nil)]), (1000102, .arr true 3 (.ints O1)), (1000103, .mat 3 26 D1 none), (5, .box 39 [.own 1000102 O1.length, .own 1000103 D1.length]), (1000050, .arr true 3 (.ints pl1))])) (fun g => s_l1Cur_lineField_mJ1 u code c most pl c0 O0 D0 pl1 c2 g.1 g.2.1 g.2.2.1 g.2.2.2) (fun g => (fun (i : Int) (c3 : Cur) (O1 : List Int) (D1 : List (List Int)) => .two (.none) (.two (.cut (.mark [] [(1, .cell [.int .i64 ((pickC code c3 20).pos), .int .u64 ((pickC code c3 20).seed)] (.one (.d (.int .i64 (pickV code c3 20)))))]) (cut2 (fun (x : Int) (c5 : Cur) => s_l1Cur_lineField_JR9 u code c most pl c0 O0 D0 pl1 c2 i c3 O1 D1 x c5) (fun (x : Int) (c5 : Cur) => [(0, .ptr 0 0), (4, .ptr 4 0), (5, .ptr 5 0), (6, .own 1000050 pl1.length), (8, .d true (.int .i64 i)), (9, .d true (.int .i64 x))]) (fun (x : Int) (c5 : Cur) => [(0, .box 98 [.d false (.lit u (.sl (.bytes code))), .d true (.int .i64 c5.pos), .d true (.int .u64 c5.seed)]), (4, .box 39 [.d true (.nil), .d true (.nil)]), (5, .box 39 [.own 1000102 O1.length, .own 1000103 D1.length]), (1000050, .arr true 3 (.ints pl1)), (1000102, .arr true 3 (.ints O1)), (1000103, .mat 3 26 D1 none)])) (fun g => (fun (x : Int) (c5 : Cur) => .two (.none) (.loop (cut2 (fun (a2 : Int) (D2 : List (List Int)) => s_l1Cur_lineField_JJ2 u code c most pl c0 O0 D0 pl1 c2 i c3 O1 D1 x c5 a2 D2) (fun (a2 : Int) (D2 : List (List Int)) => [(0, .ptr 0 0), (4, .ptr 4 0), (5, .ptr 5 0), (6, .own 1000050 pl1.length), (8, .d true (.int .i64 i)), (9, .d true (.int .i64 x)), (10, .d true (.int .i64 a2))]) (fun (a2 : Int) (D2 : List (List Int)) => [(0, .box 98 [.d false (.lit u (.sl (.bytes code))), .d true (.int .i64 c5.pos), .d true (.int .u64 c5.seed)]), (4, .box 39 [.d true (.nil), .d true (.nil)]), (1000201, .mat 3 26 D2 none), (5, .box 39 [.own 1000102 O1.length, .own 1000201 D2.length]), (1000050, .arr true 3 (.ints pl1)), (1000102, .arr true 3 (.ints O1))])) (fun g => s_l1Cur_lineField_mJ2 u code c most pl c0 O0 D0 pl1 c2 i c3 O1 D1 x c5 g.1 g.2) (fun _ => .none))) (g.1) (g.2))) (.none))) (g.1) (g.2.1) (g.2.2.1) (g.2.2.2)))) (.none)) (g.1) (g.2))) (g.1) (g.2.1) (g.2.2.1) (g.2.2.2)))
def s_l1Cur_lineField_P (u : Value) (code : List Nat) (c : Cur) (most : Int) : Prop :=
  (((PKE Try.prog 242 98 (.sl (.bytes code)) [.int .i64 c.pos, .int .u64 c.seed] [.int .i64 most] (s_l1Cur_rawField_X code c most)) ∧ (∀ Or1 : List Int, ∀ Dr1 : List (List Int), ∀ cfr1 : Cur, s_l1Cur_rawField_Q code c most Or1 Dr1 cfr1 → ((true = true) ∧ (∃ pl' : List Int, ∃ c0' : Cur, ∃ O0' : List Int, ∃ D0' : List (List Int), (s_l1Cur_lineField_JR1 u code c most pl' c0' O0' D0') ∧ ((0 : Nat) = pl'.length) ∧ ([] = pl') ∧ ((.lit u (.sl (.bytes code)) : D) = .lit u (.sl (.bytes code))) ∧ (cfr1.pos = c0'.pos) ∧ (cfr1.seed = c0'.seed) ∧ (Or1 = O0') ∧ (Dr1 = D0') ∧ (Or1.length = O0'.length) ∧ (Dr1.length = D0'.length))))) ∧ (∀ pl : List Int, ∀ c0 : Cur, ∀ O0 : List Int, ∀ D0 : List (List Int), (s_l1Cur_lineField_JR1 u code c most pl c0 O0 D0) → ((((∃ pl2' : List Int, ∃ a' : Int, ∃ c1' : Cur, (s_l1Cur_lineField_JJ0 u code c most pl c0 O0 D0 pl2' a' c1') ∧ (pl.length = pl2'.length) ∧ ((0 : Int) = a') ∧ (pl = pl2') ∧ ((.lit u (.sl (.bytes code)) : D) = .lit u (.sl (.bytes code))) ∧ (c0.pos = c1'.pos) ∧ (c0.seed = c1'.seed) ∧ (O0.length = O0.length) ∧ (D0.length = D0.length) ∧ (O0 = O0) ∧ (D0 = D0)) ∧ (∀ pl2 : List Int, ∀ a : Int, ∀ c1 : Cur, (s_l1Cur_lineField_JJ0 u code c most pl c0 O0 D0 pl2 a c1) → (((decide (a < (O0.length : Int))) = true → (PK Try.prog 107 98 (.sl (.bytes code)) [.int .i64 c1.pos, .int .u64 c1.seed] [.int .i64 ((pickC code c1 20).pos), .int .u64 ((pickC code c1 20).seed)] [.int .i64 20] (.one (.d (.int .i64 (pickV code c1 20))))) ∧ (pl2.length = pl2.length) ∧ ((1 : Nat) = 1) ∧ ((pl2.length + 1) * 8 ≤ 140737488355328) ∧ (-9223372036854775808 ≤ (a + 1) ∧ (a + 1) ≤ 9223372036854775807) ∧ (∃ pl2' : List Int, ∃ a' : Int, ∃ c1' : Cur, (s_l1Cur_lineField_JJ0 u code c most pl c0 O0 D0 pl2' a' c1') ∧ (s_l1Cur_lineField_mJ0 u code c most pl c0 O0 D0 pl2' a' c1' < s_l1Cur_lineField_mJ0 u code c most pl c0 O0 D0 pl2 a c1) ∧ ((pl2.length + 1) = pl2'.length) ∧ ((a + 1) = a') ∧ ((pl2 ++ [(pickV code c1 20)]) = pl2') ∧ ((.lit u (.sl (.bytes code)) : D) = .lit u (.sl (.bytes code))) ∧ ((pickC code c1 20).pos = c1'.pos) ∧ ((pickC code c1 20).seed = c1'.seed) ∧ (O0.length = O0.length) ∧ (D0.length = D0.length) ∧ (O0 = O0) ∧ (D0 = D0))) ∧ ((decide (a < (O0.length : Int))) = false → (∃ pl1' : List Int, ∃ c2' : Cur, (s_l1Cur_lineField_JA0 u code c most pl c0 O0 D0 pl1' c2') ∧ (pl2.length = pl1'.length) ∧ (pl2 = pl1') ∧ ((.lit u (.sl (.bytes code)) : D) = .lit u (.sl (.bytes code))) ∧ (c1.pos = c2'.pos) ∧ (c1.seed = c2'.seed) ∧ (O0.length = O0.length) ∧ (D0.length = D0.length) ∧ (O0 = O0) ∧ (D0 = D0))))))) ∧ (∀ pl1 : List Int, ∀ c2 : Cur, (s_l1Cur_lineField_JA0 u code c most pl c0 O0 D0 pl1 c2) → ((∃ i' : Int, ∃ c3' : Cur, ∃ O1' : List Int, ∃ D1' : List (List Int), (s_l1Cur_lineField_JJ1 u code c most pl c0 O0 D0 pl1 c2 i' c3' O1' D1') ∧ (pl1.length = pl1.length) ∧ ((0 : Int) = i') ∧ ((.lit u (.sl (.bytes code)) : D) = .lit u (.sl (.bytes code))) ∧ (c2.pos = c3'.pos) ∧ (c2.seed = c3'.seed) ∧ (O0 = O1') ∧ (D0 = D1') ∧ (O0.length = O1'.length) ∧ (D0.length = D1'.length) ∧ (pl1 = pl1)) ∧ (∀ i : Int, ∀ c3 : Cur, ∀ O1 : List Int, ∀ D1 : List (List Int), (s_l1Cur_lineField_JJ1 u code c most pl c0 O0 D0 pl1 c2 i c3 O1 D1) → (((decide (i < (D1.length : Int))) = true → (((PK Try.prog 107 98 (.sl (.bytes code)) [.int .i64 c3.pos, .int .u64 c3.seed] [.int .i64 ((pickC code c3 20).pos), .int .u64 ((pickC code c3 20).seed)] [.int .i64 20] (.one (.d (.int .i64 (pickV code c3 20))))) ∧ (∃ x' : Int, ∃ c5' : Cur, (s_l1Cur_lineField_JR9 u code c most pl c0 O0 D0 pl1 c2 i c3 O1 D1 x' c5') ∧ (pl1.length = pl1.length) ∧ (i = i) ∧ ((pickV code c3 20) = x') ∧ ((.lit u (.sl (.bytes code)) : D) = .lit u (.sl (.bytes code))) ∧ ((pickC code c3 20).pos = c5'.pos) ∧ ((pickC code c3 20).seed = c5'.seed) ∧ (O1.length = O1.length) ∧ (D1.length = D1.length) ∧ (pl1 = pl1) ∧ (O1 = O1) ∧ (D1 = D1))) ∧ (∀ x : Int, ∀ c5 : Cur, (s_l1Cur_lineField_JR9 u code c most pl c0 O0 D0 pl1 c2 i c3 O1 D1 x c5) → ((∃ a2' : Int, ∃ D2' : List (List Int), (s_l1Cur_lineField_JJ2 u code c most pl c0 O0 D0 pl1 c2 i c3 O1 D1 x c5 a2' D2') ∧ (pl1.length = pl1.length) ∧ (i = i) ∧ (x = x) ∧ ((0 : Int) = a2') ∧ ((.lit u (.sl (.bytes code)) : D) = .lit u (.sl (.bytes code))) ∧ (c5.pos = c5.pos) ∧ (c5.seed = c5.seed) ∧ (D1 = D2') ∧ (O1.length = O1.length) ∧ (D1.length = D2'.length) ∧ (pl1 = pl1) ∧ (O1 = O1)) ∧ (∀ a2 : Int, ∀ D2 : List (List Int), (s_l1Cur_lineField_JJ2 u code c most pl c0 O0 D0 pl1 c2 i c3 O1 D1 x c5 a2 D2) → (((decide (a2 < (O1.length : Int))) = true → (true = true) ∧ ((0 : Int) ≤ i) ∧ ((i : Int) < (D2.length : Int)) ∧ (i.toNat < D2.length) ∧ ((0 : Int) ≤ a2) ∧ ((a2 : Int) < (pl1.length : Int)) ∧ (a2.toNat < pl1.length) ∧ (-9223372036854775808 ≤ (x - (pl1.getD a2.toNat 0)) ∧ (x - (pl1.getD a2.toNat 0)) ≤ 9223372036854775807) ∧ ((0 : Int) ≤ a2) ∧ ((a2 : Int) < (pl1.length : Int)) ∧ (a2.toNat < pl1.length) ∧ (-9223372036854775808 ≤ ((pl1.getD a2.toNat 0) - x) ∧ ((pl1.getD a2.toNat 0) - x) ≤ 9223372036854775807) ∧ (PC Try.prog 152 [.int .i64 (x - (pl1.getD a2.toNat 0)), .int .i64 ((pl1.getD a2.toNat 0) - x)] (.one (.d (.int .i64 (max (x - (pl1.getD a2.toNat 0)) ((pl1.getD a2.toNat 0) - x)))))) ∧ ((0 : Int) ≤ a2) ∧ ((a2 : Int) < (((D2.getD i.toNat []).length) : Int)) ∧ (i.toNat < D2.length) ∧ (a2.toNat < (D2.getD i.toNat []).length) ∧ (-9223372036854775808 ≤ (a2 + 1) ∧ (a2 + 1) ≤ 9223372036854775807) ∧ (∃ a2' : Int, ∃ D2' : List (List Int), (s_l1Cur_lineField_JJ2 u code c most pl c0 O0 D0 pl1 c2 i c3 O1 D1 x c5 a2' D2') ∧ (s_l1Cur_lineField_mJ2 u code c most pl c0 O0 D0 pl1 c2 i c3 O1 D1 x c5 a2' D2' < s_l1Cur_lineField_mJ2 u code c most pl c0 O0 D0 pl1 c2 i c3 O1 D1 x c5 a2 D2) ∧ (pl1.length = pl1.length) ∧ (i = i) ∧ (x = x) ∧ ((a2 + 1) = a2') ∧ ((.lit u (.sl (.bytes code)) : D) = .lit u (.sl (.bytes code))) ∧ (c5.pos = c5.pos) ∧ (c5.seed = c5.seed) ∧ ((D2.set i.toNat ((D2.getD i.toNat []).set a2.toNat (max (x - (pl1.getD a2.toNat 0)) ((pl1.getD a2.toNat 0) - x)))) = D2') ∧ (O1.length = O1.length) ∧ (D2.length = D2'.length) ∧ (pl1 = pl1) ∧ (O1 = O1))) ∧ ((decide (a2 < (O1.length : Int))) = false → (-9223372036854775808 ≤ (i + 1) ∧ (i + 1) ≤ 9223372036854775807) ∧ (∃ i' : Int, ∃ c3' : Cur, ∃ O1' : List Int, ∃ D1' : List (List Int), (s_l1Cur_lineField_JJ1 u code c most pl c0 O0 D0 pl1 c2 i' c3' O1' D1') ∧ (s_l1Cur_lineField_mJ1 u code c most pl c0 O0 D0 pl1 c2 i' c3' O1' D1' < s_l1Cur_lineField_mJ1 u code c most pl c0 O0 D0 pl1 c2 i c3 O1 D1) ∧ (pl1.length = pl1.length) ∧ ((i + 1) = i') ∧ ((.lit u (.sl (.bytes code)) : D) = .lit u (.sl (.bytes code))) ∧ (c5.pos = c3'.pos) ∧ (c5.seed = c3'.seed) ∧ (O1 = O1') ∧ (D2 = D1') ∧ (O1.length = O1'.length) ∧ (D2.length = D1'.length) ∧ (pl1 = pl1))))))))) ∧ ((decide (i < (D1.length : Int))) = false → (∃ O' : List Int, ∃ D' : List (List Int), ∃ cg' : Cur, (s_l1Cur_lineField_Q code c most O' D' cg') ∧ (true = true) ∧ ((.lit u (.sl (.bytes code)) : D) = .lit u (.sl (.bytes code))) ∧ (c3.pos = cg'.pos) ∧ (c3.seed = cg'.seed) ∧ (O1.length = O1.length) ∧ ((O1 : List Int) = O') ∧ (D1.length = D1.length) ∧ ((D1 : List (List Int)) = D'))))))))))
theorem s_l1Cur_lineField_vc (u : Value) (code : List Nat) (c : Cur) (most : Int) (hb : ∀ x9 ∈ code, x9 < 256) (hc : okC c 3000000) (hm : 0 ≤ most ∧ most ≤ 7)  : s_l1Cur_lineField_P u code c most := by
  unfold s_l1Cur_lineField_P
  refine ⟨?_, ?_⟩
  ·refine ⟨?_, ?_⟩
   ·refine s_l1Cur_rawField_pke code c most ?_ ?_ ?_
    ·exact hb
    ·first | exact okC_le (by repeat (first | assumption | apply ok_cond | apply ok_pick | apply ok_next | exact okC0)) (by omega) | (have q9 := d1.2.1; exact okC_le (by repeat (first | assumption | apply ok_cond | apply ok_pick | apply ok_next | exact okC0)) (by omega)) | (have q9 := d0.1; exact okC_le (by repeat (first | assumption | apply ok_cond | apply ok_pick | apply ok_next | exact okC0)) (by omega))
    ·omega
   ·intro Or1 Dr1 cfr1 hQ9
    obtain ⟨f1r1, f2r1⟩ := hQ9
    refine ⟨rfl, ?_⟩
    ·refine ⟨([]), cfr1, Or1, Dr1, ?_⟩
     refine ⟨?_, rfl, ?_, rfl, rfl, rfl, rfl, rfl, rfl, rfl⟩
     ·refine ⟨?_, ?_, ?_⟩
      ·rfl
      ·first | exact okC_le (by repeat (first | assumption | apply ok_cond | apply ok_pick | apply ok_next | exact okC0)) (by omega) | (have q9 := d1.2.1; exact okC_le (by repeat (first | assumption | apply ok_cond | apply ok_pick | apply ok_next | exact okC0)) (by omega)) | (have q9 := d0.1; exact okC_le (by repeat (first | assumption | apply ok_cond | apply ok_pick | apply ok_next | exact okC0)) (by omega))
      ·assumption
     ·rfl
  ·intro pl c0 O0 D0 hJ
   obtain ⟨p1, p2, d0⟩ := hJ
   refine ⟨?_, ?_⟩
   ·refine ⟨?_, ?_⟩
    ·refine ⟨pl, 0, c0, ?_⟩
     refine ⟨?_, rfl, rfl, rfl, rfl, rfl, rfl, rfl, rfl, rfl, rfl⟩
     ·refine ⟨?_, ?_, ?_, ?_, ?_⟩
      ·omega
      ·omega
      ·(simp_all; done)
      ·first | assumption | (rw [p1]; intro y hy; cases hy)
      ·first | exact okC_le (by repeat (first | assumption | apply ok_cond | apply ok_pick | apply ok_next | exact okC0)) (by omega) | (have q9 := d1.2.1; exact okC_le (by repeat (first | assumption | apply ok_cond | apply ok_pick | apply ok_next | exact okC0)) (by omega)) | (have q9 := d0.1; exact okC_le (by repeat (first | assumption | apply ok_cond | apply ok_pick | apply ok_next | exact okC0)) (by omega))
    ·intro pl2 a c1 hJ
     obtain ⟨h1, h2, h3, h4, h5⟩ := hJ
     refine ⟨?_, ?_⟩
     ·intro b1
      try simp only [nrmT] at b1
      refine ⟨?_, rfl, rfl, ?_, ?_, ?_⟩
      ·refine s_l1Cur_pick_pk code c1 20 ?_ ?_
       ·exact hb
       ·first | exact okC_le (by repeat (first | assumption | apply ok_cond | apply ok_pick | apply ok_next | exact okC0)) (by omega) | (have q9 := d1.2.1; exact okC_le (by repeat (first | assumption | apply ok_cond | apply ok_pick | apply ok_next | exact okC0)) (by omega)) | (have q9 := d0.1; exact okC_le (by repeat (first | assumption | apply ok_cond | apply ok_pick | apply ok_next | exact okC0)) (by omega))
      ·have q := d0.1; omega
      ·first | omega | (have q := d1.1; have q2 := d1.2.1; omega) | (have q := d0.1; omega)
      ·refine ⟨(pl2 ++ [(pickV code c1 20)]), (a + 1), (pickC code c1 20), ?_⟩
       refine ⟨?_, ?_, ?_, rfl, rfl, rfl, rfl, rfl, rfl, rfl, rfl, rfl⟩
       ·refine ⟨?_, ?_, ?_, ?_, ?_⟩
        ·omega
        ·omega
        ·(simp_all <;> omega)
        ·refine all_snoc (by assumption) ?_
         exact pickV_in code c1 (n := 20) (by omega)
        ·first | exact okC_le (by repeat (first | assumption | apply ok_cond | apply ok_pick | apply ok_next | exact okC0)) (by omega) | (have q9 := d1.2.1; exact okC_le (by repeat (first | assumption | apply ok_cond | apply ok_pick | apply ok_next | exact okC0)) (by omega)) | (have q9 := d0.1; exact okC_le (by repeat (first | assumption | apply ok_cond | apply ok_pick | apply ok_next | exact okC0)) (by omega))
       ·first | (show _ < _; omega) | (simp only [s_l1Cur_lineField_mJ0]; omega) | (simp only [s_l1Cur_lineField_mJ0] at *; simp at *; omega)
       ·simp
     ·intro b2
      try simp only [nrmT] at b2
      refine ⟨pl2, c1, ?_⟩
      refine ⟨?_, rfl, rfl, rfl, rfl, rfl, rfl, rfl, rfl, rfl⟩
      ·refine ⟨?_, ?_, ?_⟩
       ·first | exact okC_le (by repeat (first | assumption | apply ok_cond | apply ok_pick | apply ok_next | exact okC0)) (by omega) | (have q9 := d1.2.1; exact okC_le (by repeat (first | assumption | apply ok_cond | apply ok_pick | apply ok_next | exact okC0)) (by omega)) | (have q9 := d0.1; exact okC_le (by repeat (first | assumption | apply ok_cond | apply ok_pick | apply ok_next | exact okC0)) (by omega))
       ·omega
       ·first | assumption | (rw [p1]; intro y hy; cases hy)
   ·intro pl1 c2 hJ
    obtain ⟨p4, p5, p3⟩ := hJ
    refine ⟨?_, ?_⟩
    ·refine ⟨0, c2, O0, D0, ?_⟩
     refine ⟨?_, rfl, rfl, rfl, rfl, rfl, rfl, rfl, rfl, rfl, rfl⟩
     ·refine ⟨?_, ?_, ?_, ?_, ?_⟩
      ·omega
      ·omega
      ·assumption
      ·omega
      ·first | exact okC_le (by repeat (first | assumption | apply ok_cond | apply ok_pick | apply ok_next | exact okC0)) (by omega) | (have q9 := d1.2.1; exact okC_le (by repeat (first | assumption | apply ok_cond | apply ok_pick | apply ok_next | exact okC0)) (by omega)) | (have q9 := d0.1; exact okC_le (by repeat (first | assumption | apply ok_cond | apply ok_pick | apply ok_next | exact okC0)) (by omega))
    ·intro i c3 O1 D1 hJ
     obtain ⟨k1, k2, d1, k6, k5⟩ := hJ
     refine ⟨?_, ?_⟩
     ·intro b3
      try simp only [nrmT] at b3
      refine ⟨?_, ?_⟩
      ·refine ⟨?_, ?_⟩
       ·refine s_l1Cur_pick_pk code c3 20 ?_ ?_
        ·exact hb
        ·first | exact okC_le (by repeat (first | assumption | apply ok_cond | apply ok_pick | apply ok_next | exact okC0)) (by omega) | (have q9 := d1.2.1; exact okC_le (by repeat (first | assumption | apply ok_cond | apply ok_pick | apply ok_next | exact okC0)) (by omega)) | (have q9 := d0.1; exact okC_le (by repeat (first | assumption | apply ok_cond | apply ok_pick | apply ok_next | exact okC0)) (by omega))
       ·refine ⟨(pickV code c3 20), (pickC code c3 20), ?_⟩
        refine ⟨?_, rfl, rfl, rfl, rfl, rfl, rfl, rfl, rfl, rfl, rfl, rfl⟩
        ·refine ⟨?_, ?_⟩
         ·exact pickV_in code _ (n := 20) (by omega)
         ·first | exact okC_le (by repeat (first | assumption | apply ok_cond | apply ok_pick | apply ok_next | exact okC0)) (by omega) | (have q9 := d1.2.1; exact okC_le (by repeat (first | assumption | apply ok_cond | apply ok_pick | apply ok_next | exact okC0)) (by omega)) | (have q9 := d0.1; exact okC_le (by repeat (first | assumption | apply ok_cond | apply ok_pick | apply ok_next | exact okC0)) (by omega))
      ·intro x c5 hJ
       obtain ⟨x1, x2⟩ := hJ
       refine ⟨?_, ?_⟩
       ·refine ⟨0, D1, ?_⟩
        refine ⟨?_, rfl, rfl, rfl, rfl, rfl, rfl, rfl, rfl, rfl, rfl, rfl, rfl⟩
        ·refine ⟨?_, ?_, ?_, ?_⟩
         ·omega
         ·have := d1.1; omega
         ·assumption
         ·omega
       ·intro a2 D2 hJ
        obtain ⟨m1, m2, d2, m3⟩ := hJ
        refine ⟨?_, ?_⟩
        ·intro b4
         try simp only [nrmT] at b4
         refine ⟨rfl, ?_, ?_, ?_, ?_, ?_, ?_, ?_, ?_, ?_, ?_, ?_, s_l1Most_pc (x - (pl1.getD a2.toNat 0)) ((pl1.getD a2.toNat 0) - x), ?_, ?_, ?_, ?_, ?_, ?_⟩
         ·omega
         ·omega
         ·omega
         ·omega
         ·omega
         ·omega
         ·have q := p3 _ (getD_mem (d := 0) (show a2.toNat < pl1.length by omega))
          have q2 := x1
          omega
         ·omega
         ·omega
         ·omega
         ·have q := p3 _ (getD_mem (d := 0) (show a2.toNat < pl1.length by omega))
          have q2 := x1
          omega
         ·omega
         ·have q := (drF_at d2 (i := i.toNat) (a := a2.toNat) (by omega) (by omega)).1
          omega
         ·omega
         ·have q := (drF_at d2 (i := i.toNat) (a := a2.toNat) (by omega) (by omega)).1
          omega
         ·first | omega | (have q := d1.1; have q2 := d1.2.1; omega) | (have q := d0.1; omega)
         ·refine ⟨(a2 + 1), (D2.set i.toNat ((D2.getD i.toNat []).set a2.toNat (max (x - (pl1.getD a2.toNat 0)) ((pl1.getD a2.toNat 0) - x)))), ?_⟩
          refine ⟨?_, ?_, rfl, rfl, rfl, rfl, rfl, rfl, rfl, rfl, rfl, ?_, rfl, rfl⟩
          ·refine ⟨?_, ?_, ?_, ?_⟩
           ·omega
           ·have := d1.1; omega
           ·refine drF_set (by assumption) (by omega) ?_
            have q := p3 _ (getD_mem (d := 0) (show a2.toNat < pl1.length by omega))
            omega
           ·simp; try omega
          ·first | (show _ < _; omega) | (simp only [s_l1Cur_lineField_mJ2]; omega) | (simp only [s_l1Cur_lineField_mJ2] at *; simp at *; omega)
          ·(simp_all; done)
        ·intro b5
         try simp only [nrmT] at b5
         refine ⟨?_, ?_⟩
         ·first | omega | (have q := d1.1; have q2 := d1.2.1; omega) | (have q := d0.1; omega)
         ·refine ⟨(i + 1), c5, O1, D2, ?_⟩
          refine ⟨?_, ?_, rfl, rfl, rfl, rfl, rfl, rfl, rfl, rfl, rfl, rfl⟩
          ·refine ⟨?_, ?_, ?_, ?_, ?_⟩
           ·omega
           ·omega
           ·assumption
           ·have := d1.1; omega
           ·first | exact okC_le (by repeat (first | assumption | apply ok_cond | apply ok_pick | apply ok_next | exact okC0)) (by omega) | (have q9 := d1.2.1; exact okC_le (by repeat (first | assumption | apply ok_cond | apply ok_pick | apply ok_next | exact okC0)) (by omega)) | (have q9 := d0.1; exact okC_le (by repeat (first | assumption | apply ok_cond | apply ok_pick | apply ok_next | exact okC0)) (by omega))
          ·first | (show _ < _; omega) | (simp only [s_l1Cur_lineField_mJ1]; omega) | (simp only [s_l1Cur_lineField_mJ1] at *; simp at *; omega)
     ·intro b6
      try simp only [nrmT] at b6
      refine ⟨O1, D1, c3, ?_⟩
      refine ⟨?_, rfl, rfl, rfl, rfl, rfl, rfl, rfl, rfl⟩
      ·refine ⟨?_, ?_⟩
       ·first | exact okC_le (by repeat (first | assumption | apply ok_cond | apply ok_pick | apply ok_next | exact okC0)) (by omega) | (have q9 := d1.2.1; exact okC_le (by repeat (first | assumption | apply ok_cond | apply ok_pick | apply ok_next | exact okC0)) (by omega)) | (have q9 := d0.1; exact okC_le (by repeat (first | assumption | apply ok_cond | apply ok_pick | apply ok_next | exact okC0)) (by omega))
       ·assumption
theorem s_l1Cur_lineField_pke (code : List Nat) (c : Cur) (most : Int) (hb : ∀ x9 ∈ code, x9 < 256) (hc : okC c 3000000) (hm : 0 ≤ most ∧ most ≤ 7) : PKE Try.prog 243 98 (.sl (.bytes code)) [.int .i64 c.pos, .int .u64 c.seed] [.int .i64 most] (s_l1Cur_lineField_X code c most) :=
  pke_by (Q := fun u => s_l1Cur_lineField_P u code c most) (by kernel_rfl) Try.func243 @Try.call243 (by kernel_rfl) s_l1Cur_lineField_C (fun u => s_l1Cur_lineField_A u code c most) (by kernel_rfl) (fun u => s_l1Cur_lineField_vc u code c most hb hc hm) (fun u => by kernel_rfl)
abbrev s_l1Cur_spoilt2_JJ0 (u : Value) (code : List Nat) (c : Cur) (Open : List Int) (Dist : List (List Int)) (aa : Int) (c1 : Cur) (O1 : List Int) (D1 : List (List Int)) : Prop := (D1.length ≤ 8) ∧ (O1.length ≤ 7)
abbrev s_l1Cur_spoilt2_mJ0 (u : Value) (code : List Nat) (c : Cur) (Open : List Int) (Dist : List (List Int)) (aa : Int) (c1 : Cur) (O1 : List Int) (D1 : List (List Int)) : Nat := 8 - D1.length
abbrev s_l1Cur_spoilt2_JR3 (u : Value) (code : List Nat) (c : Cur) (Open : List Int) (Dist : List (List Int)) (aa : Int) (c1 : Cur) : Prop := (0 ≤ aa ∧ aa < (Open.length : Int)) ∧ (okC c1 7000100)
abbrev s_l1Cur_spoilt2_Q (code : List Nat) (c : Cur) (Open : List Int) (Dist : List (List Int)) (O : List Int) (D : List (List Int)) (ch : Cur) : Prop := (okC ch 8000000) ∧ (O.length ≤ 8)
def s_l1Cur_spoilt2_X (code : List Nat) (c : Cur) (Open : List Int) (Dist : List (List Int)) : Ex := ex3 2 (fun (O : List Int) (D : List (List Int)) (ch : Cur) => s_l1Cur_spoilt2_Q code c Open Dist O D ch) (fun (O : List Int) (D : List (List Int)) (ch : Cur) => [.int .i64 ch.pos, .int .u64 ch.seed]) (fun (O : List Int) (D : List (List Int)) (ch : Cur) => .agg [.own 3 (.ints O), .mat 3 26 D])
def s_l1Cur_spoilt2_C (f : FuncId) (ds : List D) : Orc := bif Nat.beq f 256 then s_l1Own_orc ds else .no
def s_l1Cur_spoilt2_A (u : Value) (code : List Nat) (c : Cur) (Open : List Int) (Dist : List (List Int)) : Ann := .two (.none) (.two (.none) (.cut (.mark [] [(4, .cell [.int .i64 ((pickC code c (Open.length : Int)).pos), .int .u64 ((pickC code c (Open.length : Int)).seed)] (.one (.d (.int .i64 (pickV code c (Open.length : Int))))))]) (cut2 (fun (aa : Int) (c1 : Cur) => s_l1Cur_spoilt2_JR3 u code c Open Dist aa c1) (fun (aa : Int) (c1 : Cur) => [(0, .ptr 0 0), (3, .ptr 3 0), (4, .ptr 4 0), (5, .d true (.int .i64 aa))]) (fun (aa : Int) (c1 : Cur) => [(0, .box 98 [.d false (.lit u (.sl (.bytes code))), .d true (.int .i64 c1.pos), .d true (.int .u64 c1.seed)]), (3, .box 39 [.own 1 Open.length, .own 2 Dist.length]), (4, .box 39 [.d true (.nil), .d true (.nil)]), (1, .arr true 3 (.ints Open)), (2, .mat 3 26 Dist none)])) (fun g => (fun (aa : Int) (c1 : Cur) => .two (.two (.mark [] [(1, .cell [.int .i64 ((pickC code c1 60).pos), .int .u64 ((pickC code c1 60).seed)] (.one (.d (.int .i64 (pickV code c1 60)))))]) (.two (.none) (.two (.reg [(5, .cell [.int .i64 ((pickC code (pickC code c1 60) (([(-1), 99, 100, 4611686018427387904]).length : Int)).pos), .int .u64 ((pickC code (pickC code c1 60) (([(-1), 99, 100, 4611686018427387904]).length : Int)).seed)] (.one (.d (.int .i64 (([(-1), 99, 100, 4611686018427387904]).getD (pickV code (pickC code c1 60) (([(-1), 99, 100, 4611686018427387904]).length : Int)).toNat 0)))))]) (.two (.none) (.two (.two (.none) (.two (.reg [(7, .cell [.int .i64 ((pickC code (pickC code c1 60) (([(-1), 99, 100, (-9223372036854775808)]).length : Int)).pos), .int .u64 ((pickC code (pickC code c1 60) (([(-1), 99, 100, (-9223372036854775808)]).length : Int)).seed)] (.one (.d (.int .i64 (([(-1), 99, 100, (-9223372036854775808)]).getD (pickV code (pickC code c1 60) (([(-1), 99, 100, (-9223372036854775808)]).length : Int)).toNat 0)))))]) (.none))) (.two (.none) (.two (.none) (.two (.none) (.two (.loop (cut2 (fun (O1 : List Int) (D1 : List (List Int)) => s_l1Cur_spoilt2_JJ0 u code c Open Dist aa c1 O1 D1) (fun (O1 : List Int) (D1 : List (List Int)) => [(0, .ptr 0 0), (3, .ptr 3 0), (4, .ptr 4 0)]) (fun (O1 : List Int) (D1 : List (List Int)) => [(0, .box 98 [.d false (.lit u (.sl (.bytes code))), .d true (.int .i64 ((pickC code c1 60).pos)), .d true (.int .u64 ((pickC code c1 60).seed))]), (1000000, .arr true 3 (.ints O1)), (1000001, .mat 3 26 D1 none), (3, .box 39 [.own 1000000 O1.length, .own 1000001 D1.length]), (4, .box 39 [.d true (.nil), .d true (.nil)])])) (fun g => s_l1Cur_spoilt2_mJ0 u code c Open Dist aa c1 g.1 g.2) (fun _ => .none)) (.none)))))))))) (.none)) (g.1) (g.2))))
def s_l1Cur_spoilt2_P (u : Value) (code : List Nat) (c : Cur) (Open : List Int) (Dist : List (List Int)) : Prop :=
  ((((Open.length : Int) == 0) = true → (∃ O' : List Int, ∃ D' : List (List Int), ∃ ch' : Cur, (s_l1Cur_spoilt2_Q code c Open Dist O' D' ch') ∧ (true = true) ∧ ((.lit u (.sl (.bytes code)) : D) = .lit u (.sl (.bytes code))) ∧ (c.pos = ch'.pos) ∧ (c.seed = ch'.seed) ∧ (Open.length = Open.length) ∧ ((Open : List Int) = O') ∧ (Dist.length = Dist.length) ∧ ((Dist : List (List Int)) = D'))) ∧ (((Open.length : Int) == 0) = false → (((PK Try.prog 107 98 (.sl (.bytes code)) [.int .i64 c.pos, .int .u64 c.seed] [.int .i64 ((pickC code c (Open.length : Int)).pos), .int .u64 ((pickC code c (Open.length : Int)).seed)] [.int .i64 (Open.length : Int)] (.one (.d (.int .i64 (pickV code c (Open.length : Int)))))) ∧ (∃ aa' : Int, ∃ c1' : Cur, (s_l1Cur_spoilt2_JR3 u code c Open Dist aa' c1') ∧ ((pickV code c (Open.length : Int)) = aa') ∧ ((.lit u (.sl (.bytes code)) : D) = .lit u (.sl (.bytes code))) ∧ ((pickC code c (Open.length : Int)).pos = c1'.pos) ∧ ((pickC code c (Open.length : Int)).seed = c1'.seed) ∧ (Open.length = Open.length) ∧ (Dist.length = Dist.length) ∧ (Open = Open) ∧ (Dist = Dist))) ∧ (∀ aa : Int, ∀ c1 : Cur, (s_l1Cur_spoilt2_JR3 u code c Open Dist aa c1) → (PK Try.prog 107 98 (.sl (.bytes code)) [.int .i64 c1.pos, .int .u64 c1.seed] [.int .i64 ((pickC code c1 60).pos), .int .u64 ((pickC code c1 60).seed)] [.int .i64 60] (.one (.d (.int .i64 (pickV code c1 60))))) ∧ ((((pickV code c1 60) == 0) = true → (true = true) ∧ ((4 : Nat) = 4) ∧ (PK Try.prog 106 98 (.sl (.bytes code)) [.int .i64 ((pickC code c1 60).pos), .int .u64 ((pickC code c1 60).seed)] [.int .i64 ((pickC code (pickC code c1 60) (([(-1), 99, 100, 4611686018427387904]).length : Int)).pos), .int .u64 ((pickC code (pickC code c1 60) (([(-1), 99, 100, 4611686018427387904]).length : Int)).seed)] [.sl (.ints ([(-1), 99, 100, 4611686018427387904]))] (.one (.d (.int .i64 (([(-1), 99, 100, 4611686018427387904]).getD (pickV code (pickC code c1 60) (([(-1), 99, 100, 4611686018427387904]).length : Int)).toNat 0))))) ∧ ((0 : Int) ≤ aa) ∧ ((aa : Int) < (Open.length : Int)) ∧ (aa.toNat < Open.length) ∧ (∃ O' : List Int, ∃ D' : List (List Int), ∃ ch' : Cur, (s_l1Cur_spoilt2_Q code c Open Dist O' D' ch') ∧ (true = true) ∧ ((.lit u (.sl (.bytes code)) : D) = .lit u (.sl (.bytes code))) ∧ ((pickC code (pickC code c1 60) (([(-1), 99, 100, 4611686018427387904]).length : Int)).pos = ch'.pos) ∧ ((pickC code (pickC code c1 60) (([(-1), 99, 100, 4611686018427387904]).length : Int)).seed = ch'.seed) ∧ (Open.length = (Open.set aa.toNat (([(-1), 99, 100, 4611686018427387904]).getD (pickV code (pickC code c1 60) (([(-1), 99, 100, 4611686018427387904]).length : Int)).toNat 0)).length) ∧ (((Open.set aa.toNat (([(-1), 99, 100, 4611686018427387904]).getD (pickV code (pickC code c1 60) (([(-1), 99, 100, 4611686018427387904]).length : Int)).toNat 0)) : List Int) = O') ∧ (Dist.length = Dist.length) ∧ ((Dist : List (List Int)) = D'))) ∧ (((pickV code c1 60) == 0) = false → ((((pickV code c1 60) == 1) = true → (((decide ((Dist.length : Int) > 0)) = true → (true = true) ∧ ((0 : Int) ≤ 0) ∧ ((0 : Int) < (Dist.length : Int)) ∧ (0 < Dist.length) ∧ ((4 : Nat) = 4) ∧ (PK Try.prog 106 98 (.sl (.bytes code)) [.int .i64 ((pickC code c1 60).pos), .int .u64 ((pickC code c1 60).seed)] [.int .i64 ((pickC code (pickC code c1 60) (([(-1), 99, 100, (-9223372036854775808)]).length : Int)).pos), .int .u64 ((pickC code (pickC code c1 60) (([(-1), 99, 100, (-9223372036854775808)]).length : Int)).seed)] [.sl (.ints ([(-1), 99, 100, (-9223372036854775808)]))] (.one (.d (.int .i64 (([(-1), 99, 100, (-9223372036854775808)]).getD (pickV code (pickC code c1 60) (([(-1), 99, 100, (-9223372036854775808)]).length : Int)).toNat 0))))) ∧ ((0 : Int) ≤ aa) ∧ ((aa : Int) < (((Dist.getD 0 []).length) : Int)) ∧ (0 < Dist.length) ∧ (aa.toNat < (Dist.getD 0 []).length) ∧ (∃ O' : List Int, ∃ D' : List (List Int), ∃ ch' : Cur, (s_l1Cur_spoilt2_Q code c Open Dist O' D' ch') ∧ (true = true) ∧ ((.lit u (.sl (.bytes code)) : D) = .lit u (.sl (.bytes code))) ∧ ((pickC code (pickC code c1 60) (([(-1), 99, 100, (-9223372036854775808)]).length : Int)).pos = ch'.pos) ∧ ((pickC code (pickC code c1 60) (([(-1), 99, 100, (-9223372036854775808)]).length : Int)).seed = ch'.seed) ∧ (Open.length = Open.length) ∧ ((Open : List Int) = O') ∧ (Dist.length = (Dist.set 0 ((Dist.getD 0 []).set aa.toNat (([(-1), 99, 100, (-9223372036854775808)]).getD (pickV code (pickC code c1 60) (([(-1), 99, 100, (-9223372036854775808)]).length : Int)).toNat 0))).length) ∧ (((Dist.set 0 ((Dist.getD 0 []).set aa.toNat (([(-1), 99, 100, (-9223372036854775808)]).getD (pickV code (pickC code c1 60) (([(-1), 99, 100, (-9223372036854775808)]).length : Int)).toNat 0))) : List (List Int)) = D'))) ∧ ((decide ((Dist.length : Int) > 0)) = false → (∃ O' : List Int, ∃ D' : List (List Int), ∃ ch' : Cur, (s_l1Cur_spoilt2_Q code c Open Dist O' D' ch') ∧ (true = true) ∧ ((.lit u (.sl (.bytes code)) : D) = .lit u (.sl (.bytes code))) ∧ ((pickC code c1 60).pos = ch'.pos) ∧ ((pickC code c1 60).seed = ch'.seed) ∧ (Open.length = Open.length) ∧ ((Open : List Int) = O') ∧ (Dist.length = Dist.length) ∧ ((Dist : List (List Int)) = D'))))) ∧ (((pickV code c1 60) == 1) = false → ((((pickV code c1 60) == 2) = true → (Open.length = Open.length) ∧ ((1 : Nat) = 1) ∧ ((Open.length + 1) * 8 ≤ 140737488355328) ∧ (∃ O' : List Int, ∃ D' : List (List Int), ∃ ch' : Cur, (s_l1Cur_spoilt2_Q code c Open Dist O' D' ch') ∧ (true = true) ∧ ((.lit u (.sl (.bytes code)) : D) = .lit u (.sl (.bytes code))) ∧ ((pickC code c1 60).pos = ch'.pos) ∧ ((pickC code c1 60).seed = ch'.seed) ∧ ((Open.length + 1) = (Open ++ [1]).length) ∧ (((Open ++ [1]) : List Int) = O') ∧ (Dist.length = Dist.length) ∧ ((Dist : List (List Int)) = D'))) ∧ (((pickV code c1 60) == 2) = false → ((((pickV code c1 60) == 3) = true → ((∃ O1' : List Int, ∃ D1' : List (List Int), (s_l1Cur_spoilt2_JJ0 u code c Open Dist aa c1 O1' D1') ∧ ((.lit u (.sl (.bytes code)) : D) = .lit u (.sl (.bytes code))) ∧ ((pickC code c1 60).pos = (pickC code c1 60).pos) ∧ ((pickC code c1 60).seed = (pickC code c1 60).seed) ∧ (Open = O1') ∧ (Dist = D1') ∧ (Open.length = O1'.length) ∧ (Dist.length = D1'.length)) ∧ (∀ O1 : List Int, ∀ D1 : List (List Int), (s_l1Cur_spoilt2_JJ0 u code c Open Dist aa c1 O1 D1) → (((decide ((D1.length : Int) < 8)) = true → (true = true) ∧ (O1.length = O1.length) ∧ (PC Try.prog 256 [.sl (.ints O1)] (.one (.own 3 (.ints O1)))) ∧ (O1.length = O1.length) ∧ (D1.length = D1.length) ∧ ((1 : Nat) = 1) ∧ (0 < 1) ∧ ((D1.length + 1) * 24 ≤ 140737488355328) ∧ (∃ O1' : List Int, ∃ D1' : List (List Int), (s_l1Cur_spoilt2_JJ0 u code c Open Dist aa c1 O1' D1') ∧ (s_l1Cur_spoilt2_mJ0 u code c Open Dist aa c1 O1' D1' < s_l1Cur_spoilt2_mJ0 u code c Open Dist aa c1 O1 D1) ∧ ((.lit u (.sl (.bytes code)) : D) = .lit u (.sl (.bytes code))) ∧ ((pickC code c1 60).pos = (pickC code c1 60).pos) ∧ ((pickC code c1 60).seed = (pickC code c1 60).seed) ∧ (O1 = O1') ∧ ((D1 ++ [O1]) = D1') ∧ (O1.length = O1'.length) ∧ ((D1.length + 1) = D1'.length))) ∧ ((decide ((D1.length : Int) < 8)) = false → (∃ O' : List Int, ∃ D' : List (List Int), ∃ ch' : Cur, (s_l1Cur_spoilt2_Q code c Open Dist O' D' ch') ∧ (true = true) ∧ ((.lit u (.sl (.bytes code)) : D) = .lit u (.sl (.bytes code))) ∧ ((pickC code c1 60).pos = ch'.pos) ∧ ((pickC code c1 60).seed = ch'.seed) ∧ (O1.length = O1.length) ∧ ((O1 : List Int) = O') ∧ (D1.length = D1.length) ∧ ((D1 : List (List Int)) = D'))))))) ∧ (((pickV code c1 60) == 3) = false → ((((pickV code c1 60) == 4) = true → (∃ O' : List Int, ∃ D' : List (List Int), ∃ ch' : Cur, (s_l1Cur_spoilt2_Q code c Open Dist O' D' ch') ∧ (true = true) ∧ ((.lit u (.sl (.bytes code)) : D) = .lit u (.sl (.bytes code))) ∧ ((pickC code c1 60).pos = ch'.pos) ∧ ((pickC code c1 60).seed = ch'.seed) ∧ (O'.length = 0) ∧ (D'.length = 0))) ∧ (((pickV code c1 60) == 4) = false → (∃ O' : List Int, ∃ D' : List (List Int), ∃ ch' : Cur, (s_l1Cur_spoilt2_Q code c Open Dist O' D' ch') ∧ (true = true) ∧ ((.lit u (.sl (.bytes code)) : D) = .lit u (.sl (.bytes code))) ∧ ((pickC code c1 60).pos = ch'.pos) ∧ ((pickC code c1 60).seed = ch'.seed) ∧ (Open.length = Open.length) ∧ ((Open : List Int) = O') ∧ (Dist.length = Dist.length) ∧ ((Dist : List (List Int)) = D'))))))))))))))))
theorem s_l1Cur_spoilt2_vc (u : Value) (code : List Nat) (c : Cur) (Open : List Int) (Dist : List (List Int)) (hb : ∀ x9 ∈ code, x9 < 256) (hc : okC c 7000000) (hf : drF Open Dist)  : s_l1Cur_spoilt2_P u code c Open Dist := by
  unfold s_l1Cur_spoilt2_P
  refine ⟨?_, ?_⟩
  ·intro b1
   try simp only [nrmT] at b1
   refine ⟨Open, Dist, c, ?_⟩
   refine ⟨?_, rfl, rfl, rfl, rfl, rfl, rfl, rfl, rfl⟩
   ·refine ⟨?_, ?_⟩
    ·exact okC_le (by repeat (first | assumption | apply ok_cond | apply ok_pick | apply ok_next | exact okC0)) (by omega)
    ·first | assumption | (have := hf.1; have := hf.2.1; omega) | (have := hf.1; simp; try omega)
  ·intro b2
   try simp only [nrmT] at b2
   refine ⟨?_, ?_⟩
   ·refine ⟨?_, ?_⟩
    ·refine s_l1Cur_pick_pk code c (Open.length : Int) ?_ ?_
     ·exact hb
     ·exact okC_le (by repeat (first | assumption | apply ok_cond | apply ok_pick | apply ok_next | exact okC0)) (by omega)
    ·refine ⟨(pickV code c (Open.length : Int)), (pickC code c (Open.length : Int)), ?_⟩
     refine ⟨?_, rfl, rfl, rfl, rfl, rfl, rfl, rfl, rfl⟩
     ·refine ⟨?_, ?_⟩
      ·exact pickV_in code _ (by omega)
      ·exact okC_le (by repeat (first | assumption | apply ok_cond | apply ok_pick | apply ok_next | exact okC0)) (by omega)
   ·intro aa c1 hJ
    obtain ⟨a1, a2⟩ := hJ
    refine ⟨?_, ?_, ?_⟩
    ·refine s_l1Cur_pick_pk code c1 60 ?_ ?_
     ·exact hb
     ·exact okC_le (by repeat (first | assumption | apply ok_cond | apply ok_pick | apply ok_next | exact okC0)) (by omega)
    ·intro b3
     try simp only [nrmT] at b3
     refine ⟨rfl, rfl, ?_, ?_, ?_, ?_, ?_⟩
     ·refine s_l1Cur_among_pk code (pickC code c1 60) ([(-1), 99, 100, 4611686018427387904]) ?_ ?_ ?_
      ·exact hb
      ·exact okC_le (by repeat (first | assumption | apply ok_cond | apply ok_pick | apply ok_next | exact okC0)) (by omega)
      ·simp
     ·omega
     ·omega
     ·omega
     ·refine ⟨(Open.set aa.toNat (([(-1), 99, 100, 4611686018427387904]).getD (pickV code (pickC code c1 60) (([(-1), 99, 100, 4611686018427387904]).length : Int)).toNat 0)), Dist, (pickC code (pickC code c1 60) (([(-1), 99, 100, 4611686018427387904]).length : Int)), ?_⟩
      refine ⟨?_, rfl, rfl, rfl, rfl, ?_, rfl, rfl, rfl⟩
      ·refine ⟨?_, ?_⟩
       ·exact okC_le (by repeat (first | assumption | apply ok_cond | apply ok_pick | apply ok_next | exact okC0)) (by omega)
       ·first | assumption | (have := hf.1; have := hf.2.1; omega) | (have := hf.1; simp; try omega)
      ·simp; try omega
    ·intro b4
     try simp only [nrmT] at b4
     refine ⟨?_, ?_⟩
     ·intro b5
      try simp only [nrmT] at b5
      refine ⟨?_, ?_⟩
      ·intro b6
       try simp only [nrmT] at b6
       refine ⟨rfl, ?_, ?_, ?_, rfl, ?_, ?_, ?_, ?_, ?_, ?_⟩
       ·omega
       ·have := hf.2.1; omega
       ·have := hf.2.1; omega
       ·refine s_l1Cur_among_pk code (pickC code c1 60) ([(-1), 99, 100, (-9223372036854775808)]) ?_ ?_ ?_
        ·exact hb
        ·exact okC_le (by repeat (first | assumption | apply ok_cond | apply ok_pick | apply ok_next | exact okC0)) (by omega)
        ·simp
       ·omega
       ·have q := (drF_at hf (i := 0) (a := aa.toNat) (by omega) (by omega)).1
        first | omega | simpa using q
       ·have := hf.2.1; omega
       ·have q := (drF_at hf (i := 0) (a := aa.toNat) (by omega) (by omega)).1
        first | omega | simpa using q
       ·refine ⟨Open, (Dist.set 0 ((Dist.getD 0 []).set aa.toNat (([(-1), 99, 100, (-9223372036854775808)]).getD (pickV code (pickC code c1 60) (([(-1), 99, 100, (-9223372036854775808)]).length : Int)).toNat 0))), (pickC code (pickC code c1 60) (([(-1), 99, 100, (-9223372036854775808)]).length : Int)), ?_⟩
        refine ⟨?_, rfl, rfl, rfl, rfl, rfl, rfl, ?_, rfl⟩
        ·refine ⟨?_, ?_⟩
         ·exact okC_le (by repeat (first | assumption | apply ok_cond | apply ok_pick | apply ok_next | exact okC0)) (by omega)
         ·first | assumption | (have := hf.1; have := hf.2.1; omega) | (have := hf.1; simp; try omega)
        ·simp; try omega
      ·intro b7
       try simp only [nrmT] at b7
       refine ⟨Open, Dist, (pickC code c1 60), ?_⟩
       refine ⟨?_, rfl, rfl, rfl, rfl, rfl, rfl, rfl, rfl⟩
       ·refine ⟨?_, ?_⟩
        ·exact okC_le (by repeat (first | assumption | apply ok_cond | apply ok_pick | apply ok_next | exact okC0)) (by omega)
        ·first | assumption | (have := hf.1; have := hf.2.1; omega) | (have := hf.1; simp; try omega)
     ·intro b8
      try simp only [nrmT] at b8
      refine ⟨?_, ?_⟩
      ·intro b9
       try simp only [nrmT] at b9
       refine ⟨rfl, rfl, ?_, ?_⟩
       ·have := hf.1; omega
       ·refine ⟨(Open ++ [1]), Dist, (pickC code c1 60), ?_⟩
        refine ⟨?_, rfl, rfl, rfl, rfl, ?_, rfl, rfl, rfl⟩
        ·refine ⟨?_, ?_⟩
         ·exact okC_le (by repeat (first | assumption | apply ok_cond | apply ok_pick | apply ok_next | exact okC0)) (by omega)
         ·first | assumption | (have := hf.1; have := hf.2.1; omega) | (have := hf.1; simp; try omega)
        ·simp
      ·intro b10
       try simp only [nrmT] at b10
       refine ⟨?_, ?_⟩
       ·intro b11
        try simp only [nrmT] at b11
        refine ⟨?_, ?_⟩
        ·refine ⟨Open, Dist, ?_⟩
         refine ⟨?_, rfl, rfl, rfl, rfl, rfl, rfl, rfl⟩
         ·refine ⟨?_, ?_⟩
          ·first | assumption | (have := hf.1; have := hf.2.1; omega) | (have := hf.1; simp; try omega)
          ·first | assumption | (have := hf.1; have := hf.2.1; omega) | (have := hf.1; simp; try omega)
        ·intro O1 D1 hJ
         obtain ⟨h1, h2⟩ := hJ
         refine ⟨?_, ?_⟩
         ·intro b12
          try simp only [nrmT] at b12
          refine ⟨rfl, rfl, ?_, rfl, rfl, rfl, by decide, ?_, ?_⟩
          ·refine s_l1Own_pc O1 ?_
           ·omega
          ·omega
          ·refine ⟨O1, (D1 ++ [O1]), ?_⟩
           refine ⟨?_, ?_, rfl, rfl, rfl, rfl, rfl, rfl, ?_⟩
           ·refine ⟨?_, ?_⟩
            ·first | assumption | (have := hf.1; have := hf.2.1; omega) | (have := hf.1; simp; try omega)
            ·first | assumption | (have := hf.1; have := hf.2.1; omega) | (have := hf.1; simp; try omega)
           ·first | (show _ < _; omega) | (simp only [s_l1Cur_spoilt2_mJ0]; omega) | (simp only [s_l1Cur_spoilt2_mJ0] at *; simp at *; omega)
           ·simp
         ·intro b13
          try simp only [nrmT] at b13
          refine ⟨O1, D1, (pickC code c1 60), ?_⟩
          refine ⟨?_, rfl, rfl, rfl, rfl, rfl, rfl, rfl, rfl⟩
          ·refine ⟨?_, ?_⟩
           ·exact okC_le (by repeat (first | assumption | apply ok_cond | apply ok_pick | apply ok_next | exact okC0)) (by omega)
           ·first | assumption | (have := hf.1; have := hf.2.1; omega) | (have := hf.1; simp; try omega)
       ·intro b14
        try simp only [nrmT] at b14
        refine ⟨?_, ?_⟩
        ·intro b15
         try simp only [nrmT] at b15
         refine ⟨[], [], (pickC code c1 60), ?_⟩
         refine ⟨?_, rfl, rfl, rfl, rfl, rfl, rfl⟩
         ·refine ⟨?_, ?_⟩
          ·exact okC_le (by repeat (first | assumption | apply ok_cond | apply ok_pick | apply ok_next | exact okC0)) (by omega)
          ·first | assumption | (have := hf.1; have := hf.2.1; omega) | (have := hf.1; simp; try omega)
        ·intro b16
         try simp only [nrmT] at b16
         refine ⟨Open, Dist, (pickC code c1 60), ?_⟩
         refine ⟨?_, rfl, rfl, rfl, rfl, rfl, rfl, rfl, rfl⟩
         ·refine ⟨?_, ?_⟩
          ·exact okC_le (by repeat (first | assumption | apply ok_cond | apply ok_pick | apply ok_next | exact okC0)) (by omega)
          ·first | assumption | (have := hf.1; have := hf.2.1; omega) | (have := hf.1; simp; try omega)
theorem s_l1Cur_spoilt2_pkv (code : List Nat) (c : Cur) (Open : List Int) (Dist : List (List Int)) (hb : ∀ x9 ∈ code, x9 < 256) (hc : okC c 7000000) (hf : drF Open Dist) : PKV Try.prog 241 98 (.sl (.bytes code)) [.int .i64 c.pos, .int .u64 c.seed] 3 Open 3 26 Dist (s_l1Cur_spoilt2_X code c Open Dist) :=
  pkv_by (Q := fun u => s_l1Cur_spoilt2_P u code c Open Dist) (by kernel_rfl) Try.func241 @Try.call241 (by kernel_rfl) s_l1Cur_spoilt2_C (fun u => s_l1Cur_spoilt2_A u code c Open Dist) (by kernel_rfl) (fun u => s_l1Cur_spoilt2_vc u code c Open Dist hb hc hf) (fun u => by kernel_rfl)
theorem take_snoc2 {α : Type} {l : List α} {i : Int} {d : α} (h0 : 0 ≤ i) (h : i < (l.length : Int)) : l.take i.toNat ++ [l.getD i.toNat d] = l.take (i + 1).toNat := (take_step h0 h).symm
abbrev s_l2Own_JJ0 (Open : List Int) (Dist : List (List Int)) (i : Int) (O1 : List Int) (D1 : List (List Int)) : Prop := (0 ≤ i) ∧ (i ≤ (Dist.length : Int)) ∧ (O1 = Open) ∧ (D1 = Dist.take i.toNat)
abbrev s_l2Own_mJ0 (Open : List Int) (Dist : List (List Int)) (i : Int) (O1 : List Int) (D1 : List (List Int)) : Nat := (Dist.length - i).toNat
def s_l2Own_C (f : FuncId) (ds : List D) : Orc := bif Nat.beq f 256 then s_l1Own_orc ds else .no
def s_l2Own_A (Open : List Int) (Dist : List (List Int)) : Ann := .two (.none) (.two (.none) (.two (.two (.none) (.loop (cut3 (fun (i : Int) (O1 : List Int) (D1 : List (List Int)) => s_l2Own_JJ0 Open Dist i O1 D1) (fun (i : Int) (O1 : List Int) (D1 : List (List Int)) => [(1, .ptr 1 0), (2, .ptr 2 0), (3, .ptr 3 0), (4, .d true (.int .i64 i))]) (fun (i : Int) (O1 : List Int) (D1 : List (List Int)) => [(1, .box 39 [.d false (.sl (.ints Open)), .d false (.sl (.rows Dist))]), (2, .box 39 [.d true (.nil), .d true (.nil)]), (1000001, .arr true 3 (.ints O1)), (1000002, .mat 3 26 D1 none), (3, .box 39 [.own 1000001 O1.length, .own 1000002 D1.length])])) (fun g => s_l2Own_mJ0 Open Dist g.1 g.2.1 g.2.2) (fun _ => .none))) (.none)))
def s_l2Own_P (Open : List Int) (Dist : List (List Int)) : Prop :=
  (PC Try.prog 256 [.sl (.ints Open)] (.one (.own 3 (.ints Open)))) ∧ ((∃ i' : Int, ∃ O1' : List Int, ∃ D1' : List (List Int), (s_l2Own_JJ0 Open Dist i' O1' D1') ∧ ((0 : Int) = i') ∧ (Open = Open) ∧ (Dist = Dist) ∧ (Open = O1') ∧ ((D1').length = 0) ∧ (Open.length = O1'.length) ∧ ((0 : Nat) = D1'.length)) ∧ (∀ i : Int, ∀ O1 : List Int, ∀ D1 : List (List Int), (s_l2Own_JJ0 Open Dist i O1 D1) → (((decide (i < (Dist.length : Int))) = true → (true = true) ∧ ((0 : Int) ≤ i) ∧ ((i : Int) < Dist.length) ∧ (i.toNat < Dist.length) ∧ (PC Try.prog 256 [.sl (.ints (Dist.getD i.toNat []))] (.one (.own 3 (.ints (Dist.getD i.toNat []))))) ∧ ((Dist.getD i.toNat []).length = (Dist.getD i.toNat []).length) ∧ (D1.length = D1.length) ∧ ((1 : Nat) = 1) ∧ (0 < 1) ∧ ((D1.length + 1) * 24 ≤ 140737488355328) ∧ (-9223372036854775808 ≤ (i + 1) ∧ (i + 1) ≤ 9223372036854775807) ∧ (∃ i' : Int, ∃ O1' : List Int, ∃ D1' : List (List Int), (s_l2Own_JJ0 Open Dist i' O1' D1') ∧ (s_l2Own_mJ0 Open Dist i' O1' D1' < s_l2Own_mJ0 Open Dist i O1 D1) ∧ ((i + 1) = i') ∧ (Open = Open) ∧ (Dist = Dist) ∧ (O1 = O1') ∧ ((D1 ++ [(Dist.getD i.toNat [])]) = D1') ∧ (O1.length = O1'.length) ∧ ((D1.length + 1) = D1'.length))) ∧ ((decide (i < (Dist.length : Int))) = false → ((O1.length = O1.length) ∧ ((O1 : List Int) = Open) ∧ (D1.length = D1.length) ∧ ((D1 : List (List Int)) = Dist))))))
theorem s_l2Own_vc (Open : List Int) (Dist : List (List Int)) (hl : Open.length ≤ 1048576) (hd : Dist.length ≤ 1048576) (hr : ∀ r ∈ Dist, r.length ≤ 1048576) (w_Open : (Open.length : Int) ≤ 9223372036854775807) (w_Dist : (Dist.length : Int) ≤ 9223372036854775807) (v_Dist : ∀ x9 ∈ Dist, (x9.length : Int) ≤ 9223372036854775807) : s_l2Own_P Open Dist := by
  unfold s_l2Own_P
  refine ⟨?_, ?_, ?_⟩
  ·refine s_l1Own_pc Open ?_
   ·omega
  ·refine ⟨0, Open, ([]), ?_⟩
   refine ⟨?_, rfl, rfl, rfl, rfl, ?_, rfl, rfl⟩
   ·refine ⟨?_, ?_, ?_, ?_⟩
    ·omega
    ·omega
    ·rfl
    ·simp
   ·rfl
  ·intro i O1 D1 hJ
   obtain ⟨h1, h2, h3, h4⟩ := hJ
   refine ⟨?_, ?_⟩
   ·intro b1
    try simp only [nrmT] at b1
    refine ⟨rfl, ?_, ?_, ?_, ?_, rfl, rfl, rfl, by decide, ?_, ?_, ?_⟩
    ·omega
    ·omega
    ·omega
    ·refine s_l1Own_pc (Dist.getD i.toNat []) ?_
     ·exact hr _ (getD_memI h1 (by omega))
    ·rw [h4, List.length_take]; omega
    ·omega
    ·refine ⟨(i + 1), O1, (D1 ++ [(Dist.getD i.toNat [])]), ?_⟩
     refine ⟨?_, ?_, rfl, rfl, rfl, rfl, rfl, rfl, ?_⟩
     ·refine ⟨?_, ?_, ?_, ?_⟩
      ·omega
      ·omega
      ·exact h3
      ·rw [h4]; exact take_snoc2 h1 (by omega)
     ·first | (show _ < _; omega) | (simp only [s_l2Own_mJ0]; omega) | (simp only [s_l2Own_mJ0] at *; simp at *; omega)
     ·simp
   ·intro b2
    try simp only [nrmT] at b2
    refine ⟨rfl, ?_, rfl, ?_⟩
    ·exact h3
    ·rw [h4, take_all (by omega)]
theorem s_l2Own_pc (Open : List Int) (Dist : List (List Int)) (hl : Open.length ≤ 1048576) (hd : Dist.length ≤ 1048576) (hr : ∀ r ∈ Dist, r.length ≤ 1048576) : PC Try.prog 257 [.agg [.sl (.ints Open), .sl (.rows Dist)]] (.agg [.own 3 (.ints Open), .mat 3 26 Dist]) :=
  pc_wf @Try.call257 fun hw => pc_by (by kernel_rfl) Try.func257 @Try.call257 (by kernel_rfl) s_l2Own_C (s_l2Own_A Open Dist) (by kernel_rfl) (s_l2Own_vc Open Dist hl hd hr hw.1.1 hw.1.2.1.1 hw.1.2.1.2) (by kernel_rfl)
def s_l2Own_orc : List D → Orc := orcN [none] fun ds => match ds with
  | [.agg [.sl (.ints Open), .sl (.rows Dist)]] => some (.agg [.own 3 (.ints Open), .mat 3 26 Dist])
  | _ => none
/-- A way by two other lengths is shorter. -/
def violB (D : List (List Int)) (i j a b : Nat) : Bool := decide ((D.getD i []).getD a 0 > (D.getD i []).getD b 0 + (D.getD j []).getD b 0 + (D.getD j []).getD a 0)
def metA (n : Nat) (D : List (List Int)) (i j a : Nat) : Bool := allTo (fun b => !violB D i j a b) n
def metJ (n : Nat) (D : List (List Int)) (i j : Nat) : Bool := allTo (metA n D i j) n
def metI (n : Nat) (D : List (List Int)) (i : Nat) : Bool := allTo (metJ n D i) D.length
def metB (n : Nat) (D : List (List Int)) : Bool := allTo (metI n D) D.length
def tot (D : List (List Int)) : Int := (D.map fun r => lsum (fun y => y) r).sum
theorem tot_cons (r : List Int) (D : List (List Int)) : tot (r :: D) = lsum (fun y => y) r + tot D := rfl
theorem lsum_set : ∀ {l : List Int} {k : Nat} {v : Int}, k < l.length → lsum (fun y => y) (l.set k v) = lsum (fun y => y) l - l.getD k 0 + v
  | x :: r, 0, v, _ => by rw [List.set_cons_zero, lsum_cons, lsum_cons, List.getD_cons_zero]; omega
  | x :: r, k + 1, v, h => by
    rw [List.set_cons_succ, lsum_cons, lsum_cons, List.getD_cons_succ, lsum_set (by simpa using h)]; omega
theorem tot_set : ∀ {D : List (List Int)} {i : Nat} {r : List Int}, i < D.length → tot (D.set i r) = tot D - lsum (fun y => y) (D.getD i []) + lsum (fun y => y) r
  | x :: D, 0, r, _ => by rw [List.set_cons_zero, tot_cons, tot_cons, List.getD_cons_zero]; omega
  | x :: D, k + 1, r, h => by
    rw [List.set_cons_succ, tot_cons, tot_cons, List.getD_cons_succ, tot_set (by simpa using h)]; omega
theorem tot_nonneg {D : List (List Int)} (h : ∀ r ∈ D, ∀ x ∈ r, 0 ≤ x) : 0 ≤ tot D := by
  induction D with
  | nil => exact Int.le_refl _
  | cons r D ih =>
    rw [tot_cons]
    have h1 := lsum_nonneg (f := fun y => y) (h r List.mem_cons_self)
    have h2 := ih fun r' hr => h r' (List.mem_cons_of_mem _ hr)
    omega
/-- A round under way: nothing was changed and nothing was found, or the sum fell. -/
def Clo (D0 D : List (List Int)) (c : Bool) : Prop := (D = D0 ∧ c = true) ∨ tot D < tot D0
theorem clo_step {O : List Int} {D0 D : List (List Int)} (hf : drF O D) {i j a b : Nat} (hi : i < D.length) (hj : j < D.length) (ha : a < O.length) (hb : b < O.length) {c : Bool} (h : Clo D0 D (c && allTo (fun b => !violB D0 i j a b) b)) :
    drF O (D.set i ((D.getD i []).set a (min ((D.getD i []).getD a 0) ((D.getD i []).getD b 0 + (D.getD j []).getD b 0 + (D.getD j []).getD a 0)))) ∧
    Clo D0 (D.set i ((D.getD i []).set a (min ((D.getD i []).getD a 0) ((D.getD i []).getD b 0 + (D.getD j []).getD b 0 + (D.getD j []).getD a 0)))) (c && allTo (fun b => !violB D0 i j a b) (b + 1)) := by
  have e1 := drF_at hf hi ha
  have e2 := drF_at hf hi hb
  have e3 := drF_at hf hj hb
  have e4 := drF_at hf hj ha
  refine ⟨drF_set hf hi (by omega), ?_⟩
  have ht := tot_set (D := D) (i := i) (r := (D.getD i []).set a (min ((D.getD i []).getD a 0) ((D.getD i []).getD b 0 + (D.getD j []).getD b 0 + (D.getD j []).getD a 0))) hi
  rw [lsum_set (by omega)] at ht
  rcases h with ⟨rfl, hc⟩ | h
  · by_cases hx : (D.getD i []).getD a 0 ≤ (D.getD i []).getD b 0 + (D.getD j []).getD b 0 + (D.getD j []).getD a 0
    · left
      refine ⟨?_, ?_⟩
      · rw [Int.min_eq_left hx]
        have h1 : (D.getD i []).set a ((D.getD i []).getD a 0) = D.getD i [] := by
          rw [getD_get (show a < (D.getD i []).length by omega)]; exact List.set_getElem_self _
        rw [h1, getD_get hi]; exact List.set_getElem_self _
      · rw [Bool.and_eq_true] at hc ⊢
        refine ⟨hc.1, ?_⟩
        have e : allTo (fun b => !violB D i j a b) (b + 1) = (allTo (fun b => !violB D i j a b) b && !violB D i j a b) := rfl
        rw [e, hc.2, Bool.true_and]
        unfold violB
        rw [decide_eq_false (by omega)]; rfl
    · right
      rw [Int.min_eq_right (by omega)] at ht ⊢
      omega
  · right
    omega
theorem clo_top {D0 D : List (List Int)} {n : Nat} (h : Clo D0 D (allTo (metI n D0) D0.length)) (hm : metB n D0 = false) : tot D < tot D0 := by
  rcases h with ⟨_, h⟩ | h
  · unfold metB at hm
    rw [hm] at h; cases h
  · exact h
theorem clo_mono {D0 D : List (List Int)} {c c' : Bool} (h : Clo D0 D c) (hc : c = true → c' = true) : Clo D0 D c' := by
  rcases h with ⟨h1, h2⟩ | h
  · exact .inl ⟨h1, hc h2⟩
  · exact .inr h
abbrev s_l2Metric_JJ0 (Open : List Int) (Dist : List (List Int)) (i : Int) : Prop := (0 ≤ i) ∧ (i ≤ (Dist.length : Int)) ∧ (allTo (metI Open.length Dist) i.toNat = true)
abbrev s_l2Metric_mJ0 (Open : List Int) (Dist : List (List Int)) (i : Int) : Nat := (Dist.length - i).toNat
abbrev s_l2Metric_JJ1 (Open : List Int) (Dist : List (List Int)) (i : Int) (j : Int) : Prop := (0 ≤ j) ∧ (j ≤ (Dist.length : Int)) ∧ (allTo (metJ Open.length Dist i.toNat) j.toNat = true)
abbrev s_l2Metric_mJ1 (Open : List Int) (Dist : List (List Int)) (i : Int) (j : Int) : Nat := (Dist.length - j).toNat
abbrev s_l2Metric_JJ2 (Open : List Int) (Dist : List (List Int)) (i : Int) (j : Int) (a : Int) : Prop := (0 ≤ a) ∧ (a ≤ (Open.length : Int)) ∧ (allTo (metA Open.length Dist i.toNat j.toNat) a.toNat = true)
abbrev s_l2Metric_mJ2 (Open : List Int) (Dist : List (List Int)) (i : Int) (j : Int) (a : Int) : Nat := (Open.length - a).toNat
abbrev s_l2Metric_JJ3 (Open : List Int) (Dist : List (List Int)) (i : Int) (j : Int) (a : Int) (b : Int) : Prop := (0 ≤ b) ∧ (b ≤ (Open.length : Int)) ∧ (allTo (fun b => !violB Dist i.toNat j.toNat a.toNat b) b.toNat = true)
abbrev s_l2Metric_mJ3 (Open : List Int) (Dist : List (List Int)) (i : Int) (j : Int) (a : Int) (b : Int) : Nat := (Open.length - b).toNat
def s_l2Metric_C (f : FuncId) (ds : List D) : Orc := .no
def s_l2Metric_A (Open : List Int) (Dist : List (List Int)) : Ann := .two (.none) (.two (.two (.none) (.loop (cut1 (fun (i : Int) => s_l2Metric_JJ0 Open Dist i) (fun (i : Int) => [(1, .ptr 1 0), (3, .d true (.int .i64 i))]) (fun (i : Int) => [(1, .box 39 [.d false (.sl (.ints Open)), .d false (.sl (.rows Dist))])])) (fun g => s_l2Metric_mJ0 Open Dist g) (fun g => (fun (i : Int) => .two (.none) (.two (.two (.none) (.loop (cut1 (fun (j : Int) => s_l2Metric_JJ1 Open Dist i j) (fun (j : Int) => [(1, .ptr 1 0), (3, .d true (.int .i64 i)), (4, .d true (.int .i64 j))]) (fun (j : Int) => [(1, .box 39 [.d false (.sl (.ints Open)), .d false (.sl (.rows Dist))])])) (fun g => s_l2Metric_mJ1 Open Dist i g) (fun g => (fun (j : Int) => .two (.none) (.two (.two (.none) (.loop (cut1 (fun (a : Int) => s_l2Metric_JJ2 Open Dist i j a) (fun (a : Int) => [(1, .ptr 1 0), (3, .d true (.int .i64 i)), (4, .d true (.int .i64 j)), (5, .d true (.int .i64 a))]) (fun (a : Int) => [(1, .box 39 [.d false (.sl (.ints Open)), .d false (.sl (.rows Dist))])])) (fun g => s_l2Metric_mJ2 Open Dist i j g) (fun g => (fun (a : Int) => .two (.none) (.two (.two (.none) (.loop (cut1 (fun (b : Int) => s_l2Metric_JJ3 Open Dist i j a b) (fun (b : Int) => [(1, .ptr 1 0), (3, .d true (.int .i64 i)), (4, .d true (.int .i64 j)), (5, .d true (.int .i64 a)), (6, .d true (.int .i64 b))]) (fun (b : Int) => [(1, .box 39 [.d false (.sl (.ints Open)), .d false (.sl (.rows Dist))])])) (fun g => s_l2Metric_mJ3 Open Dist i j a g) (fun _ => .none))) (.none))) g))) (.none))) g))) (.none))) g))) (.none))
def s_l2Metric_P (Open : List Int) (Dist : List (List Int)) : Prop :=
  ((∃ i' : Int, (s_l2Metric_JJ0 Open Dist i') ∧ ((0 : Int) = i') ∧ (Open = Open) ∧ (Dist = Dist)) ∧ (∀ i : Int, (s_l2Metric_JJ0 Open Dist i) → (((decide (i < (Dist.length : Int))) = true → ((∃ j' : Int, (s_l2Metric_JJ1 Open Dist i j') ∧ (i = i) ∧ ((0 : Int) = j') ∧ (Open = Open) ∧ (Dist = Dist)) ∧ (∀ j : Int, (s_l2Metric_JJ1 Open Dist i j) → (((decide (j < (Dist.length : Int))) = true → ((∃ a' : Int, (s_l2Metric_JJ2 Open Dist i j a') ∧ (i = i) ∧ (j = j) ∧ ((0 : Int) = a') ∧ (Open = Open) ∧ (Dist = Dist)) ∧ (∀ a : Int, (s_l2Metric_JJ2 Open Dist i j a) → (((decide (a < (Open.length : Int))) = true → ((∃ b' : Int, (s_l2Metric_JJ3 Open Dist i j a b') ∧ (i = i) ∧ (j = j) ∧ (a = a) ∧ ((0 : Int) = b') ∧ (Open = Open) ∧ (Dist = Dist)) ∧ (∀ b : Int, (s_l2Metric_JJ3 Open Dist i j a b) → (((decide (b < (Open.length : Int))) = true → (true = true) ∧ ((0 : Int) ≤ i) ∧ ((i : Int) < Dist.length) ∧ (i.toNat < Dist.length) ∧ ((0 : Int) ≤ a) ∧ ((a : Int) < (Dist.getD i.toNat []).length) ∧ (a.toNat < (Dist.getD i.toNat []).length) ∧ ((0 : Int) ≤ i) ∧ ((i : Int) < Dist.length) ∧ (i.toNat < Dist.length) ∧ ((0 : Int) ≤ b) ∧ ((b : Int) < (Dist.getD i.toNat []).length) ∧ (b.toNat < (Dist.getD i.toNat []).length) ∧ ((0 : Int) ≤ j) ∧ ((j : Int) < Dist.length) ∧ (j.toNat < Dist.length) ∧ ((0 : Int) ≤ b) ∧ ((b : Int) < (Dist.getD j.toNat []).length) ∧ (b.toNat < (Dist.getD j.toNat []).length) ∧ (-9223372036854775808 ≤ (((Dist.getD i.toNat []).getD b.toNat 0) + ((Dist.getD j.toNat []).getD b.toNat 0)) ∧ (((Dist.getD i.toNat []).getD b.toNat 0) + ((Dist.getD j.toNat []).getD b.toNat 0)) ≤ 9223372036854775807) ∧ ((0 : Int) ≤ j) ∧ ((j : Int) < Dist.length) ∧ (j.toNat < Dist.length) ∧ ((0 : Int) ≤ a) ∧ ((a : Int) < (Dist.getD j.toNat []).length) ∧ (a.toNat < (Dist.getD j.toNat []).length) ∧ (-9223372036854775808 ≤ ((((Dist.getD i.toNat []).getD b.toNat 0) + ((Dist.getD j.toNat []).getD b.toNat 0)) + ((Dist.getD j.toNat []).getD a.toNat 0)) ∧ ((((Dist.getD i.toNat []).getD b.toNat 0) + ((Dist.getD j.toNat []).getD b.toNat 0)) + ((Dist.getD j.toNat []).getD a.toNat 0)) ≤ 9223372036854775807) ∧ (((decide (((Dist.getD i.toNat []).getD a.toNat 0) > ((((Dist.getD i.toNat []).getD b.toNat 0) + ((Dist.getD j.toNat []).getD b.toNat 0)) + ((Dist.getD j.toNat []).getD a.toNat 0)))) = true → ((false = (metB Open.length Dist)))) ∧ ((decide (((Dist.getD i.toNat []).getD a.toNat 0) > ((((Dist.getD i.toNat []).getD b.toNat 0) + ((Dist.getD j.toNat []).getD b.toNat 0)) + ((Dist.getD j.toNat []).getD a.toNat 0)))) = false → (-9223372036854775808 ≤ (b + 1) ∧ (b + 1) ≤ 9223372036854775807) ∧ (∃ b' : Int, (s_l2Metric_JJ3 Open Dist i j a b') ∧ (s_l2Metric_mJ3 Open Dist i j a b' < s_l2Metric_mJ3 Open Dist i j a b) ∧ (i = i) ∧ (j = j) ∧ (a = a) ∧ ((b + 1) = b') ∧ (Open = Open) ∧ (Dist = Dist))))) ∧ ((decide (b < (Open.length : Int))) = false → (-9223372036854775808 ≤ (a + 1) ∧ (a + 1) ≤ 9223372036854775807) ∧ (∃ a' : Int, (s_l2Metric_JJ2 Open Dist i j a') ∧ (s_l2Metric_mJ2 Open Dist i j a' < s_l2Metric_mJ2 Open Dist i j a) ∧ (i = i) ∧ (j = j) ∧ ((a + 1) = a') ∧ (Open = Open) ∧ (Dist = Dist))))))) ∧ ((decide (a < (Open.length : Int))) = false → (-9223372036854775808 ≤ (j + 1) ∧ (j + 1) ≤ 9223372036854775807) ∧ (∃ j' : Int, (s_l2Metric_JJ1 Open Dist i j') ∧ (s_l2Metric_mJ1 Open Dist i j' < s_l2Metric_mJ1 Open Dist i j) ∧ (i = i) ∧ ((j + 1) = j') ∧ (Open = Open) ∧ (Dist = Dist))))))) ∧ ((decide (j < (Dist.length : Int))) = false → (-9223372036854775808 ≤ (i + 1) ∧ (i + 1) ≤ 9223372036854775807) ∧ (∃ i' : Int, (s_l2Metric_JJ0 Open Dist i') ∧ (s_l2Metric_mJ0 Open Dist i' < s_l2Metric_mJ0 Open Dist i) ∧ ((i + 1) = i') ∧ (Open = Open) ∧ (Dist = Dist))))))) ∧ ((decide (i < (Dist.length : Int))) = false → ((true = (metB Open.length Dist)))))))
theorem s_l2Metric_vc (Open : List Int) (Dist : List (List Int)) (hm : ∀ i a : Nat, i < Dist.length → a < Open.length → a < (Dist.getD i []).length ∧ 0 ≤ (Dist.getD i []).getD a 0 ∧ (Dist.getD i []).getD a 0 ≤ 99) (w_Open : (Open.length : Int) ≤ 9223372036854775807) (w_Dist : (Dist.length : Int) ≤ 9223372036854775807) (v_Dist : ∀ x9 ∈ Dist, (x9.length : Int) ≤ 9223372036854775807) : s_l2Metric_P Open Dist := by
  unfold s_l2Metric_P
  refine ⟨?_, ?_⟩
  ·refine ⟨0, ?_⟩
   refine ⟨?_, rfl, rfl, rfl⟩
   ·refine ⟨?_, ?_, ?_⟩
    ·omega
    ·omega
    ·rfl
  ·intro i hJ
   obtain ⟨h1, h2, h3⟩ := hJ
   refine ⟨?_, ?_⟩
   ·intro b1
    try simp only [nrmT] at b1
    refine ⟨?_, ?_⟩
    ·refine ⟨0, ?_⟩
     refine ⟨?_, rfl, rfl, rfl, rfl⟩
     ·refine ⟨?_, ?_, ?_⟩
      ·omega
      ·omega
      ·rfl
    ·intro j hJ
     obtain ⟨h4, h5, h6⟩ := hJ
     refine ⟨?_, ?_⟩
     ·intro b2
      try simp only [nrmT] at b2
      refine ⟨?_, ?_⟩
      ·refine ⟨0, ?_⟩
       refine ⟨?_, rfl, rfl, rfl, rfl, rfl⟩
       ·refine ⟨?_, ?_, ?_⟩
        ·omega
        ·omega
        ·rfl
      ·intro a hJ
       obtain ⟨h7, h8, h9⟩ := hJ
       refine ⟨?_, ?_⟩
       ·intro b3
        try simp only [nrmT] at b3
        refine ⟨?_, ?_⟩
        ·refine ⟨0, ?_⟩
         refine ⟨?_, rfl, rfl, rfl, rfl, rfl, rfl⟩
         ·refine ⟨?_, ?_, ?_⟩
          ·omega
          ·omega
          ·rfl
        ·intro b hJ
         obtain ⟨k1, k2, k3⟩ := hJ
         refine ⟨?_, ?_⟩
         ·intro b4
          try simp only [nrmT] at b4
          refine ⟨rfl, ?_, ?_, ?_, ?_, ?_, ?_, ?_, ?_, ?_, ?_, ?_, ?_, ?_, ?_, ?_, ?_, ?_, ?_, ?_, ?_, ?_, ?_, ?_, ?_, ?_, ?_, ?_, ?_⟩
          ·omega
          ·omega
          ·omega
          ·omega
          ·have q1 := hm i.toNat a.toNat (by omega) (by omega)
           have q2 := hm i.toNat b.toNat (by omega) (by omega)
           have q3 := hm j.toNat b.toNat (by omega) (by omega)
           have q4 := hm j.toNat a.toNat (by omega) (by omega)
           omega
          ·have q1 := hm i.toNat a.toNat (by omega) (by omega)
           have q2 := hm i.toNat b.toNat (by omega) (by omega)
           have q3 := hm j.toNat b.toNat (by omega) (by omega)
           have q4 := hm j.toNat a.toNat (by omega) (by omega)
           omega
          ·omega
          ·omega
          ·omega
          ·omega
          ·have q1 := hm i.toNat a.toNat (by omega) (by omega)
           have q2 := hm i.toNat b.toNat (by omega) (by omega)
           have q3 := hm j.toNat b.toNat (by omega) (by omega)
           have q4 := hm j.toNat a.toNat (by omega) (by omega)
           omega
          ·have q1 := hm i.toNat a.toNat (by omega) (by omega)
           have q2 := hm i.toNat b.toNat (by omega) (by omega)
           have q3 := hm j.toNat b.toNat (by omega) (by omega)
           have q4 := hm j.toNat a.toNat (by omega) (by omega)
           omega
          ·omega
          ·omega
          ·omega
          ·omega
          ·have q1 := hm i.toNat a.toNat (by omega) (by omega)
           have q2 := hm i.toNat b.toNat (by omega) (by omega)
           have q3 := hm j.toNat b.toNat (by omega) (by omega)
           have q4 := hm j.toNat a.toNat (by omega) (by omega)
           omega
          ·have q1 := hm i.toNat a.toNat (by omega) (by omega)
           have q2 := hm i.toNat b.toNat (by omega) (by omega)
           have q3 := hm j.toNat b.toNat (by omega) (by omega)
           have q4 := hm j.toNat a.toNat (by omega) (by omega)
           omega
          ·have q1 := hm i.toNat a.toNat (by omega) (by omega)
           have q2 := hm i.toNat b.toNat (by omega) (by omega)
           have q3 := hm j.toNat b.toNat (by omega) (by omega)
           have q4 := hm j.toNat a.toNat (by omega) (by omega)
           omega
          ·omega
          ·omega
          ·omega
          ·omega
          ·have q1 := hm i.toNat a.toNat (by omega) (by omega)
           have q2 := hm i.toNat b.toNat (by omega) (by omega)
           have q3 := hm j.toNat b.toNat (by omega) (by omega)
           have q4 := hm j.toNat a.toNat (by omega) (by omega)
           omega
          ·have q1 := hm i.toNat a.toNat (by omega) (by omega)
           have q2 := hm i.toNat b.toNat (by omega) (by omega)
           have q3 := hm j.toNat b.toNat (by omega) (by omega)
           have q4 := hm j.toNat a.toNat (by omega) (by omega)
           omega
          ·have q1 := hm i.toNat a.toNat (by omega) (by omega)
           have q2 := hm i.toNat b.toNat (by omega) (by omega)
           have q3 := hm j.toNat b.toNat (by omega) (by omega)
           have q4 := hm j.toNat a.toNat (by omega) (by omega)
           omega
          ·intro b5
           try simp only [nrmT] at b5
           have e1 : metA Open.length Dist i.toNat j.toNat a.toNat = false := allTo_falseI k1 (by omega) (by unfold violB; rw [decide_eq_true (by omega)]; rfl)
           have e2 : metJ Open.length Dist i.toNat j.toNat = false := allTo_falseI h7 (by omega) e1
           have e3 : metI Open.length Dist i.toNat = false := allTo_falseI h4 (by omega) e2
           exact (show metB Open.length Dist = false from allTo_falseI h1 (by omega) e3).symm
          ·intro b6
           try simp only [nrmT] at b6
           refine ⟨?_, ?_⟩
           ·omega
           ·refine ⟨(b + 1), ?_⟩
            refine ⟨?_, ?_, rfl, rfl, rfl, rfl, rfl, rfl⟩
            ·refine ⟨?_, ?_, ?_⟩
             ·omega
             ·omega
             ·refine allTo_step k1 k3 ?_
              unfold violB
              rw [decide_eq_false (by omega)]; rfl
            ·first | (show _ < _; omega) | (simp only [s_l2Metric_mJ3]; omega) | (simp only [s_l2Metric_mJ3] at *; simp at *; omega)
         ·intro b7
          try simp only [nrmT] at b7
          refine ⟨?_, ?_⟩
          ·omega
          ·refine ⟨(a + 1), ?_⟩
           refine ⟨?_, ?_, rfl, rfl, rfl, rfl, rfl⟩
           ·refine ⟨?_, ?_, ?_⟩
            ·omega
            ·omega
            ·refine allTo_step h7 h9 ?_
             show allTo _ Open.length = true
             rw [← k3]; congr 1; omega
           ·first | (show _ < _; omega) | (simp only [s_l2Metric_mJ2]; omega) | (simp only [s_l2Metric_mJ2] at *; simp at *; omega)
       ·intro b8
        try simp only [nrmT] at b8
        refine ⟨?_, ?_⟩
        ·omega
        ·refine ⟨(j + 1), ?_⟩
         refine ⟨?_, ?_, rfl, rfl, rfl, rfl⟩
         ·refine ⟨?_, ?_, ?_⟩
          ·omega
          ·omega
          ·refine allTo_step h4 h6 ?_
           show allTo _ Open.length = true
           rw [← h9]; congr 1; omega
         ·first | (show _ < _; omega) | (simp only [s_l2Metric_mJ1]; omega) | (simp only [s_l2Metric_mJ1] at *; simp at *; omega)
     ·intro b9
      try simp only [nrmT] at b9
      refine ⟨?_, ?_⟩
      ·omega
      ·refine ⟨(i + 1), ?_⟩
       refine ⟨?_, ?_, rfl, rfl, rfl⟩
       ·refine ⟨?_, ?_, ?_⟩
        ·omega
        ·omega
        ·refine allTo_step h1 h3 ?_
         show allTo _ Dist.length = true
         rw [← h6]; congr 1; omega
       ·first | (show _ < _; omega) | (simp only [s_l2Metric_mJ0]; omega) | (simp only [s_l2Metric_mJ0] at *; simp at *; omega)
   ·intro b10
    try simp only [nrmT] at b10
    unfold metB
    rw [← h3]; congr 1; omega
theorem s_l2Metric_pc (Open : List Int) (Dist : List (List Int)) (hm : ∀ i a : Nat, i < Dist.length → a < Open.length → a < (Dist.getD i []).length ∧ 0 ≤ (Dist.getD i []).getD a 0 ∧ (Dist.getD i []).getD a 0 ≤ 99) : PC Try.prog 258 [.agg [.sl (.ints Open), .sl (.rows Dist)]] (.one (.d (.bool (metB Open.length Dist)))) :=
  pc_wf @Try.call258 fun hw => pc_by (by kernel_rfl) Try.func258 @Try.call258 (by kernel_rfl) s_l2Metric_C (s_l2Metric_A Open Dist) (by kernel_rfl) (s_l2Metric_vc Open Dist hm hw.1.1 hw.1.2.1.1 hw.1.2.1.2) (by kernel_rfl)
def s_l2Metric_orc : List D → Orc := orcN [none] fun ds => match ds with
  | [.agg [.sl (.ints Open), .sl (.rows Dist)]] => some (.one (.d (.bool (metB Open.length Dist))))
  | _ => none
abbrev s_l2Close_JJ0 (Open : List Int) (Dist : List (List Int)) (O1 : List Int) (D1 : List (List Int)) : Prop := (drF O1 D1)
abbrev s_l2Close_mJ0 (Open : List Int) (Dist : List (List Int)) (O1 : List Int) (D1 : List (List Int)) : Nat := (tot D1).toNat
abbrev s_l2Close_JJ1 (Open : List Int) (Dist : List (List Int)) (O1 : List Int) (D1 : List (List Int)) (i : Int) (O2 : List Int) (D2 : List (List Int)) : Prop := (O2 = O1) ∧ (0 ≤ i) ∧ (i ≤ (D2.length : Int)) ∧ (drF O1 D2) ∧ (D2.length = D1.length) ∧ (Clo D1 D2 (allTo (metI O1.length D1) i.toNat))
abbrev s_l2Close_mJ1 (Open : List Int) (Dist : List (List Int)) (O1 : List Int) (D1 : List (List Int)) (i : Int) (O2 : List Int) (D2 : List (List Int)) : Nat := (D2.length - i).toNat
abbrev s_l2Close_JJ2 (Open : List Int) (Dist : List (List Int)) (O1 : List Int) (D1 : List (List Int)) (i : Int) (O2 : List Int) (D2 : List (List Int)) (j : Int) (O3 : List Int) (D3 : List (List Int)) : Prop := (O3 = O1) ∧ (0 ≤ j) ∧ (j ≤ (D3.length : Int)) ∧ (drF O1 D3) ∧ (D3.length = D1.length) ∧ (Clo D1 D3 (allTo (metI O1.length D1) i.toNat && allTo (metJ O1.length D1 i.toNat) j.toNat))
abbrev s_l2Close_mJ2 (Open : List Int) (Dist : List (List Int)) (O1 : List Int) (D1 : List (List Int)) (i : Int) (O2 : List Int) (D2 : List (List Int)) (j : Int) (O3 : List Int) (D3 : List (List Int)) : Nat := (D3.length - j).toNat
abbrev s_l2Close_JJ3 (Open : List Int) (Dist : List (List Int)) (O1 : List Int) (D1 : List (List Int)) (i : Int) (O2 : List Int) (D2 : List (List Int)) (j : Int) (O3 : List Int) (D3 : List (List Int)) (a : Int) (O4 : List Int) (D4 : List (List Int)) : Prop := (O4 = O1) ∧ (0 ≤ a) ∧ (a ≤ (O1.length : Int)) ∧ (drF O1 D4) ∧ (D4.length = D1.length) ∧ (Clo D1 D4 (allTo (metI O1.length D1) i.toNat && allTo (metJ O1.length D1 i.toNat) j.toNat && allTo (metA O1.length D1 i.toNat j.toNat) a.toNat))
abbrev s_l2Close_mJ3 (Open : List Int) (Dist : List (List Int)) (O1 : List Int) (D1 : List (List Int)) (i : Int) (O2 : List Int) (D2 : List (List Int)) (j : Int) (O3 : List Int) (D3 : List (List Int)) (a : Int) (O4 : List Int) (D4 : List (List Int)) : Nat := (O1.length - a).toNat
abbrev s_l2Close_JJ4 (Open : List Int) (Dist : List (List Int)) (O1 : List Int) (D1 : List (List Int)) (i : Int) (O2 : List Int) (D2 : List (List Int)) (j : Int) (O3 : List Int) (D3 : List (List Int)) (a : Int) (O4 : List Int) (D4 : List (List Int)) (b : Int) (D5 : List (List Int)) : Prop := (0 ≤ b) ∧ (b ≤ (O1.length : Int)) ∧ (drF O1 D5) ∧ (D5.length = D1.length) ∧ (Clo D1 D5 (allTo (metI O1.length D1) i.toNat && allTo (metJ O1.length D1 i.toNat) j.toNat && allTo (metA O1.length D1 i.toNat j.toNat) a.toNat && allTo (fun b => !violB D1 i.toNat j.toNat a.toNat b) b.toNat))
abbrev s_l2Close_mJ4 (Open : List Int) (Dist : List (List Int)) (O1 : List Int) (D1 : List (List Int)) (i : Int) (O2 : List Int) (D2 : List (List Int)) (j : Int) (O3 : List Int) (D3 : List (List Int)) (a : Int) (O4 : List Int) (D4 : List (List Int)) (b : Int) (D5 : List (List Int)) : Nat := (O1.length - b).toNat
abbrev s_l2Close_Q (Open : List Int) (Dist : List (List Int)) (O : List Int) (D : List (List Int)) : Prop := (drF O D)
def s_l2Close_X (Open : List Int) (Dist : List (List Int)) : Ex := ex2 0 (fun (O : List Int) (D : List (List Int)) => s_l2Close_Q Open Dist O D) (fun (O : List Int) (D : List (List Int)) => []) (fun (O : List Int) (D : List (List Int)) => .agg [.own 3 (.ints O), .mat 3 26 D])
def s_l2Close_C (f : FuncId) (ds : List D) : Orc := bif Nat.beq f 257 then s_l2Own_orc ds else bif Nat.beq f 258 then s_l2Metric_orc ds else bif Nat.beq f 165 then s_l1Least_orc ds else .no
def s_l2Close_A (Open : List Int) (Dist : List (List Int)) : Ann := .two (.none) (.two (.none) (.two (.loop (cut2 (fun (O1 : List Int) (D1 : List (List Int)) => s_l2Close_JJ0 Open Dist O1 D1) (fun (O1 : List Int) (D1 : List (List Int)) => [(2, .ptr 2 0), (3, .ptr 3 0)]) (fun (O1 : List Int) (D1 : List (List Int)) => [(2, .box 39 [.d true (.nil), .d true (.nil)]), (1000000, .arr true 3 (.ints O1)), (1000001, .mat 3 26 D1 none), (3, .box 39 [.own 1000000 O1.length, .own 1000001 D1.length])])) (fun g => s_l2Close_mJ0 Open Dist g.1 g.2) (fun g => (fun (O1 : List Int) (D1 : List (List Int)) => .two (.none) (.two (.none) (.loop (cut3 (fun (i : Int) (O2 : List Int) (D2 : List (List Int)) => s_l2Close_JJ1 Open Dist O1 D1 i O2 D2) (fun (i : Int) (O2 : List Int) (D2 : List (List Int)) => [(2, .ptr 2 0), (3, .ptr 3 0), (4, .d true (.int .i64 i))]) (fun (i : Int) (O2 : List Int) (D2 : List (List Int)) => [(2, .box 39 [.d true (.nil), .d true (.nil)]), (1000101, .arr true 3 (.ints O2)), (1000102, .mat 3 26 D2 none), (3, .box 39 [.own 1000101 O2.length, .own 1000102 D2.length])])) (fun g => s_l2Close_mJ1 Open Dist O1 D1 g.1 g.2.1 g.2.2) (fun g => (fun (i : Int) (O2 : List Int) (D2 : List (List Int)) => .two (.none) (.two (.two (.none) (.loop (cut3 (fun (j : Int) (O3 : List Int) (D3 : List (List Int)) => s_l2Close_JJ2 Open Dist O1 D1 i O2 D2 j O3 D3) (fun (j : Int) (O3 : List Int) (D3 : List (List Int)) => [(2, .ptr 2 0), (3, .ptr 3 0), (4, .d true (.int .i64 i)), (5, .d true (.int .i64 j))]) (fun (j : Int) (O3 : List Int) (D3 : List (List Int)) => [(2, .box 39 [.d true (.nil), .d true (.nil)]), (1000201, .arr true 3 (.ints O3)), (1000202, .mat 3 26 D3 none), (3, .box 39 [.own 1000201 O3.length, .own 1000202 D3.length])])) (fun g => s_l2Close_mJ2 Open Dist O1 D1 i O2 D2 g.1 g.2.1 g.2.2) (fun g => (fun (j : Int) (O3 : List Int) (D3 : List (List Int)) => .two (.none) (.two (.two (.none) (.loop (cut3 (fun (a : Int) (O4 : List Int) (D4 : List (List Int)) => s_l2Close_JJ3 Open Dist O1 D1 i O2 D2 j O3 D3 a O4 D4) (fun (a : Int) (O4 : List Int) (D4 : List (List Int)) => [(2, .ptr 2 0), (3, .ptr 3 0), (4, .d true (.int .i64 i)), (5, .d true (.int .i64 j)), (6, .d true (.int .i64 a))]) (fun (a : Int) (O4 : List Int) (D4 : List (List Int)) => [(2, .box 39 [.d true (.nil), .d true (.nil)]), (1000301, .arr true 3 (.ints O4)), (1000302, .mat 3 26 D4 none), (3, .box 39 [.own 1000301 O4.length, .own 1000302 D4.length])])) (fun g => s_l2Close_mJ3 Open Dist O1 D1 i O2 D2 j O3 D3 g.1 g.2.1 g.2.2) (fun g => (fun (a : Int) (O4 : List Int) (D4 : List (List Int)) => .two (.none) (.two (.two (.none) (.loop (cut2 (fun (b : Int) (D5 : List (List Int)) => s_l2Close_JJ4 Open Dist O1 D1 i O2 D2 j O3 D3 a O4 D4 b D5) (fun (b : Int) (D5 : List (List Int)) => [(2, .ptr 2 0), (3, .ptr 3 0), (4, .d true (.int .i64 i)), (5, .d true (.int .i64 j)), (6, .d true (.int .i64 a)), (7, .d true (.int .i64 b))]) (fun (b : Int) (D5 : List (List Int)) => [(2, .box 39 [.d true (.nil), .d true (.nil)]), (1000401, .mat 3 26 D5 none), (3, .box 39 [.own 1000301 O4.length, .own 1000401 D5.length]), (1000301, .arr true 3 (.ints O4))])) (fun g => s_l2Close_mJ4 Open Dist O1 D1 i O2 D2 j O3 D3 a O4 D4 g.1 g.2) (fun _ => .none))) (.none))) (g.1) (g.2.1) (g.2.2)))) (.none))) (g.1) (g.2.1) (g.2.2)))) (.none))) (g.1) (g.2.1) (g.2.2))))) (g.1) (g.2))) (.none)))
def s_l2Close_P (Open : List Int) (Dist : List (List Int)) : Prop :=
  (PC Try.prog 257 [.agg [.sl (.ints Open), .sl (.rows Dist)]] (.agg [.own 3 (.ints Open), .mat 3 26 Dist])) ∧ ((∃ O1' : List Int, ∃ D1' : List (List Int), (s_l2Close_JJ0 Open Dist O1' D1') ∧ (Open = O1') ∧ (Dist = D1') ∧ (Open.length = O1'.length) ∧ (Dist.length = D1'.length)) ∧ (∀ O1 : List Int, ∀ D1 : List (List Int), (s_l2Close_JJ0 Open Dist O1 D1) → (O1.length = O1.length) ∧ (D1.length = D1.length) ∧ (PC Try.prog 258 [.agg [.sl (.ints O1), .sl (.rows D1)]] (.one (.d (.bool (metB O1.length D1))))) ∧ (((!(metB O1.length D1)) = true → ((∃ i' : Int, ∃ O2' : List Int, ∃ D2' : List (List Int), (s_l2Close_JJ1 Open Dist O1 D1 i' O2' D2') ∧ ((0 : Int) = i') ∧ (O1 = O2') ∧ (D1 = D2') ∧ (O1.length = O2'.length) ∧ (D1.length = D2'.length)) ∧ (∀ i : Int, ∀ O2 : List Int, ∀ D2 : List (List Int), (s_l2Close_JJ1 Open Dist O1 D1 i O2 D2) → (((decide (i < (D2.length : Int))) = true → ((∃ j' : Int, ∃ O3' : List Int, ∃ D3' : List (List Int), (s_l2Close_JJ2 Open Dist O1 D1 i O2 D2 j' O3' D3') ∧ (i = i) ∧ ((0 : Int) = j') ∧ (O2 = O3') ∧ (D2 = D3') ∧ (O2.length = O3'.length) ∧ (D2.length = D3'.length)) ∧ (∀ j : Int, ∀ O3 : List Int, ∀ D3 : List (List Int), (s_l2Close_JJ2 Open Dist O1 D1 i O2 D2 j O3 D3) → (((decide (j < (D3.length : Int))) = true → ((∃ a' : Int, ∃ O4' : List Int, ∃ D4' : List (List Int), (s_l2Close_JJ3 Open Dist O1 D1 i O2 D2 j O3 D3 a' O4' D4') ∧ (i = i) ∧ (j = j) ∧ ((0 : Int) = a') ∧ (O3 = O4') ∧ (D3 = D4') ∧ (O3.length = O4'.length) ∧ (D3.length = D4'.length)) ∧ (∀ a : Int, ∀ O4 : List Int, ∀ D4 : List (List Int), (s_l2Close_JJ3 Open Dist O1 D1 i O2 D2 j O3 D3 a O4 D4) → (((decide (a < (O4.length : Int))) = true → ((∃ b' : Int, ∃ D5' : List (List Int), (s_l2Close_JJ4 Open Dist O1 D1 i O2 D2 j O3 D3 a O4 D4 b' D5') ∧ (i = i) ∧ (j = j) ∧ (a = a) ∧ ((0 : Int) = b') ∧ (D4 = D5') ∧ (O4.length = O4.length) ∧ (D4.length = D5'.length) ∧ (O4 = O4)) ∧ (∀ b : Int, ∀ D5 : List (List Int), (s_l2Close_JJ4 Open Dist O1 D1 i O2 D2 j O3 D3 a O4 D4 b D5) → (((decide (b < (O4.length : Int))) = true → (true = true) ∧ ((0 : Int) ≤ i) ∧ ((i : Int) < (D5.length : Int)) ∧ (i.toNat < D5.length) ∧ ((0 : Int) ≤ i) ∧ ((i : Int) < (D5.length : Int)) ∧ (i.toNat < D5.length) ∧ ((0 : Int) ≤ a) ∧ ((a : Int) < (((D5.getD i.toNat []).length) : Int)) ∧ (i.toNat < D5.length) ∧ (a.toNat < (D5.getD i.toNat []).length) ∧ ((0 : Int) ≤ i) ∧ ((i : Int) < (D5.length : Int)) ∧ (i.toNat < D5.length) ∧ ((0 : Int) ≤ b) ∧ ((b : Int) < (((D5.getD i.toNat []).length) : Int)) ∧ (i.toNat < D5.length) ∧ (b.toNat < (D5.getD i.toNat []).length) ∧ ((0 : Int) ≤ j) ∧ ((j : Int) < (D5.length : Int)) ∧ (j.toNat < D5.length) ∧ ((0 : Int) ≤ b) ∧ ((b : Int) < (((D5.getD j.toNat []).length) : Int)) ∧ (j.toNat < D5.length) ∧ (b.toNat < (D5.getD j.toNat []).length) ∧ (-9223372036854775808 ≤ (((D5.getD i.toNat []).getD b.toNat 0) + ((D5.getD j.toNat []).getD b.toNat 0)) ∧ (((D5.getD i.toNat []).getD b.toNat 0) + ((D5.getD j.toNat []).getD b.toNat 0)) ≤ 9223372036854775807) ∧ ((0 : Int) ≤ j) ∧ ((j : Int) < (D5.length : Int)) ∧ (j.toNat < D5.length) ∧ ((0 : Int) ≤ a) ∧ ((a : Int) < (((D5.getD j.toNat []).length) : Int)) ∧ (j.toNat < D5.length) ∧ (a.toNat < (D5.getD j.toNat []).length) ∧ (-9223372036854775808 ≤ ((((D5.getD i.toNat []).getD b.toNat 0) + ((D5.getD j.toNat []).getD b.toNat 0)) + ((D5.getD j.toNat []).getD a.toNat 0)) ∧ ((((D5.getD i.toNat []).getD b.toNat 0) + ((D5.getD j.toNat []).getD b.toNat 0)) + ((D5.getD j.toNat []).getD a.toNat 0)) ≤ 9223372036854775807) ∧ (PC Try.prog 165 [.int .i64 ((D5.getD i.toNat []).getD a.toNat 0), .int .i64 ((((D5.getD i.toNat []).getD b.toNat 0) + ((D5.getD j.toNat []).getD b.toNat 0)) + ((D5.getD j.toNat []).getD a.toNat 0))] (.one (.d (.int .i64 (min ((D5.getD i.toNat []).getD a.toNat 0) ((((D5.getD i.toNat []).getD b.toNat 0) + ((D5.getD j.toNat []).getD b.toNat 0)) + ((D5.getD j.toNat []).getD a.toNat 0))))))) ∧ ((0 : Int) ≤ a) ∧ ((a : Int) < (((D5.getD i.toNat []).length) : Int)) ∧ (i.toNat < D5.length) ∧ (a.toNat < (D5.getD i.toNat []).length) ∧ (-9223372036854775808 ≤ (b + 1) ∧ (b + 1) ≤ 9223372036854775807) ∧ (∃ b' : Int, ∃ D5' : List (List Int), (s_l2Close_JJ4 Open Dist O1 D1 i O2 D2 j O3 D3 a O4 D4 b' D5') ∧ (s_l2Close_mJ4 Open Dist O1 D1 i O2 D2 j O3 D3 a O4 D4 b' D5' < s_l2Close_mJ4 Open Dist O1 D1 i O2 D2 j O3 D3 a O4 D4 b D5) ∧ (i = i) ∧ (j = j) ∧ (a = a) ∧ ((b + 1) = b') ∧ ((D5.set i.toNat ((D5.getD i.toNat []).set a.toNat (min ((D5.getD i.toNat []).getD a.toNat 0) ((((D5.getD i.toNat []).getD b.toNat 0) + ((D5.getD j.toNat []).getD b.toNat 0)) + ((D5.getD j.toNat []).getD a.toNat 0))))) = D5') ∧ (O4.length = O4.length) ∧ (D5.length = D5'.length) ∧ (O4 = O4))) ∧ ((decide (b < (O4.length : Int))) = false → (-9223372036854775808 ≤ (a + 1) ∧ (a + 1) ≤ 9223372036854775807) ∧ (∃ a' : Int, ∃ O4' : List Int, ∃ D4' : List (List Int), (s_l2Close_JJ3 Open Dist O1 D1 i O2 D2 j O3 D3 a' O4' D4') ∧ (s_l2Close_mJ3 Open Dist O1 D1 i O2 D2 j O3 D3 a' O4' D4' < s_l2Close_mJ3 Open Dist O1 D1 i O2 D2 j O3 D3 a O4 D4) ∧ (i = i) ∧ (j = j) ∧ ((a + 1) = a') ∧ (O4 = O4') ∧ (D5 = D4') ∧ (O4.length = O4'.length) ∧ (D5.length = D4'.length))))))) ∧ ((decide (a < (O4.length : Int))) = false → (-9223372036854775808 ≤ (j + 1) ∧ (j + 1) ≤ 9223372036854775807) ∧ (∃ j' : Int, ∃ O3' : List Int, ∃ D3' : List (List Int), (s_l2Close_JJ2 Open Dist O1 D1 i O2 D2 j' O3' D3') ∧ (s_l2Close_mJ2 Open Dist O1 D1 i O2 D2 j' O3' D3' < s_l2Close_mJ2 Open Dist O1 D1 i O2 D2 j O3 D3) ∧ (i = i) ∧ ((j + 1) = j') ∧ (O4 = O3') ∧ (D4 = D3') ∧ (O4.length = O3'.length) ∧ (D4.length = D3'.length))))))) ∧ ((decide (j < (D3.length : Int))) = false → (-9223372036854775808 ≤ (i + 1) ∧ (i + 1) ≤ 9223372036854775807) ∧ (∃ i' : Int, ∃ O2' : List Int, ∃ D2' : List (List Int), (s_l2Close_JJ1 Open Dist O1 D1 i' O2' D2') ∧ (s_l2Close_mJ1 Open Dist O1 D1 i' O2' D2' < s_l2Close_mJ1 Open Dist O1 D1 i O2 D2) ∧ ((i + 1) = i') ∧ (O3 = O2') ∧ (D3 = D2') ∧ (O3.length = O2'.length) ∧ (D3.length = D2'.length))))))) ∧ ((decide (i < (D2.length : Int))) = false → (∃ O1' : List Int, ∃ D1' : List (List Int), (s_l2Close_JJ0 Open Dist O1' D1') ∧ (s_l2Close_mJ0 Open Dist O1' D1' < s_l2Close_mJ0 Open Dist O1 D1) ∧ (O2 = O1') ∧ (D2 = D1') ∧ (O2.length = O1'.length) ∧ (D2.length = D1'.length))))))) ∧ ((!(metB O1.length D1)) = false → (∃ O' : List Int, ∃ D' : List (List Int), (s_l2Close_Q Open Dist O' D') ∧ (O1.length = O1.length) ∧ ((O1 : List Int) = O') ∧ (D1.length = D1.length) ∧ ((D1 : List (List Int)) = D'))))))
theorem s_l2Close_vc (Open : List Int) (Dist : List (List Int)) (hf : drF Open Dist) (w_Open : (Open.length : Int) ≤ 9223372036854775807) (w_Dist : (Dist.length : Int) ≤ 9223372036854775807) (v_Dist : ∀ x9 ∈ Dist, (x9.length : Int) ≤ 9223372036854775807) : s_l2Close_P Open Dist := by
  unfold s_l2Close_P
  refine ⟨?_, ?_, ?_⟩
  ·refine s_l2Own_pc Open Dist ?_ ?_ ?_
   ·have q := hf.1; have q2 := hf.2.1; omega
   ·have q := hf.1; have q2 := hf.2.1; omega
   ·intro r hr
    have q := (hf.2.2 r hr).1
    have q2 := hf.1
    omega
  ·refine ⟨Open, Dist, ?_⟩
   refine ⟨?_, rfl, rfl, rfl, rfl⟩
   ·unfold s_l2Close_JJ0
    first | assumption | (rw [o2]; assumption) | (rw [o3]; assumption) | (rw [o4]; assumption)
  ·intro O1 D1 hJ
   have d1 := hJ
   refine ⟨rfl, rfl, ?_, ?_, ?_⟩
   ·refine s_l2Metric_pc O1 D1 ?_
    ·intro i a hi ha
     have q := drF_at d1 hi ha
     omega
   ·intro b1
    try simp only [nrmT] at b1
    refine ⟨?_, ?_⟩
    ·refine ⟨0, O1, D1, ?_⟩
     refine ⟨?_, rfl, rfl, rfl, rfl, rfl⟩
     ·refine ⟨?_, ?_, ?_, ?_, ?_, ?_⟩
      ·rfl
      ·omega
      ·omega
      ·first | assumption | (rw [o2]; assumption) | (rw [o3]; assumption) | (rw [o4]; assumption)
      ·omega
      ·exact .inl ⟨rfl, rfl⟩
    ·intro i O2 D2 hJ
     obtain ⟨o2, h1, h2, d2, l2, c2⟩ := hJ
     refine ⟨?_, ?_⟩
     ·intro b2
      try simp only [nrmT] at b2
      refine ⟨?_, ?_⟩
      ·refine ⟨0, O2, D2, ?_⟩
       refine ⟨?_, rfl, rfl, rfl, rfl, rfl, rfl⟩
       ·refine ⟨?_, ?_, ?_, ?_, ?_, ?_⟩
        ·first | assumption | rfl
        ·omega
        ·omega
        ·first | assumption | (rw [o2]; assumption) | (rw [o3]; assumption) | (rw [o4]; assumption)
        ·omega
        ·exact clo_mono c2 fun h => by rw [h]; rfl
      ·intro j O3 D3 hJ
       obtain ⟨o3, h4, h5, d3, l3, c3⟩ := hJ
       refine ⟨?_, ?_⟩
       ·intro b3
        try simp only [nrmT] at b3
        refine ⟨?_, ?_⟩
        ·refine ⟨0, O3, D3, ?_⟩
         refine ⟨?_, rfl, rfl, rfl, rfl, rfl, rfl, rfl⟩
         ·refine ⟨?_, ?_, ?_, ?_, ?_, ?_⟩
          ·first | assumption | rfl
          ·omega
          ·omega
          ·first | assumption | (rw [o2]; assumption) | (rw [o3]; assumption) | (rw [o4]; assumption)
          ·omega
          ·exact clo_mono c3 fun h => by rw [h]; rfl
        ·intro a O4 D4 hJ
         obtain ⟨o4, h7, h8, d4, l4, c4⟩ := hJ
         refine ⟨?_, ?_⟩
         ·intro b4
          try simp only [nrmT] at b4
          refine ⟨?_, ?_⟩
          ·refine ⟨0, D4, ?_⟩
           refine ⟨?_, rfl, rfl, rfl, rfl, rfl, rfl, rfl, rfl⟩
           ·refine ⟨?_, ?_, ?_, ?_, ?_⟩
            ·omega
            ·omega
            ·first | assumption | (rw [o2]; assumption) | (rw [o3]; assumption) | (rw [o4]; assumption)
            ·omega
            ·exact clo_mono c4 fun h => by rw [h]; rfl
          ·intro b D5 hJ
           obtain ⟨k1, k2, d5, l5, c5⟩ := hJ
           refine ⟨?_, ?_⟩
           ·intro b5
            try simp only [nrmT] at b5
            refine ⟨rfl, ?_, ?_, ?_, ?_, ?_, ?_, ?_, ?_, ?_, ?_, ?_, ?_, ?_, ?_, ?_, ?_, ?_, ?_, ?_, ?_, ?_, ?_, ?_, ?_, ?_, ?_, ?_, ?_, ?_, ?_, ?_, ?_, ?_, s_l1Least_pc ((D5.getD i.toNat []).getD a.toNat 0) ((((D5.getD i.toNat []).getD b.toNat 0) + ((D5.getD j.toNat []).getD b.toNat 0)) + ((D5.getD j.toNat []).getD a.toNat 0)), ?_, ?_, ?_, ?_, ?_, ?_⟩
            ·omega
            ·omega
            ·omega
            ·omega
            ·omega
            ·omega
            ·omega
            ·have eo := congrArg List.length o4
             have q1 := drF_at d5 (i := i.toNat) (a := a.toNat) (by omega) (by omega)
             have q2 := drF_at d5 (i := i.toNat) (a := b.toNat) (by omega) (by omega)
             have q3 := drF_at d5 (i := j.toNat) (a := b.toNat) (by omega) (by omega)
             have q4 := drF_at d5 (i := j.toNat) (a := a.toNat) (by omega) (by omega)
             omega
            ·omega
            ·have eo := congrArg List.length o4
             have q1 := drF_at d5 (i := i.toNat) (a := a.toNat) (by omega) (by omega)
             have q2 := drF_at d5 (i := i.toNat) (a := b.toNat) (by omega) (by omega)
             have q3 := drF_at d5 (i := j.toNat) (a := b.toNat) (by omega) (by omega)
             have q4 := drF_at d5 (i := j.toNat) (a := a.toNat) (by omega) (by omega)
             omega
            ·omega
            ·omega
            ·omega
            ·omega
            ·have eo := congrArg List.length o4
             have q1 := drF_at d5 (i := i.toNat) (a := a.toNat) (by omega) (by omega)
             have q2 := drF_at d5 (i := i.toNat) (a := b.toNat) (by omega) (by omega)
             have q3 := drF_at d5 (i := j.toNat) (a := b.toNat) (by omega) (by omega)
             have q4 := drF_at d5 (i := j.toNat) (a := a.toNat) (by omega) (by omega)
             omega
            ·omega
            ·have eo := congrArg List.length o4
             have q1 := drF_at d5 (i := i.toNat) (a := a.toNat) (by omega) (by omega)
             have q2 := drF_at d5 (i := i.toNat) (a := b.toNat) (by omega) (by omega)
             have q3 := drF_at d5 (i := j.toNat) (a := b.toNat) (by omega) (by omega)
             have q4 := drF_at d5 (i := j.toNat) (a := a.toNat) (by omega) (by omega)
             omega
            ·omega
            ·omega
            ·omega
            ·omega
            ·have eo := congrArg List.length o4
             have q1 := drF_at d5 (i := i.toNat) (a := a.toNat) (by omega) (by omega)
             have q2 := drF_at d5 (i := i.toNat) (a := b.toNat) (by omega) (by omega)
             have q3 := drF_at d5 (i := j.toNat) (a := b.toNat) (by omega) (by omega)
             have q4 := drF_at d5 (i := j.toNat) (a := a.toNat) (by omega) (by omega)
             omega
            ·omega
            ·have eo := congrArg List.length o4
             have q1 := drF_at d5 (i := i.toNat) (a := a.toNat) (by omega) (by omega)
             have q2 := drF_at d5 (i := i.toNat) (a := b.toNat) (by omega) (by omega)
             have q3 := drF_at d5 (i := j.toNat) (a := b.toNat) (by omega) (by omega)
             have q4 := drF_at d5 (i := j.toNat) (a := a.toNat) (by omega) (by omega)
             omega
            ·have eo := congrArg List.length o4
             have q1 := drF_at d5 (i := i.toNat) (a := a.toNat) (by omega) (by omega)
             have q2 := drF_at d5 (i := i.toNat) (a := b.toNat) (by omega) (by omega)
             have q3 := drF_at d5 (i := j.toNat) (a := b.toNat) (by omega) (by omega)
             have q4 := drF_at d5 (i := j.toNat) (a := a.toNat) (by omega) (by omega)
             omega
            ·omega
            ·omega
            ·omega
            ·omega
            ·have eo := congrArg List.length o4
             have q1 := drF_at d5 (i := i.toNat) (a := a.toNat) (by omega) (by omega)
             have q2 := drF_at d5 (i := i.toNat) (a := b.toNat) (by omega) (by omega)
             have q3 := drF_at d5 (i := j.toNat) (a := b.toNat) (by omega) (by omega)
             have q4 := drF_at d5 (i := j.toNat) (a := a.toNat) (by omega) (by omega)
             omega
            ·omega
            ·have eo := congrArg List.length o4
             have q1 := drF_at d5 (i := i.toNat) (a := a.toNat) (by omega) (by omega)
             have q2 := drF_at d5 (i := i.toNat) (a := b.toNat) (by omega) (by omega)
             have q3 := drF_at d5 (i := j.toNat) (a := b.toNat) (by omega) (by omega)
             have q4 := drF_at d5 (i := j.toNat) (a := a.toNat) (by omega) (by omega)
             omega
            ·have eo := congrArg List.length o4
             have q1 := drF_at d5 (i := i.toNat) (a := a.toNat) (by omega) (by omega)
             have q2 := drF_at d5 (i := i.toNat) (a := b.toNat) (by omega) (by omega)
             have q3 := drF_at d5 (i := j.toNat) (a := b.toNat) (by omega) (by omega)
             have q4 := drF_at d5 (i := j.toNat) (a := a.toNat) (by omega) (by omega)
             omega
            ·omega
            ·have eo := congrArg List.length o4
             have q1 := drF_at d5 (i := i.toNat) (a := a.toNat) (by omega) (by omega)
             have q2 := drF_at d5 (i := i.toNat) (a := b.toNat) (by omega) (by omega)
             have q3 := drF_at d5 (i := j.toNat) (a := b.toNat) (by omega) (by omega)
             have q4 := drF_at d5 (i := j.toNat) (a := a.toNat) (by omega) (by omega)
             omega
            ·omega
            ·have eo := congrArg List.length o4
             have q1 := drF_at d5 (i := i.toNat) (a := a.toNat) (by omega) (by omega)
             have q2 := drF_at d5 (i := i.toNat) (a := b.toNat) (by omega) (by omega)
             have q3 := drF_at d5 (i := j.toNat) (a := b.toNat) (by omega) (by omega)
             have q4 := drF_at d5 (i := j.toNat) (a := a.toNat) (by omega) (by omega)
             omega
            ·first | omega | (have q := d2.2.1; omega) | (have q := d3.2.1; omega) | (have q := d4.1; have eo := congrArg List.length o4; omega) | (have q := d5.1; have eo := congrArg List.length o4; omega)
            ·refine ⟨(b + 1), (D5.set i.toNat ((D5.getD i.toNat []).set a.toNat (min ((D5.getD i.toNat []).getD a.toNat 0) ((((D5.getD i.toNat []).getD b.toNat 0) + ((D5.getD j.toNat []).getD b.toNat 0)) + ((D5.getD j.toNat []).getD a.toNat 0))))), ?_⟩
             refine ⟨?_, ?_, rfl, rfl, rfl, rfl, rfl, rfl, ?_, rfl⟩
             ·refine ⟨?_, ?_, ?_, ?_, ?_⟩
              ·omega
              ·(simp_all <;> omega)
              ·have eo := congrArg List.length o4
               have hs := clo_step d5 (i := i.toNat) (j := j.toNat) (a := a.toNat) (b := b.toNat) (by omega) (by omega) (by omega) (by omega) c5
               exact hs.1
              ·simp; try omega
              ·have eo := congrArg List.length o4
               have hs := clo_step d5 (i := i.toNat) (j := j.toNat) (a := a.toNat) (b := b.toNat) (by omega) (by omega) (by omega) (by omega) c5
               rw [show (b + 1).toNat = b.toNat + 1 by omega]
               exact hs.2
             ·have eo := congrArg List.length o4
              first | (show _ < _; omega) | (simp only [s_l2Close_mJ4]; omega) | (simp only [s_l2Close_mJ4] at *; simp at *; omega)
             ·(simp_all; done)
           ·intro b6
            try simp only [nrmT] at b6
            refine ⟨?_, ?_⟩
            ·first | omega | (have q := d2.2.1; omega) | (have q := d3.2.1; omega) | (have q := d4.1; have eo := congrArg List.length o4; omega) | (have q := d5.1; have eo := congrArg List.length o4; omega)
            ·refine ⟨(a + 1), O4, D5, ?_⟩
             refine ⟨?_, ?_, rfl, rfl, rfl, rfl, rfl, rfl, rfl⟩
             ·refine ⟨?_, ?_, ?_, ?_, ?_, ?_⟩
              ·first | assumption | rfl
              ·omega
              ·omega
              ·first | assumption | (rw [o2]; assumption) | (rw [o3]; assumption) | (rw [o4]; assumption)
              ·omega
              ·have eo := congrArg List.length o4
               refine clo_mono c5 fun h => ?_
               simp only [Bool.and_eq_true] at h ⊢
               refine ⟨h.1.1, allTo_step h7 h.1.2 ?_⟩
               show allTo _ O1.length = true
               rw [← h.2]; congr 1; omega
             ·first | (show _ < _; omega) | (simp only [s_l2Close_mJ3]; omega) | (simp only [s_l2Close_mJ3] at *; simp at *; omega)
         ·intro b7
          try simp only [nrmT] at b7
          refine ⟨?_, ?_⟩
          ·first | omega | (have q := d2.2.1; omega) | (have q := d3.2.1; omega) | (have q := d4.1; have eo := congrArg List.length o4; omega) | (have q := d5.1; have eo := congrArg List.length o4; omega)
          ·refine ⟨(j + 1), O4, D4, ?_⟩
           refine ⟨?_, ?_, rfl, rfl, rfl, rfl, rfl, rfl⟩
           ·refine ⟨?_, ?_, ?_, ?_, ?_, ?_⟩
            ·first | assumption | rfl
            ·omega
            ·omega
            ·first | assumption | (rw [o2]; assumption) | (rw [o3]; assumption) | (rw [o4]; assumption)
            ·omega
            ·refine clo_mono c4 fun h => ?_
             simp only [Bool.and_eq_true] at h ⊢
             refine ⟨h.1.1, allTo_step h4 h.1.2 ?_⟩
             show allTo _ O1.length = true
             rw [← h.2]; congr 1
             have eo := congrArg List.length o4
             omega
           ·first | (show _ < _; omega) | (simp only [s_l2Close_mJ2]; omega) | (simp only [s_l2Close_mJ2] at *; simp at *; omega)
       ·intro b8
        try simp only [nrmT] at b8
        refine ⟨?_, ?_⟩
        ·first | omega | (have q := d2.2.1; omega) | (have q := d3.2.1; omega) | (have q := d4.1; have eo := congrArg List.length o4; omega) | (have q := d5.1; have eo := congrArg List.length o4; omega)
        ·refine ⟨(i + 1), O3, D3, ?_⟩
         refine ⟨?_, ?_, rfl, rfl, rfl, rfl, rfl⟩
         ·refine ⟨?_, ?_, ?_, ?_, ?_, ?_⟩
          ·first | assumption | rfl
          ·omega
          ·omega
          ·first | assumption | (rw [o2]; assumption) | (rw [o3]; assumption) | (rw [o4]; assumption)
          ·omega
          ·refine clo_mono c3 fun h => ?_
           simp only [Bool.and_eq_true] at h
           refine allTo_step h1 h.1 ?_
           show allTo _ D1.length = true
           rw [← h.2]; congr 1; omega
         ·first | (show _ < _; omega) | (simp only [s_l2Close_mJ1]; omega) | (simp only [s_l2Close_mJ1] at *; simp at *; omega)
     ·intro b9
      try simp only [nrmT] at b9
      refine ⟨O2, D2, ?_⟩
      refine ⟨?_, ?_, rfl, rfl, rfl, rfl⟩
      ·unfold s_l2Close_JJ0
       first | assumption | (rw [o2]; assumption) | (rw [o3]; assumption) | (rw [o4]; assumption)
      ·have hlt := clo_top (n := O1.length) (D0 := D1) (D := D2) (by rw [show D1.length = i.toNat by omega]; exact c2) (by simpa using b1)
       have hn := tot_nonneg (D := D2) fun r hr x hx => ((d2.2.2 r hr).2 x hx).1
       show (tot D2).toNat < (tot D1).toNat
       omega
   ·intro b10
    try simp only [nrmT] at b10
    refine ⟨O1, D1, ?_⟩
    refine ⟨?_, rfl, rfl, rfl, rfl⟩
    ·unfold s_l2Close_Q
     first | assumption | (rw [o2]; assumption) | (rw [o3]; assumption) | (rw [o4]; assumption)
theorem s_l2Close_pe (Open : List Int) (Dist : List (List Int)) (hf : drF Open Dist) : PE Try.prog 244 [.agg [.sl (.ints Open), .sl (.rows Dist)]] (s_l2Close_X Open Dist) :=
  pe_wf @Try.call244 fun hw => pe_by (by kernel_rfl) Try.func244 @Try.call244 (by kernel_rfl) s_l2Close_C (s_l2Close_A Open Dist) (by kernel_rfl) (s_l2Close_vc Open Dist hf hw.1.1 hw.1.2.1.1 hw.1.2.1.2) (by kernel_rfl)
abbrev s_l1Cur_fieldOf_Q (code : List Nat) (c : Cur) (most : Int) (O : List Int) (D : List (List Int)) (ck : Cur) : Prop := (okC ck 8000000) ∧ (O.length ≤ 8)
def s_l1Cur_fieldOf_X (code : List Nat) (c : Cur) (most : Int) : Ex := ex3 1 (fun (O : List Int) (D : List (List Int)) (ck : Cur) => s_l1Cur_fieldOf_Q code c most O D ck) (fun (O : List Int) (D : List (List Int)) (ck : Cur) => [.int .i64 ck.pos, .int .u64 ck.seed]) (fun (O : List Int) (D : List (List Int)) (ck : Cur) => .one (.d (.agg [.sl (.ints O), .sl (.rows D)])))
def s_l1Cur_fieldOf_C (f : FuncId) (ds : List D) : Orc := .no
def s_l1Cur_fieldOf_A (u : Value) (code : List Nat) (c : Cur) (most : Int) : Ann := .two (.none) (.two (.two (.mark [] [(1, .cell [.int .i64 ((pickC code c 3).pos), .int .u64 ((pickC code c 3).seed)] (.one (.d (.int .i64 (pickV code c 3)))))]) (.two (.none) (.two (.two (.exr (.ex [] 3 (s_l1Cur_rawField_X code (pickC code c 3) most) (fun g => (fun (Or3 : List Int) (Dr3 : List (List Int)) (cfr3 : Cur) => .ex [] 4 (s_l1Cur_spoilt2_X code cfr3 Or3 Dr3) (fun g => (fun (Or3x4 : List Int) (Dr3x4 : List (List Int)) (chr3x4 : Cur) => .ms [] []) (g.1) (g.2.1) (g.2.2))) (g.1) (g.2.1) (g.2.2)))) (.none)) (.two (.none) (.two (.two (.exr (.ex [] 3 (s_l1Cur_lineField_X code (pickC code c 3) most) (fun g => (fun (Or5 : List Int) (Dr5 : List (List Int)) (cgr5 : Cur) => .ex [] 4 (s_l1Cur_spoilt2_X code cgr5 Or5 Dr5) (fun g => (fun (Or5x4 : List Int) (Dr5x4 : List (List Int)) (chr5x4 : Cur) => .ms [] []) (g.1) (g.2.1) (g.2.2))) (g.1) (g.2.1) (g.2.2)))) (.none)) (.none)))))) (.two (.exr (.ex [] 3 (s_l1Cur_rawField_X code (pickC code c 3) most) (fun g => (fun (Or6 : List Int) (Dr6 : List (List Int)) (cfr6 : Cur) => .ex [] 4 (s_l2Close_X Or6 Dr6) (fun g => (fun (Or6x4 : List Int) (Dr6x4 : List (List Int)) => .ex [] 5 (s_l1Cur_spoilt2_X code cfr6 Or6x4 Dr6x4) (fun g => (fun (Or6x5 : List Int) (Dr6x5 : List (List Int)) (chr6x5 : Cur) => .ms [] []) (g.1) (g.2.1) (g.2.2))) (g.1) (g.2))) (g.1) (g.2.1) (g.2.2)))) (.none)))
def s_l1Cur_fieldOf_P (u : Value) (code : List Nat) (c : Cur) (most : Int) : Prop :=
  (PK Try.prog 107 98 (.sl (.bytes code)) [.int .i64 c.pos, .int .u64 c.seed] [.int .i64 ((pickC code c 3).pos), .int .u64 ((pickC code c 3).seed)] [.int .i64 3] (.one (.d (.int .i64 (pickV code c 3))))) ∧ ((((pickV code c 3) == 0) = true → (PKE Try.prog 242 98 (.sl (.bytes code)) [.int .i64 ((pickC code c 3).pos), .int .u64 ((pickC code c 3).seed)] [.int .i64 most] (s_l1Cur_rawField_X code (pickC code c 3) most)) ∧ (∀ Or3 : List Int, ∀ Dr3 : List (List Int), ∀ cfr3 : Cur, s_l1Cur_rawField_Q code (pickC code c 3) most Or3 Dr3 cfr3 → ((true = true) ∧ (Or3.length = Or3.length) ∧ (Dr3.length = Dr3.length) ∧ (PKV Try.prog 241 98 (.sl (.bytes code)) [.int .i64 cfr3.pos, .int .u64 cfr3.seed] 3 Or3 3 26 Dr3 (s_l1Cur_spoilt2_X code cfr3 Or3 Dr3)) ∧ (∀ Or3x4 : List Int, ∀ Dr3x4 : List (List Int), ∀ chr3x4 : Cur, s_l1Cur_spoilt2_Q code cfr3 Or3 Dr3 Or3x4 Dr3x4 chr3x4 → ((true = true) ∧ (∃ O' : List Int, ∃ D' : List (List Int), ∃ ck' : Cur, (s_l1Cur_fieldOf_Q code c most O' D' ck') ∧ (true = true) ∧ ((.lit u (.sl (.bytes code)) : D) = .lit u (.sl (.bytes code))) ∧ (chr3x4.pos = ck'.pos) ∧ (chr3x4.seed = ck'.seed) ∧ (Or3x4.length = Or3x4.length) ∧ (Dr3x4.length = Dr3x4.length) ∧ ((.agg [.sl (.ints Or3x4), .sl (.rows Dr3x4)] : D) = .agg [.sl (.ints O'), .sl (.rows D')]))))))) ∧ (((pickV code c 3) == 0) = false → ((((pickV code c 3) == 1) = true → (PKE Try.prog 243 98 (.sl (.bytes code)) [.int .i64 ((pickC code c 3).pos), .int .u64 ((pickC code c 3).seed)] [.int .i64 most] (s_l1Cur_lineField_X code (pickC code c 3) most)) ∧ (∀ Or5 : List Int, ∀ Dr5 : List (List Int), ∀ cgr5 : Cur, s_l1Cur_lineField_Q code (pickC code c 3) most Or5 Dr5 cgr5 → ((true = true) ∧ (Or5.length = Or5.length) ∧ (Dr5.length = Dr5.length) ∧ (PKV Try.prog 241 98 (.sl (.bytes code)) [.int .i64 cgr5.pos, .int .u64 cgr5.seed] 3 Or5 3 26 Dr5 (s_l1Cur_spoilt2_X code cgr5 Or5 Dr5)) ∧ (∀ Or5x4 : List Int, ∀ Dr5x4 : List (List Int), ∀ chr5x4 : Cur, s_l1Cur_spoilt2_Q code cgr5 Or5 Dr5 Or5x4 Dr5x4 chr5x4 → ((true = true) ∧ (∃ O' : List Int, ∃ D' : List (List Int), ∃ ck' : Cur, (s_l1Cur_fieldOf_Q code c most O' D' ck') ∧ (true = true) ∧ ((.lit u (.sl (.bytes code)) : D) = .lit u (.sl (.bytes code))) ∧ (chr5x4.pos = ck'.pos) ∧ (chr5x4.seed = ck'.seed) ∧ (Or5x4.length = Or5x4.length) ∧ (Dr5x4.length = Dr5x4.length) ∧ ((.agg [.sl (.ints Or5x4), .sl (.rows Dr5x4)] : D) = .agg [.sl (.ints O'), .sl (.rows D')]))))))) ∧ (((pickV code c 3) == 1) = false → (PKE Try.prog 242 98 (.sl (.bytes code)) [.int .i64 ((pickC code c 3).pos), .int .u64 ((pickC code c 3).seed)] [.int .i64 most] (s_l1Cur_rawField_X code (pickC code c 3) most)) ∧ (∀ Or6 : List Int, ∀ Dr6 : List (List Int), ∀ cfr6 : Cur, s_l1Cur_rawField_Q code (pickC code c 3) most Or6 Dr6 cfr6 → ((true = true) ∧ (Or6.length = Or6.length) ∧ (Dr6.length = Dr6.length) ∧ (PE Try.prog 244 [.agg [.sl (.ints Or6), .sl (.rows Dr6)]] (s_l2Close_X Or6 Dr6)) ∧ (∀ Or6x4 : List Int, ∀ Dr6x4 : List (List Int), s_l2Close_Q Or6 Dr6 Or6x4 Dr6x4 → ((true = true) ∧ (Or6x4.length = Or6x4.length) ∧ (Dr6x4.length = Dr6x4.length) ∧ (PKV Try.prog 241 98 (.sl (.bytes code)) [.int .i64 cfr6.pos, .int .u64 cfr6.seed] 3 Or6x4 3 26 Dr6x4 (s_l1Cur_spoilt2_X code cfr6 Or6x4 Dr6x4)) ∧ (∀ Or6x5 : List Int, ∀ Dr6x5 : List (List Int), ∀ chr6x5 : Cur, s_l1Cur_spoilt2_Q code cfr6 Or6x4 Dr6x4 Or6x5 Dr6x5 chr6x5 → ((true = true) ∧ (∃ O' : List Int, ∃ D' : List (List Int), ∃ ck' : Cur, (s_l1Cur_fieldOf_Q code c most O' D' ck') ∧ (true = true) ∧ ((.lit u (.sl (.bytes code)) : D) = .lit u (.sl (.bytes code))) ∧ (chr6x5.pos = ck'.pos) ∧ (chr6x5.seed = ck'.seed) ∧ (Or6x5.length = Or6x5.length) ∧ (Dr6x5.length = Dr6x5.length) ∧ ((.agg [.sl (.ints Or6x5), .sl (.rows Dr6x5)] : D) = .agg [.sl (.ints O'), .sl (.rows D')]))))))))))))
theorem s_l1Cur_fieldOf_vc (u : Value) (code : List Nat) (c : Cur) (most : Int) (hb : ∀ x9 ∈ code, x9 < 256) (hc : okC c 2000000) (hm : 0 ≤ most ∧ most ≤ 7)  : s_l1Cur_fieldOf_P u code c most := by
  unfold s_l1Cur_fieldOf_P
  refine ⟨?_, ?_, ?_⟩
  ·refine s_l1Cur_pick_pk code c 3 ?_ ?_
   ·exact hb
   ·exact okC_le (by repeat (first | assumption | apply ok_cond | apply ok_pick | apply ok_next | exact okC0)) (by omega)
  ·intro b1
   try simp only [nrmT] at b1
   refine ⟨?_, ?_⟩
   ·refine s_l1Cur_rawField_pke code (pickC code c 3) most ?_ ?_ ?_
    ·exact hb
    ·exact okC_le (by repeat (first | assumption | apply ok_cond | apply ok_pick | apply ok_next | exact okC0)) (by omega)
    ·omega
   ·intro Or3 Dr3 cfr3 hQ9
    obtain ⟨f1r3, f2r3⟩ := hQ9
    refine ⟨rfl, rfl, rfl, ?_, ?_⟩
    ·refine s_l1Cur_spoilt2_pkv code cfr3 Or3 Dr3 ?_ ?_ ?_
     ·exact hb
     ·exact okC_le (by repeat (first | assumption | apply ok_cond | apply ok_pick | apply ok_next | exact okC0)) (by omega)
     ·assumption
    ·intro Or3x4 Dr3x4 chr3x4 hQ9
     obtain ⟨f1r3x4, f2r3x4⟩ := hQ9
     refine ⟨rfl, ?_⟩
     ·refine ⟨Or3x4, Dr3x4, chr3x4, ?_⟩
      refine ⟨?_, rfl, rfl, rfl, rfl, rfl, rfl, rfl⟩
      ·refine ⟨?_, ?_⟩
       ·exact okC_le (by repeat (first | assumption | apply ok_cond | apply ok_pick | apply ok_next | exact okC0)) (by omega)
       ·assumption
  ·intro b2
   try simp only [nrmT] at b2
   refine ⟨?_, ?_⟩
   ·intro b3
    try simp only [nrmT] at b3
    refine ⟨?_, ?_⟩
    ·refine s_l1Cur_lineField_pke code (pickC code c 3) most ?_ ?_ ?_
     ·exact hb
     ·exact okC_le (by repeat (first | assumption | apply ok_cond | apply ok_pick | apply ok_next | exact okC0)) (by omega)
     ·omega
    ·intro Or5 Dr5 cgr5 hQ9
     obtain ⟨f1r5, f2r5⟩ := hQ9
     refine ⟨rfl, rfl, rfl, ?_, ?_⟩
     ·refine s_l1Cur_spoilt2_pkv code cgr5 Or5 Dr5 ?_ ?_ ?_
      ·exact hb
      ·exact okC_le (by repeat (first | assumption | apply ok_cond | apply ok_pick | apply ok_next | exact okC0)) (by omega)
      ·assumption
     ·intro Or5x4 Dr5x4 chr5x4 hQ9
      obtain ⟨f1r5x4, f2r5x4⟩ := hQ9
      refine ⟨rfl, ?_⟩
      ·refine ⟨Or5x4, Dr5x4, chr5x4, ?_⟩
       refine ⟨?_, rfl, rfl, rfl, rfl, rfl, rfl, rfl⟩
       ·refine ⟨?_, ?_⟩
        ·exact okC_le (by repeat (first | assumption | apply ok_cond | apply ok_pick | apply ok_next | exact okC0)) (by omega)
        ·assumption
   ·intro b4
    try simp only [nrmT] at b4
    refine ⟨?_, ?_⟩
    ·refine s_l1Cur_rawField_pke code (pickC code c 3) most ?_ ?_ ?_
     ·exact hb
     ·exact okC_le (by repeat (first | assumption | apply ok_cond | apply ok_pick | apply ok_next | exact okC0)) (by omega)
     ·omega
    ·intro Or6 Dr6 cfr6 hQ9
     obtain ⟨f1r6, f2r6⟩ := hQ9
     refine ⟨rfl, rfl, rfl, ?_, ?_⟩
     ·refine s_l2Close_pe Or6 Dr6 ?_
      ·assumption
     ·intro Or6x4 Dr6x4 hQ9
      have f2r6x4 := hQ9
      refine ⟨rfl, rfl, rfl, ?_, ?_⟩
      ·refine s_l1Cur_spoilt2_pkv code cfr6 Or6x4 Dr6x4 ?_ ?_ ?_
       ·exact hb
       ·exact okC_le (by repeat (first | assumption | apply ok_cond | apply ok_pick | apply ok_next | exact okC0)) (by omega)
       ·assumption
      ·intro Or6x5 Dr6x5 chr6x5 hQ9
       obtain ⟨f1r6x5, f2r6x5⟩ := hQ9
       refine ⟨rfl, ?_⟩
       ·refine ⟨Or6x5, Dr6x5, chr6x5, ?_⟩
        refine ⟨?_, rfl, rfl, rfl, rfl, rfl, rfl, rfl⟩
        ·refine ⟨?_, ?_⟩
         ·exact okC_le (by repeat (first | assumption | apply ok_cond | apply ok_pick | apply ok_next | exact okC0)) (by omega)
         ·assumption
theorem s_l1Cur_fieldOf_pke (code : List Nat) (c : Cur) (most : Int) (hb : ∀ x9 ∈ code, x9 < 256) (hc : okC c 2000000) (hm : 0 ≤ most ∧ most ≤ 7) : PKE Try.prog 220 98 (.sl (.bytes code)) [.int .i64 c.pos, .int .u64 c.seed] [.int .i64 most] (s_l1Cur_fieldOf_X code c most) :=
  pke_by (Q := fun u => s_l1Cur_fieldOf_P u code c most) (by kernel_rfl) Try.func220 @Try.call220 (by kernel_rfl) s_l1Cur_fieldOf_C (fun u => s_l1Cur_fieldOf_A u code c most) (by kernel_rfl) (fun u => s_l1Cur_fieldOf_vc u code c most hb hc hm) (fun u => by kernel_rfl)
abbrev s_l1Cur_field_Q (code : List Nat) (c : Cur) (O : List Int) (D : List (List Int)) (cl : Cur) : Prop := (okC cl 8000000) ∧ (O.length ≤ 8)
def s_l1Cur_field_X (code : List Nat) (c : Cur) : Ex := ex3 1 (fun (O : List Int) (D : List (List Int)) (cl : Cur) => s_l1Cur_field_Q code c O D cl) (fun (O : List Int) (D : List (List Int)) (cl : Cur) => [.int .i64 cl.pos, .int .u64 cl.seed]) (fun (O : List Int) (D : List (List Int)) (cl : Cur) => .one (.d (.agg [.sl (.ints O), .sl (.rows D)])))
def s_l1Cur_field_C (f : FuncId) (ds : List D) : Orc := .no
def s_l1Cur_field_A (u : Value) (code : List Nat) (c : Cur) : Ann := .two (.none) (.two (.exr (.ex [] 1 (s_l1Cur_fieldOf_X code c 7) (fun g => (fun (Or1 : List Int) (Dr1 : List (List Int)) (ckr1 : Cur) => .ms [] []) (g.1) (g.2.1) (g.2.2)))) (.none))
def s_l1Cur_field_P (u : Value) (code : List Nat) (c : Cur) : Prop :=
  (PKE Try.prog 220 98 (.sl (.bytes code)) [.int .i64 c.pos, .int .u64 c.seed] [.int .i64 7] (s_l1Cur_fieldOf_X code c 7)) ∧ (∀ Or1 : List Int, ∀ Dr1 : List (List Int), ∀ ckr1 : Cur, s_l1Cur_fieldOf_Q code c 7 Or1 Dr1 ckr1 → ((true = true) ∧ (∃ O' : List Int, ∃ D' : List (List Int), ∃ cl' : Cur, (s_l1Cur_field_Q code c O' D' cl') ∧ (true = true) ∧ ((.lit u (.sl (.bytes code)) : D) = .lit u (.sl (.bytes code))) ∧ (ckr1.pos = cl'.pos) ∧ (ckr1.seed = cl'.seed) ∧ ((.agg [.sl (.ints Or1), .sl (.rows Dr1)] : D) = .agg [.sl (.ints O'), .sl (.rows D')]))))
theorem s_l1Cur_field_vc (u : Value) (code : List Nat) (c : Cur) (hb : ∀ x9 ∈ code, x9 < 256) (hc : okC c 2000000)  : s_l1Cur_field_P u code c := by
  unfold s_l1Cur_field_P
  refine ⟨?_, ?_⟩
  ·refine s_l1Cur_fieldOf_pke code c 7 ?_ ?_ ?_
   ·exact hb
   ·exact okC_le (by repeat (first | assumption | apply ok_cond | apply ok_pick | apply ok_next | exact okC0)) (by omega)
   ·omega
  ·intro Or1 Dr1 ckr1 hQ9
   obtain ⟨f1r1, f2r1⟩ := hQ9
   refine ⟨rfl, ?_⟩
   ·refine ⟨Or1, Dr1, ckr1, ?_⟩
    refine ⟨?_, rfl, rfl, rfl, rfl, rfl⟩
    ·refine ⟨?_, ?_⟩
     ·exact okC_le (by repeat (first | assumption | apply ok_cond | apply ok_pick | apply ok_next | exact okC0)) (by omega)
     ·assumption
theorem s_l1Cur_field_pke (code : List Nat) (c : Cur) (hb : ∀ x9 ∈ code, x9 < 256) (hc : okC c 2000000) : PKE Try.prog 154 98 (.sl (.bytes code)) [.int .i64 c.pos, .int .u64 c.seed] [] (s_l1Cur_field_X code c) :=
  pke_by (Q := fun u => s_l1Cur_field_P u code c) (by kernel_rfl) Try.func154 @Try.call154 (by kernel_rfl) s_l1Cur_field_C (fun u => s_l1Cur_field_A u code c) (by kernel_rfl) (fun u => s_l1Cur_field_vc u code c hb hc) (fun u => by kernel_rfl)
abbrev s_l1Cur_count_JR1 (u : Value) (code : List Nat) (c : Cur) (Open : List Int) (Dist : List (List Int)) (gd : Bool) (c1 : Cur) : Prop := (gd = false → 0 < Open.length) ∧ (okC c1 8000010)
abbrev s_l1Cur_count_JR1003 (u : Value) (code : List Nat) (c : Cur) (Open : List Int) (Dist : List (List Int)) (c5 : Cur) : Prop := (0 < Open.length) ∧ (okC c5 8000010)
abbrev s_l1Cur_count_Q (code : List Nat) (c : Cur) (Open : List Int) (Dist : List (List Int)) (kk : Int) (cq : Cur) : Prop := (okC cq 8000100)
def s_l1Cur_count_X (code : List Nat) (c : Cur) (Open : List Int) (Dist : List (List Int)) : Ex := ex2 1 (fun (kk : Int) (cq : Cur) => s_l1Cur_count_Q code c Open Dist kk cq) (fun (kk : Int) (cq : Cur) => [.int .i64 cq.pos, .int .u64 cq.seed]) (fun (kk : Int) (cq : Cur) => .one (.d (.int .i64 kk)))
def s_l1Cur_count_C (f : FuncId) (ds : List D) : Orc := .no
def s_l1Cur_count_A (u : Value) (code : List Nat) (c : Cur) (Open : List Int) (Dist : List (List Int)) : Ann := .two (.none) (.cut (.cut (.mark [] [(6, .cell [.int .i64 ((pickC code c 20).pos), .int .u64 ((pickC code c 20).seed)] (.one (.d (.bool (pickV code c 20 == 0)))))]) (cut2 (fun (gd : Bool) (c1 : Cur) => s_l1Cur_count_JR1 u code c Open Dist gd c1) (fun (gd : Bool) (c1 : Cur) => [(0, .ptr 0 0), (3, .ptr 3 0), (12, .d true (.bool gd))]) (fun (gd : Bool) (c1 : Cur) => [(0, .box 98 [.d false (.lit u (.sl (.bytes code))), .d true (.int .i64 c1.pos), .d true (.int .u64 c1.seed)]), (3, .box 39 [.d false (.sl (.ints Open)), .d false (.sl (.rows Dist))])])) (fun g => (fun (gd : Bool) (c1 : Cur) => .two (.two (.mark [] [(6, .cell [.int .i64 ((pickC code c1 (([0, (-1), 8, ((Open.length : Int) + 1)]).length : Int)).pos), .int .u64 ((pickC code c1 (([0, (-1), 8, ((Open.length : Int) + 1)]).length : Int)).seed)] (.one (.d (.int .i64 (([0, (-1), 8, ((Open.length : Int) + 1)]).getD (pickV code c1 (([0, (-1), 8, ((Open.length : Int) + 1)]).length : Int)).toNat 0)))))]) (.none)) (.none)) (g.1) (g.2))) (cut1 (fun (c5 : Cur) => s_l1Cur_count_JR1003 u code c Open Dist c5) (fun (c5 : Cur) => [(0, .ptr 0 0), (3, .ptr 3 0)]) (fun (c5 : Cur) => [(0, .box 98 [.d false (.lit u (.sl (.bytes code))), .d true (.int .i64 c5.pos), .d true (.int .u64 c5.seed)]), (3, .box 39 [.d false (.sl (.ints Open)), .d false (.sl (.rows Dist))])])) (fun g => (fun (c5 : Cur) => .two (.mark [] [(4, .cell [.int .i64 ((pickC code c5 (Open.length : Int)).pos), .int .u64 ((pickC code c5 (Open.length : Int)).seed)] (.one (.d (.int .i64 (pickV code c5 (Open.length : Int))))))]) (.none)) g))
def s_l1Cur_count_P (u : Value) (code : List Nat) (c : Cur) (Open : List Int) (Dist : List (List Int)) : Prop :=
  (((((!((Open.length : Int) == 0)) = true → (!((Open.length : Int) == 0)) = true) ∧ ((!((Open.length : Int) == 0)) = true → PK Try.prog 108 98 (.sl (.bytes code)) [.int .i64 c.pos, .int .u64 c.seed] [.int .i64 ((pickC code c 20).pos), .int .u64 ((pickC code c 20).seed)] [.int .i64 20] (.one (.d (.bool (pickV code c 20 == 0))))) ∧ (true = true) ∧ ((((Open.length : Int) == 0) = true → true = true)) ∧ ((((Open.length : Int) == 0) = false → (!((Open.length : Int) == 0)) = true)) ∧ (∃ gd' : Bool, ∃ c1' : Cur, (s_l1Cur_count_JR1 u code c Open Dist gd' c1') ∧ ((cond ((Open.length : Int) == 0) true (pickV code c 20 == 0)) = gd') ∧ ((.lit u (.sl (.bytes code)) : D) = .lit u (.sl (.bytes code))) ∧ ((cond (!((Open.length : Int) == 0)) ((pickC code c 20).pos) c.pos) = c1'.pos) ∧ ((cond (!((Open.length : Int) == 0)) ((pickC code c 20).seed) c.seed) = c1'.seed) ∧ (Open = Open) ∧ (Dist = Dist))) ∧ (∀ gd : Bool, ∀ c1 : Cur, (s_l1Cur_count_JR1 u code c Open Dist gd c1) → ((gd = true → (-9223372036854775808 ≤ ((Open.length : Int) + 1) ∧ ((Open.length : Int) + 1) ≤ 9223372036854775807) ∧ ((4 : Nat) = 4) ∧ (PK Try.prog 106 98 (.sl (.bytes code)) [.int .i64 c1.pos, .int .u64 c1.seed] [.int .i64 ((pickC code c1 (([0, (-1), 8, ((Open.length : Int) + 1)]).length : Int)).pos), .int .u64 ((pickC code c1 (([0, (-1), 8, ((Open.length : Int) + 1)]).length : Int)).seed)] [.sl (.ints ([0, (-1), 8, ((Open.length : Int) + 1)]))] (.one (.d (.int .i64 (([0, (-1), 8, ((Open.length : Int) + 1)]).getD (pickV code c1 (([0, (-1), 8, ((Open.length : Int) + 1)]).length : Int)).toNat 0))))) ∧ (∃ kk' : Int, ∃ cq' : Cur, (s_l1Cur_count_Q code c Open Dist kk' cq') ∧ (true = true) ∧ ((.lit u (.sl (.bytes code)) : D) = .lit u (.sl (.bytes code))) ∧ ((pickC code c1 (([0, (-1), 8, ((Open.length : Int) + 1)]).length : Int)).pos = cq'.pos) ∧ ((pickC code c1 (([0, (-1), 8, ((Open.length : Int) + 1)]).length : Int)).seed = cq'.seed) ∧ ((([0, (-1), 8, ((Open.length : Int) + 1)]).getD (pickV code c1 (([0, (-1), 8, ((Open.length : Int) + 1)]).length : Int)).toNat 0) = kk'))) ∧ (gd = false → (∃ c5' : Cur, (s_l1Cur_count_JR1003 u code c Open Dist c5') ∧ ((.lit u (.sl (.bytes code)) : D) = .lit u (.sl (.bytes code))) ∧ (c1.pos = c5'.pos) ∧ (c1.seed = c5'.seed) ∧ (Open = Open) ∧ (Dist = Dist)))))) ∧ (∀ c5 : Cur, (s_l1Cur_count_JR1003 u code c Open Dist c5) → (PK Try.prog 107 98 (.sl (.bytes code)) [.int .i64 c5.pos, .int .u64 c5.seed] [.int .i64 ((pickC code c5 (Open.length : Int)).pos), .int .u64 ((pickC code c5 (Open.length : Int)).seed)] [.int .i64 (Open.length : Int)] (.one (.d (.int .i64 (pickV code c5 (Open.length : Int)))))) ∧ (-9223372036854775808 ≤ (1 + (pickV code c5 (Open.length : Int))) ∧ (1 + (pickV code c5 (Open.length : Int))) ≤ 9223372036854775807) ∧ (∃ kk' : Int, ∃ cq' : Cur, (s_l1Cur_count_Q code c Open Dist kk' cq') ∧ (true = true) ∧ ((.lit u (.sl (.bytes code)) : D) = .lit u (.sl (.bytes code))) ∧ ((pickC code c5 (Open.length : Int)).pos = cq'.pos) ∧ ((pickC code c5 (Open.length : Int)).seed = cq'.seed) ∧ ((1 + (pickV code c5 (Open.length : Int))) = kk'))))
theorem s_l1Cur_count_vc (u : Value) (code : List Nat) (c : Cur) (Open : List Int) (Dist : List (List Int)) (hb : ∀ x9 ∈ code, x9 < 256) (hc : okC c 8000000) (hl : Open.length ≤ 8)  : s_l1Cur_count_P u code c Open Dist := by
  unfold s_l1Cur_count_P
  refine ⟨?_, ?_⟩
  ·refine ⟨?_, ?_⟩
   ·refine ⟨id, ?_, rfl, fun _ => rfl, ?_, ?_⟩
    ·intro hg
     refine s_l1Cur_one_pk code c 20 ?_ ?_
     ·exact hb
     ·exact okC_le (by repeat (first | assumption | apply ok_cond | apply ok_pick | apply ok_next | exact okC0)) (by omega)
    ·(simp_all; done)
    ·refine ⟨(cond ((Open.length : Int) == 0) true (pickV code c 20 == 0)), (cond (!((Open.length : Int) == 0)) (pickC code c 20) c), ?_⟩
     refine ⟨?_, rfl, rfl, cond_cur_pos _ _ _, cond_cur_seed _ _ _, rfl, rfl⟩
     ·refine ⟨?_, ?_⟩
      ·intro hq
       rcases Nat.eq_zero_or_pos Open.length with h | h
       · rw [h] at hq; simp at hq
       · exact h
      ·exact okC_le (by repeat (first | assumption | apply ok_cond | apply ok_pick | apply ok_next | exact okC0)) (by omega)
   ·intro gd c1 hJ
    obtain ⟨g1, g2⟩ := hJ
    refine ⟨?_, ?_⟩
    ·intro b1
     try simp only [nrmT] at b1
     refine ⟨?_, rfl, ?_, ?_⟩
     ·omega
     ·refine s_l1Cur_among_pk code c1 ([0, (-1), 8, ((Open.length : Int) + 1)]) ?_ ?_ ?_
      ·exact hb
      ·exact okC_le (by repeat (first | assumption | apply ok_cond | apply ok_pick | apply ok_next | exact okC0)) (by omega)
      ·simp
     ·refine ⟨(([0, (-1), 8, ((Open.length : Int) + 1)]).getD (pickV code c1 (([0, (-1), 8, ((Open.length : Int) + 1)]).length : Int)).toNat 0), (pickC code c1 (([0, (-1), 8, ((Open.length : Int) + 1)]).length : Int)), ?_⟩
      refine ⟨?_, rfl, rfl, rfl, rfl, rfl⟩
      ·unfold s_l1Cur_count_Q
       exact okC_le (by repeat (first | assumption | apply ok_cond | apply ok_pick | apply ok_next | exact okC0)) (by omega)
    ·intro b2
     try simp only [nrmT] at b2
     refine ⟨c1, ?_⟩
     refine ⟨?_, rfl, rfl, rfl, rfl, rfl⟩
     ·refine ⟨?_, ?_⟩
      ·(simp_all; done)
      ·exact okC_le (by repeat (first | assumption | apply ok_cond | apply ok_pick | apply ok_next | exact okC0)) (by omega)
  ·intro c5 hJ
   obtain ⟨g3, g4⟩ := hJ
   refine ⟨?_, ?_, ?_⟩
   ·refine s_l1Cur_pick_pk code c5 (Open.length : Int) ?_ ?_
    ·exact hb
    ·exact okC_le (by repeat (first | assumption | apply ok_cond | apply ok_pick | apply ok_next | exact okC0)) (by omega)
   ·have v := pickV_in code c5 (n := (Open.length : Int)) (by omega)
    omega
   ·refine ⟨(1 + (pickV code c5 (Open.length : Int))), (pickC code c5 (Open.length : Int)), ?_⟩
    refine ⟨?_, rfl, rfl, rfl, rfl, rfl⟩
    ·unfold s_l1Cur_count_Q
     exact okC_le (by repeat (first | assumption | apply ok_cond | apply ok_pick | apply ok_next | exact okC0)) (by omega)
theorem s_l1Cur_count_pke (code : List Nat) (c : Cur) (Open : List Int) (Dist : List (List Int)) (hb : ∀ x9 ∈ code, x9 < 256) (hc : okC c 8000000) (hl : Open.length ≤ 8) : PKE Try.prog 155 98 (.sl (.bytes code)) [.int .i64 c.pos, .int .u64 c.seed] [.agg [.sl (.ints Open), .sl (.rows Dist)]] (s_l1Cur_count_X code c Open Dist) :=
  pke_by (Q := fun u => s_l1Cur_count_P u code c Open Dist) (by kernel_rfl) Try.func155 @Try.call155 (by kernel_rfl) s_l1Cur_count_C (fun u => s_l1Cur_count_A u code c Open Dist) (by kernel_rfl) (fun u => s_l1Cur_count_vc u code c Open Dist hb hc hl) (fun u => by kernel_rfl)
abbrev s_DrawPriceBound_JR2 (code : List Nat) (c1 : Cur) (Oz : List Int) (Dz : List (List Int)) : Prop := (okC c1 8000000) ∧ (Oz.length ≤ 8)
abbrev s_DrawPriceBound_JR3 (code : List Nat) (c1 : Cur) (Oz : List Int) (Dz : List (List Int)) (ka : Int) (c2 : Cur) : Prop := (okC c2 8000100)
abbrev s_DrawPriceBound_Q (code : List Nat) (O : List Int) (Ds : List (List Int)) (kk : Int) (pp : Int) : Prop := True
def s_DrawPriceBound_X (code : List Nat) : Ex := ex4 0 (fun (O : List Int) (Ds : List (List Int)) (kk : Int) (pp : Int) => s_DrawPriceBound_Q code O Ds kk pp) (fun (O : List Int) (Ds : List (List Int)) (kk : Int) (pp : Int) => []) (fun (O : List Int) (Ds : List (List Int)) (kk : Int) (pp : Int) => .tup [.d (.agg [.sl (.ints O), .sl (.rows Ds)]), .d (.int .i64 kk), .d (.int .i64 pp)])
def s_DrawPriceBound_C (f : FuncId) (ds : List D) : Orc := .no
def s_DrawPriceBound_A (code : List Nat) : Ann := .two (.none) (.two (.none) (.cut (.exr (.ex [] 1 (s_l1Cur_field_X code cur0) (fun g => (fun (Or2 : List Int) (Dr2 : List (List Int)) (clr2 : Cur) => .ms [] []) (g.1) (g.2.1) (g.2.2)))) (cut3 (fun (c1 : Cur) (Oz : List Int) (Dz : List (List Int)) => s_DrawPriceBound_JR2 code c1 Oz Dz) (fun (c1 : Cur) (Oz : List Int) (Dz : List (List Int)) => [(2, .ptr 2 0), (5, .ptr 10 0), (6, .ptr 6 0)]) (fun (c1 : Cur) (Oz : List Int) (Dz : List (List Int)) => [(2, .box 39 [.d true (.nil), .d true (.nil)]), (10, .box 98 [.d false (.sl (.bytes code)), .d true (.int .i64 c1.pos), .d true (.int .u64 c1.seed)]), (6, .box 39 [.d true (.sl (.ints Oz)), .d true (.sl (.rows Dz))])])) (fun g => (fun (c1 : Cur) (Oz : List Int) (Dz : List (List Int)) => .cut (.exr (.ex [] 2 (s_l1Cur_count_X code c1 Oz Dz) (fun g => (fun (kkr3 : Int) (cqr3 : Cur) => .ms [] []) (g.1) (g.2)))) (cut2 (fun (ka : Int) (c2 : Cur) => s_DrawPriceBound_JR3 code c1 Oz Dz ka c2) (fun (ka : Int) (c2 : Cur) => [(2, .ptr 2 0), (5, .ptr 10 0), (6, .ptr 6 0), (7, .d true (.int .i64 ka))]) (fun (ka : Int) (c2 : Cur) => [(2, .box 39 [.d true (.nil), .d true (.nil)]), (10, .box 98 [.d false (.sl (.bytes code)), .d true (.int .i64 c2.pos), .d true (.int .u64 c2.seed)]), (6, .box 39 [.d true (.sl (.ints Oz)), .d true (.sl (.rows Dz))])])) (fun g => (fun (ka : Int) (c2 : Cur) => .two (.reg [(4, .cell [.int .i64 ((pickC code c2 (([0, 1, 2, 3, 5, 8, 13, 999, 1000, (-1)]).length : Int)).pos), .int .u64 ((pickC code c2 (([0, 1, 2, 3, 5, 8, 13, 999, 1000, (-1)]).length : Int)).seed)] (.one (.d (.int .i64 (([0, 1, 2, 3, 5, 8, 13, 999, 1000, (-1)]).getD (pickV code c2 (([0, 1, 2, 3, 5, 8, 13, 999, 1000, (-1)]).length : Int)).toNat 0)))))]) (.none)) (g.1) (g.2))) (g.1) (g.2.1) (g.2.2))))
def s_DrawPriceBound_P (code : List Nat) : Prop :=
  (((PKE Try.prog 154 98 (.sl (.bytes code)) [.int .i64 0, .int .u64 0] [] (s_l1Cur_field_X code cur0)) ∧ (∀ Or2 : List Int, ∀ Dr2 : List (List Int), ∀ clr2 : Cur, s_l1Cur_field_Q code cur0 Or2 Dr2 clr2 → ((true = true) ∧ (∃ c1' : Cur, ∃ Oz' : List Int, ∃ Dz' : List (List Int), (s_DrawPriceBound_JR2 code c1' Oz' Dz') ∧ (code = code) ∧ (clr2.pos = c1'.pos) ∧ (clr2.seed = c1'.seed) ∧ (Or2 = Oz') ∧ (Dr2 = Dz'))))) ∧ (∀ c1 : Cur, ∀ Oz : List Int, ∀ Dz : List (List Int), (s_DrawPriceBound_JR2 code c1 Oz Dz) → (((PKE Try.prog 155 98 (.sl (.bytes code)) [.int .i64 c1.pos, .int .u64 c1.seed] [.agg [.sl (.ints Oz), .sl (.rows Dz)]] (s_l1Cur_count_X code c1 Oz Dz)) ∧ (∀ kkr3 : Int, ∀ cqr3 : Cur, s_l1Cur_count_Q code c1 Oz Dz kkr3 cqr3 → ((true = true) ∧ (∃ ka' : Int, ∃ c2' : Cur, (s_DrawPriceBound_JR3 code c1 Oz Dz ka' c2') ∧ (kkr3 = ka') ∧ (code = code) ∧ (cqr3.pos = c2'.pos) ∧ (cqr3.seed = c2'.seed) ∧ (Oz = Oz) ∧ (Dz = Dz))))) ∧ (∀ ka : Int, ∀ c2 : Cur, (s_DrawPriceBound_JR3 code c1 Oz Dz ka c2) → (true = true) ∧ ((10 : Nat) = 10) ∧ (PK Try.prog 106 98 (.sl (.bytes code)) [.int .i64 c2.pos, .int .u64 c2.seed] [.int .i64 ((pickC code c2 (([0, 1, 2, 3, 5, 8, 13, 999, 1000, (-1)]).length : Int)).pos), .int .u64 ((pickC code c2 (([0, 1, 2, 3, 5, 8, 13, 999, 1000, (-1)]).length : Int)).seed)] [.sl (.ints ([0, 1, 2, 3, 5, 8, 13, 999, 1000, (-1)]))] (.one (.d (.int .i64 (([0, 1, 2, 3, 5, 8, 13, 999, 1000, (-1)]).getD (pickV code c2 (([0, 1, 2, 3, 5, 8, 13, 999, 1000, (-1)]).length : Int)).toNat 0))))) ∧ (∃ O' : List Int, ∃ Ds' : List (List Int), ∃ kk' : Int, ∃ pp' : Int, (s_DrawPriceBound_Q code O' Ds' kk' pp') ∧ ((.agg [.sl (.ints Oz), .sl (.rows Dz)] : D) = .agg [.sl (.ints O'), .sl (.rows Ds')]) ∧ (ka = kk') ∧ ((([0, 1, 2, 3, 5, 8, 13, 999, 1000, (-1)]).getD (pickV code c2 (([0, 1, 2, 3, 5, 8, 13, 999, 1000, (-1)]).length : Int)).toNat 0) = pp'))))))
theorem s_DrawPriceBound_vc (code : List Nat) (hb : ∀ x9 ∈ code, x9 < 256) (w_code : (code.length : Int) ≤ 9223372036854775807) : s_DrawPriceBound_P code := by
  unfold s_DrawPriceBound_P
  refine ⟨?_, ?_⟩
  ·refine ⟨?_, ?_⟩
   ·refine s_l1Cur_field_pke code cur0 ?_ ?_
    ·exact hb
    ·exact okC_le (by repeat (first | assumption | apply ok_cond | apply ok_pick | apply ok_next | exact okC0)) (by omega)
   ·intro Or2 Dr2 clr2 hQ9
    obtain ⟨f1r2, f2r2⟩ := hQ9
    refine ⟨rfl, ?_⟩
    ·refine ⟨clr2, Or2, Dr2, ?_⟩
     refine ⟨?_, rfl, rfl, rfl, rfl, rfl⟩
     ·refine ⟨?_, ?_⟩
      ·exact okC_le (by repeat (first | assumption | apply ok_cond | apply ok_pick | apply ok_next | exact okC0)) (by omega)
      ·assumption
  ·intro c1 Oz Dz hJ
   obtain ⟨q1, q0⟩ := hJ
   refine ⟨?_, ?_⟩
   ·refine ⟨?_, ?_⟩
    ·refine s_l1Cur_count_pke code c1 Oz Dz ?_ ?_ ?_
     ·exact hb
     ·exact okC_le (by repeat (first | assumption | apply ok_cond | apply ok_pick | apply ok_next | exact okC0)) (by omega)
     ·assumption
    ·intro kkr3 cqr3 hQ9
     have f1r3 := hQ9
     refine ⟨rfl, ?_⟩
     ·refine ⟨kkr3, cqr3, ?_⟩
      refine ⟨?_, rfl, rfl, rfl, rfl, rfl, rfl⟩
      ·unfold s_DrawPriceBound_JR3
       exact okC_le (by repeat (first | assumption | apply ok_cond | apply ok_pick | apply ok_next | exact okC0)) (by omega)
   ·intro ka c2 hJ
    have q2 := hJ
    refine ⟨rfl, rfl, ?_, ?_⟩
    ·refine s_l1Cur_among_pk code c2 ([0, 1, 2, 3, 5, 8, 13, 999, 1000, (-1)]) ?_ ?_ ?_
     ·exact hb
     ·exact okC_le (by repeat (first | assumption | apply ok_cond | apply ok_pick | apply ok_next | exact okC0)) (by omega)
     ·simp
    ·refine ⟨Oz, Dz, ka, (([0, 1, 2, 3, 5, 8, 13, 999, 1000, (-1)]).getD (pickV code c2 (([0, 1, 2, 3, 5, 8, 13, 999, 1000, (-1)]).length : Int)).toNat 0), ?_⟩
     refine ⟨?_, rfl, rfl, rfl⟩
     ·trivial
theorem s_DrawPriceBound_pe (code : List Nat) (hb : ∀ x9 ∈ code, x9 < 256) : PE Try.prog 61 [.sl (.bytes code)] (s_DrawPriceBound_X code) :=
  pe_wf @Try.call61 fun hw => pe_by (by kernel_rfl) Try.func61 @Try.call61 (by kernel_rfl) s_DrawPriceBound_C (s_DrawPriceBound_A code) (by kernel_rfl) (s_DrawPriceBound_vc code hb hw.1) (by kernel_rfl)
theorem lenAt_le {D : List (List Int)} {s : List Int} {a : Int} (ha : a ∈ s) (j : Nat) : lenAt D s j ≤ (D.getD j []).getD a.toNat 0 := by
  obtain ⟨i, hi, e⟩ := List.mem_iff_getElem.1 ha
  have h := siteTo_le (D.getD j []) s s.length i hi
  rw [getD_get hi, e] at h
  exact h
theorem lenAt_at {D : List (List Int)} {s : List Int} (hp : 0 < s.length) (j : Nat) : ∃ a, a ∈ s ∧ lenAt D s j = (D.getD j []).getD a.toNat 0 :=
  ⟨_, siteTo_mem hp s.length (Nat.le_refl _), rfl⟩
theorem lenAt_sub {D : List (List Int)} {s t : List Int} (ht : 0 < t.length) (h : ∀ x ∈ t, x ∈ s) (j : Nat) : lenAt D s j ≤ lenAt D t j := by
  obtain ⟨a, h1, h2⟩ := lenAt_at (D := D) ht j
  rw [h2]
  exact lenAt_le (h a h1) j
theorem smTo_mono {xs ys : List Int} : ∀ k, (∀ j, j < k → xs.getD j 0 ≤ ys.getD j 0) → smTo xs k ≤ smTo ys k
  | 0, _ => Int.le_refl _
  | k + 1, h => by
    have h1 := smTo_mono k fun j hj => h j (by omega)
    have h2 := h k (by omega)
    rw [smTo_succ, smTo_succ]; omega
theorem serv_mono {D : List (List Int)} {s t : List Int} (h : ∀ j, j < D.length → lenAt D s j ≤ lenAt D t j) : servOf D s ≤ servOf D t :=
  smTo_mono _ fun j hj => by rw [lensL_getD _ _ _ _ hj, lensL_getD _ _ _ _ hj]; exact h j hj
theorem asc_lt {l : List Int} (h : Asc l) (i j : Nat) (hij : i < j) (hj : j < l.length) : l.getD i 0 < l.getD j 0 := by
  rw [getD_get hj, getD_get (show i < l.length by omega)]
  exact List.pairwise_iff_getElem.1 h i j (by omega) hj hij
theorem rising_full {s : List Int} {n : Nat} (h : rising s 0 ((n : Int) - 1) = true) (hl : s.length = n) : ∀ i, i < n → s.getD i 0 = (i : Int) := by
  have ha := asc_rising h
  have hlo : ∀ i, i < n → (i : Int) ≤ s.getD i 0 := fun i => by
    induction i with
    | zero => intro hi; exact (rising_mem h _ (getD_mem (d := 0) (by omega))).1
    | succ i ih => intro hi; have h1 := ih (by omega); have h2 := asc_lt ha i (i + 1) (by omega) (by omega); omega
  have hhi : ∀ k i, i + k + 1 = n → s.getD i 0 ≤ (i : Int) := fun k => by
    induction k with
    | zero => intro i hi; have := (rising_mem h _ (getD_mem (d := 0) (show i < s.length by omega))).2; omega
    | succ k ih => intro i hi; have h1 := ih (i + 1) (by omega); have h2 := asc_lt ha i (i + 1) (by omega) (by omega); omega
  intro i hi
  have := hlo i hi
  have := hhi (n - 1 - i) i (by omega)
  omega
theorem full_serv {Open : List Int} {D : List (List Int)} {s t : List Int} (hs : rising s 0 ((Open.length : Int) - 1) = true) (hl : s.length = Open.length) (ht : rising t 0 ((Open.length : Int) - 1) = true) (hp : 0 < t.length) : servOf D s ≤ servOf D t :=
  serv_mono fun j _ => lenAt_sub hp (fun x hx => by
    have h1 := rising_mem ht x hx
    have h2 := rising_full hs hl x.toNat (by omega)
    have h3 := getD_mem (d := 0) (show x.toNat < s.length by omega)
    rw [h2, Int.toNat_of_nonneg h1.1] at h3
    exact h3) j
theorem valsL_get {Open : List Int} {D : List (List Int)} {j : Nat} (h : j < Open.length) : (valsL Open D Open.length).getD j 0 = servOf D (medS Open D ((j : Int) + 1)) := tabTo_get h
theorem bpTo_in (V : List Int) (k : Int) : ∀ m, 0 < m → 0 ≤ bpTo V k m ∧ bpTo V k m < (m : Int)
  | 0, h => by omega
  | m + 1, _ => by
    have hm : m = 0 ∨ 0 ≤ bpTo V k m ∧ bpTo V k m < (m : Int) := by
      rcases Nat.eq_zero_or_pos m with h | h
      · exact .inl h
      · exact .inr (bpTo_in V k m h)
    rw [bpTo_succ]
    unfold bpF
    split
    · omega
    · rcases hm with h | h
      · subst h; have e : bpTo V k 0 = 0 := rfl; rw [e]; omega
      · omega
theorem bpTo_best (V : List Int) (k : Int) : ∀ m p : Nat, p < m → prcd V k (p : Int) ≤ prcd V k (bpTo V k m)
  | m + 1, p, hp => by
    rw [bpTo_succ]
    have h0 := fun h => bpTo_best V k m p h
    unfold bpF
    by_cases e : p = m
    · subst e; split <;> omega
    · have := h0 (by omega)
      split <;> omega
theorem mp_facts {Open : List Int} {D : List (List Int)} {k : Int} (hc : (goodField Open D && inB k 1 (Open.length : Int)) = true) :
    goodField Open D = true ∧ (0 ≤ bpA Open D k ∧ bpA Open D k ≤ 999) ∧ inB (bpA Open D k) 0 999 = true ∧ pbL Open D k (bpA Open D k) = bpB Open D k ∧ bpB Open D k ≤ medV Open D k ∧
    0 < (stepsL Open D).length ∧ pbL Open D k 0 = (stepsL Open D).getD ((stepsL Open D).length - 1) 0 ∧ ∀ price : Int, inB price 0 999 = true → pbL Open D k price ≤ bpB Open D k := by
  obtain ⟨hg, hk⟩ := (Bool.and_eq_true _ _ ▸ hc : _ ∧ _)
  have hk2 := inB_le hk
  obtain ⟨g1, g2, g3⟩ := gf_open hg
  have eA : bpA Open D k = bpTo (valsL Open D Open.length) k 1000 := by unfold bpA; rw [if_pos hc]
  have eB : bpB Open D k = prcd (valsL Open D Open.length) k (bpA Open D k) := by unfold bpB; rw [if_pos hc, eA]
  have hA : 0 ≤ bpA Open D k ∧ bpA Open D k ≤ 999 := by rw [eA]; have := bpTo_in (valsL Open D Open.length) k 1000 (by omega); omega
  have hi : ∀ p : Int, 0 ≤ p ∧ p ≤ 999 → inB p 0 999 = true := fun p hp => by unfold inB; simp; omega
  have ep : ∀ p : Int, inB p 0 999 = true → pbL Open D k p = prcd (valsL Open D Open.length) k p := fun p hp => by unfold pbL; rw [if_pos (by rw [hc, hp]; rfl)]
  have eS : stepsL Open D = valsL Open D Open.length := by unfold stepsL; rw [if_pos hg]
  have hle := fun (p : Int) => mnTo_le (prF (valsL Open D Open.length) p) (valsL Open D Open.length).length (by rw [valsL_len]; omega)
  have hser := fun (j : Nat) (hj : j < Open.length) => valsL_get (D := D) hj
  refine ⟨hg, hA, hi _ hA, by rw [ep _ (hi _ hA), eB], ?_, by rw [eS, valsL_len]; omega, ?_, fun p hp => ?_⟩
  · have h1 := (hle (bpA Open D k)).1 (k.toNat - 1) (by rw [valsL_len]; omega)
    rw [eB]
    unfold prcd medV
    rw [if_pos hc]
    unfold prF at h1 ⊢
    rw [hser _ (by omega), show ((k.toNat - 1 : Nat) : Int) + 1 = k by omega] at h1
    omega
  · rw [ep _ (hi 0 (by omega)), eS, valsL_len]
    unfold prcd
    rw [Int.zero_mul]
    obtain ⟨h1, j, h2, h3⟩ := hle 0
    have h4 := h1 (Open.length - 1) (by rw [valsL_len]; omega)
    rw [h3] at h4 ⊢
    unfold prF at h4 ⊢
    rw [valsL_len] at h2
    rw [hser j h2, hser _ (by omega)] at h4 ⊢
    have hm := fun (j : Nat) (hj : j < Open.length) => two_facts (medS_two (Dist := D) hg (k := (j : Int) + 1) (by omega))
    have hf := full_serv (D := D) (hm (Open.length - 1) (by omega)).2.1 (by have := medS_len (Open := Open) (Dist := D) (k := ((Open.length - 1 : Nat) : Int) + 1) (by omega); omega) (hm j h2).2.1 (hm j h2).2.2
    omega
  · rw [ep p hp, eB, eA]
    have h1 := inB_le hp
    have h2 := bpTo_best (valsL Open D Open.length) k 1000 p.toNat (by omega)
    rw [Int.toNat_of_nonneg h1.1] at h2
    exact h2
abbrev l_FnMedianPrices_JR3 (code : List Nat) (kk : Int) (pp : Int) (Oz : List Int) (Dz : List (List Int)) : Prop := True
def l_FnMedianPrices_C (f : FuncId) (ds : List D) : Orc := bif Nat.beq f 14 then l_rBig_orc ds else bif Nat.beq f 62 then i_PriceBound_orc ds else bif Nat.beq f 63 then s_PriceBound_orc ds else bif Nat.beq f 64 then i_BestPrice_orc ds else bif Nat.beq f 65 then s_BestPrice_orc ds else bif Nat.beq f 59 then i_MedianValue_orc ds else bif Nat.beq f 66 then i_MedianSteps_orc ds else bif Nat.beq f 67 then s_MedianSteps_orc ds else bif Nat.beq f 18 then l_rInts_orc ds else .no
def l_FnMedianPrices_A (code : List Nat) : Ann := .two (.none) (.two (.none) (.cut (.exr (.ex [] 1 (s_DrawPriceBound_X code) (fun g => (fun (Or3 : List Int) (Dsr3 : List (List Int)) (kkr3 : Int) (ppr3 : Int) => .ms [] []) (g.1) (g.2.1) (g.2.2.1) (g.2.2.2)))) (cut4 (fun (kk : Int) (pp : Int) (Oz : List Int) (Dz : List (List Int)) => l_FnMedianPrices_JR3 code kk pp Oz Dz) (fun (kk : Int) (pp : Int) (Oz : List Int) (Dz : List (List Int)) => [(3, .ptr 3 0), (4, .d true (.int .i64 kk)), (5, .d true (.int .i64 pp))]) (fun (kk : Int) (pp : Int) (Oz : List Int) (Dz : List (List Int)) => [(3, .box 39 [.d true (.sl (.ints Oz)), .d true (.sl (.rows Dz))])])) (fun _ => .none)))
def l_FnMedianPrices_e2 (kk : Int) (Oz : List Int) (Dz : List (List Int)) : Bool := (cond ((pbL Oz Dz kk (bpA Oz Dz kk)) == (bpB Oz Dz kk)) (decide ((bpB Oz Dz kk) ≤ (medV Oz Dz kk))) false)
def l_FnMedianPrices_e3 (kk : Int) (Oz : List Int) (Dz : List (List Int)) : Bool := (cond (l_FnMedianPrices_e2 kk Oz Dz) ((pbL Oz Dz kk 0) == ((stepsL Oz Dz).getD (((((stepsL Oz Dz).length) : Int) - 1).toNat) 0)) false)
def l_FnMedianPrices_e5 (kk : Int) (Oz : List Int) (Dz : List (List Int)) : Bool := (cond (!(goodField Oz Dz && inB kk 1 (Oz.length : Int))) true (!((goodField Oz Dz && inB kk 1 (Oz.length : Int)) && inB (bpA Oz Dz kk) 0 999)))
def l_FnMedianPrices_e1 (kk : Int) (Oz : List Int) (Dz : List (List Int)) : Bool := (cond (l_FnMedianPrices_e5 kk Oz Dz) true (!((goodField Oz Dz && inB kk 1 (Oz.length : Int)) && inB 0 0 999)))
def l_FnMedianPrices_e4 (kk : Int) (Oz : List Int) (Dz : List (List Int)) : Bool := (cond (cond (l_FnMedianPrices_e1 kk Oz Dz) true (!(goodField Oz Dz))) true (!(goodField Oz Dz)))
def l_FnMedianPrices_e6 (kk : Int) (Oz : List Int) (Dz : List (List Int)) : Bool := (cond ((bpA Oz Dz kk) != (bpA Oz Dz kk)) true ((bpB Oz Dz kk) != (bpB Oz Dz kk)))
def l_FnMedianPrices_e7 (kk : Int) (pp : Int) (Oz : List Int) (Dz : List (List Int)) : Bool := (cond ((pbL Oz Dz kk pp) != (pbL Oz Dz kk pp)) true (((goodField Oz Dz && inB kk 1 (Oz.length : Int)) && inB pp 0 999) != ((goodField Oz Dz && inB kk 1 (Oz.length : Int)) && inB pp 0 999)))
set_option maxRecDepth 100000 in
def l_FnMedianPrices_P (code : List Nat) : Prop :=
  (PC Try.prog 14 [.sl (.bytes code)] (.one (.d (.bool (decide ((code.length : Int) > 65536)))))) ∧ (((decide ((code.length : Int) > 65536)) = true → ((true = true))) ∧ ((decide ((code.length : Int) > 65536)) = false → (((PE Try.prog 61 [.sl (.bytes code)] (s_DrawPriceBound_X code)) ∧ (∀ Or3 : List Int, ∀ Dsr3 : List (List Int), ∀ kkr3 : Int, ∀ ppr3 : Int, s_DrawPriceBound_Q code Or3 Dsr3 kkr3 ppr3 → ((true = true) ∧ (∃ kk' : Int, ∃ pp' : Int, ∃ Oz' : List Int, ∃ Dz' : List (List Int), (l_FnMedianPrices_JR3 code kk' pp' Oz' Dz') ∧ (kkr3 = kk') ∧ (ppr3 = pp') ∧ (Or3 = Oz') ∧ (Dsr3 = Dz'))))) ∧ (∀ kk : Int, ∀ pp : Int, ∀ Oz : List Int, ∀ Dz : List (List Int), (l_FnMedianPrices_JR3 code kk pp Oz Dz) → (PC Try.prog 62 [.agg [.sl (.ints Oz), .sl (.rows Dz)], .int .i64 kk, .int .i64 pp] (.tup [.d (.int .i64 (pbL Oz Dz kk pp)), .d (.bool ((goodField Oz Dz && inB kk 1 (Oz.length : Int)) && inB pp 0 999))])) ∧ (PC Try.prog 63 [.agg [.sl (.ints Oz), .sl (.rows Dz)], .int .i64 kk, .int .i64 pp] (.tup [.d (.int .i64 (pbL Oz Dz kk pp)), .d (.bool ((goodField Oz Dz && inB kk 1 (Oz.length : Int)) && inB pp 0 999))])) ∧ ((!((pbL Oz Dz kk pp) != (pbL Oz Dz kk pp))) = true → (!((pbL Oz Dz kk pp) != (pbL Oz Dz kk pp))) = true) ∧ ((!((pbL Oz Dz kk pp) != (pbL Oz Dz kk pp))) = true → (!((pbL Oz Dz kk pp) != (pbL Oz Dz kk pp))) = true) ∧ (true = true) ∧ ((((pbL Oz Dz kk pp) != (pbL Oz Dz kk pp)) = true → true = true)) ∧ ((((pbL Oz Dz kk pp) != (pbL Oz Dz kk pp)) = false → (!((pbL Oz Dz kk pp) != (pbL Oz Dz kk pp))) = true)) ∧ (((l_FnMedianPrices_e7 kk pp Oz Dz) = true → ((false = true))) ∧ ((l_FnMedianPrices_e7 kk pp Oz Dz) = false → (PC Try.prog 64 [.agg [.sl (.ints Oz), .sl (.rows Dz)], .int .i64 kk] (.tup [.d (.int .i64 (bpA Oz Dz kk)), .d (.int .i64 (bpB Oz Dz kk)), .d (.bool (goodField Oz Dz && inB kk 1 (Oz.length : Int)))])) ∧ (PC Try.prog 65 [.agg [.sl (.ints Oz), .sl (.rows Dz)], .int .i64 kk] (.tup [.d (.int .i64 (bpA Oz Dz kk)), .d (.int .i64 (bpB Oz Dz kk)), .d (.bool (goodField Oz Dz && inB kk 1 (Oz.length : Int)))])) ∧ ((!((bpA Oz Dz kk) != (bpA Oz Dz kk))) = true → (!((bpA Oz Dz kk) != (bpA Oz Dz kk))) = true) ∧ ((!((bpA Oz Dz kk) != (bpA Oz Dz kk))) = true → (!((bpA Oz Dz kk) != (bpA Oz Dz kk))) = true) ∧ (true = true) ∧ ((((bpA Oz Dz kk) != (bpA Oz Dz kk)) = true → true = true)) ∧ ((((bpA Oz Dz kk) != (bpA Oz Dz kk)) = false → (!((bpA Oz Dz kk) != (bpA Oz Dz kk))) = true)) ∧ ((!(l_FnMedianPrices_e6 kk Oz Dz)) = true → (!(l_FnMedianPrices_e6 kk Oz Dz)) = true) ∧ ((!(l_FnMedianPrices_e6 kk Oz Dz)) = true → (!(l_FnMedianPrices_e6 kk Oz Dz)) = true) ∧ (true = true) ∧ (((l_FnMedianPrices_e6 kk Oz Dz) = true → true = true)) ∧ (((l_FnMedianPrices_e6 kk Oz Dz) = false → (!(l_FnMedianPrices_e6 kk Oz Dz)) = true)) ∧ (((cond (l_FnMedianPrices_e6 kk Oz Dz) true ((goodField Oz Dz && inB kk 1 (Oz.length : Int)) != (goodField Oz Dz && inB kk 1 (Oz.length : Int)))) = true → ((false = true))) ∧ ((cond (l_FnMedianPrices_e6 kk Oz Dz) true ((goodField Oz Dz && inB kk 1 (Oz.length : Int)) != (goodField Oz Dz && inB kk 1 (Oz.length : Int)))) = false → (((!(goodField Oz Dz && inB kk 1 (Oz.length : Int))) = true → (((!((goodField Oz Dz && inB kk 1 (Oz.length : Int)) && inB pp 0 999)) = true))) ∧ ((!(goodField Oz Dz && inB kk 1 (Oz.length : Int))) = false → (PC Try.prog 59 [.agg [.sl (.ints Oz), .sl (.rows Dz)], .int .i64 kk] (.tup [.d (.int .i64 (medV Oz Dz kk)), .d (.bool (goodField Oz Dz && inB kk 1 (Oz.length : Int)))])) ∧ (PC Try.prog 62 [.agg [.sl (.ints Oz), .sl (.rows Dz)], .int .i64 kk, .int .i64 (bpA Oz Dz kk)] (.tup [.d (.int .i64 (pbL Oz Dz kk (bpA Oz Dz kk))), .d (.bool ((goodField Oz Dz && inB kk 1 (Oz.length : Int)) && inB (bpA Oz Dz kk) 0 999))])) ∧ (PC Try.prog 62 [.agg [.sl (.ints Oz), .sl (.rows Dz)], .int .i64 kk, .int .i64 0] (.tup [.d (.int .i64 (pbL Oz Dz kk 0)), .d (.bool ((goodField Oz Dz && inB kk 1 (Oz.length : Int)) && inB 0 0 999))])) ∧ (PC Try.prog 66 [.agg [.sl (.ints Oz), .sl (.rows Dz)]] (.tup [.own 3 (.ints (stepsL Oz Dz)), .d (.bool (goodField Oz Dz))])) ∧ (PC Try.prog 67 [.agg [.sl (.ints Oz), .sl (.rows Dz)]] (.tup [.own 3 (.ints (stepsL Oz Dz)), .d (.bool (goodField Oz Dz))])) ∧ ((!(!(goodField Oz Dz && inB kk 1 (Oz.length : Int)))) = true → (!(!(goodField Oz Dz && inB kk 1 (Oz.length : Int)))) = true) ∧ (true = true) ∧ (((!(goodField Oz Dz && inB kk 1 (Oz.length : Int))) = true → true = true)) ∧ (((!(goodField Oz Dz && inB kk 1 (Oz.length : Int))) = false → (!(!(goodField Oz Dz && inB kk 1 (Oz.length : Int)))) = true)) ∧ ((!(l_FnMedianPrices_e5 kk Oz Dz)) = true → (!(l_FnMedianPrices_e5 kk Oz Dz)) = true) ∧ (true = true) ∧ (((l_FnMedianPrices_e5 kk Oz Dz) = true → true = true)) ∧ (((l_FnMedianPrices_e5 kk Oz Dz) = false → (!(l_FnMedianPrices_e5 kk Oz Dz)) = true)) ∧ ((!(l_FnMedianPrices_e1 kk Oz Dz)) = true → (!(l_FnMedianPrices_e1 kk Oz Dz)) = true) ∧ (true = true) ∧ (((l_FnMedianPrices_e1 kk Oz Dz) = true → true = true)) ∧ (((l_FnMedianPrices_e1 kk Oz Dz) = false → (!(l_FnMedianPrices_e1 kk Oz Dz)) = true)) ∧ ((!(cond (l_FnMedianPrices_e1 kk Oz Dz) true (!(goodField Oz Dz)))) = true → (!(cond (l_FnMedianPrices_e1 kk Oz Dz) true (!(goodField Oz Dz)))) = true) ∧ (true = true) ∧ (((cond (l_FnMedianPrices_e1 kk Oz Dz) true (!(goodField Oz Dz))) = true → true = true)) ∧ (((cond (l_FnMedianPrices_e1 kk Oz Dz) true (!(goodField Oz Dz))) = false → (!(cond (l_FnMedianPrices_e1 kk Oz Dz) true (!(goodField Oz Dz)))) = true)) ∧ ((!(l_FnMedianPrices_e4 kk Oz Dz)) = true → (!(l_FnMedianPrices_e4 kk Oz Dz)) = true) ∧ ((!(l_FnMedianPrices_e4 kk Oz Dz)) = true → (!(l_FnMedianPrices_e4 kk Oz Dz)) = true) ∧ (((!(l_FnMedianPrices_e4 kk Oz Dz)) = true → (stepsL Oz Dz).length = (stepsL Oz Dz).length)) ∧ (((!(l_FnMedianPrices_e4 kk Oz Dz)) = true → (stepsL Oz Dz).length = (stepsL Oz Dz).length)) ∧ ((!(l_FnMedianPrices_e4 kk Oz Dz)) = true → PC Try.prog 18 [.sl (.ints (stepsL Oz Dz)), .sl (.ints (stepsL Oz Dz))] (.one (.d (.bool ((stepsL Oz Dz) == (stepsL Oz Dz)))))) ∧ ((!(l_FnMedianPrices_e4 kk Oz Dz)) = true → (!(l_FnMedianPrices_e4 kk Oz Dz)) = true) ∧ (true = true) ∧ (((l_FnMedianPrices_e4 kk Oz Dz) = true → true = true)) ∧ (((l_FnMedianPrices_e4 kk Oz Dz) = false → (!(l_FnMedianPrices_e4 kk Oz Dz)) = true)) ∧ (((cond (l_FnMedianPrices_e4 kk Oz Dz) true (!((stepsL Oz Dz) == (stepsL Oz Dz)))) = true → ((false = true))) ∧ ((cond (l_FnMedianPrices_e4 kk Oz Dz) true (!((stepsL Oz Dz) == (stepsL Oz Dz)))) = false → (((pbL Oz Dz kk (bpA Oz Dz kk)) == (bpB Oz Dz kk)) = true → ((pbL Oz Dz kk (bpA Oz Dz kk)) == (bpB Oz Dz kk)) = true) ∧ (((pbL Oz Dz kk (bpA Oz Dz kk)) == (bpB Oz Dz kk)) = true → ((pbL Oz Dz kk (bpA Oz Dz kk)) == (bpB Oz Dz kk)) = true) ∧ (true = true) ∧ ((((pbL Oz Dz kk (bpA Oz Dz kk)) == (bpB Oz Dz kk)) = true → ((pbL Oz Dz kk (bpA Oz Dz kk)) == (bpB Oz Dz kk)) = true)) ∧ ((((pbL Oz Dz kk (bpA Oz Dz kk)) == (bpB Oz Dz kk)) = false → true = true)) ∧ ((l_FnMedianPrices_e2 kk Oz Dz) = true → (l_FnMedianPrices_e2 kk Oz Dz) = true) ∧ ((l_FnMedianPrices_e2 kk Oz Dz) = true → (l_FnMedianPrices_e2 kk Oz Dz) = true) ∧ (((l_FnMedianPrices_e2 kk Oz Dz) = true → -9223372036854775808 ≤ ((((stepsL Oz Dz).length) : Int) - 1) ∧ ((((stepsL Oz Dz).length) : Int) - 1) ≤ 9223372036854775807)) ∧ ((l_FnMedianPrices_e2 kk Oz Dz) = true → (l_FnMedianPrices_e2 kk Oz Dz) = true) ∧ ((l_FnMedianPrices_e2 kk Oz Dz) = true → (l_FnMedianPrices_e2 kk Oz Dz) = true) ∧ (((l_FnMedianPrices_e2 kk Oz Dz) = true → (0 : Int) ≤ ((((stepsL Oz Dz).length) : Int) - 1))) ∧ (((l_FnMedianPrices_e2 kk Oz Dz) = true → (((((stepsL Oz Dz).length) : Int) - 1) : Int) < (((stepsL Oz Dz).length) : Int))) ∧ ((l_FnMedianPrices_e2 kk Oz Dz) = true → (l_FnMedianPrices_e2 kk Oz Dz) = true) ∧ (((l_FnMedianPrices_e2 kk Oz Dz) = true → ((((stepsL Oz Dz).length) : Int) - 1).toNat < (stepsL Oz Dz).length)) ∧ ((l_FnMedianPrices_e2 kk Oz Dz) = true → (l_FnMedianPrices_e2 kk Oz Dz) = true) ∧ ((l_FnMedianPrices_e2 kk Oz Dz) = true → (l_FnMedianPrices_e2 kk Oz Dz) = true) ∧ (true = true) ∧ (((l_FnMedianPrices_e2 kk Oz Dz) = true → (l_FnMedianPrices_e2 kk Oz Dz) = true)) ∧ (((l_FnMedianPrices_e2 kk Oz Dz) = false → true = true)) ∧ ((l_FnMedianPrices_e3 kk Oz Dz) = true → (l_FnMedianPrices_e3 kk Oz Dz) = true) ∧ ((l_FnMedianPrices_e3 kk Oz Dz) = true → (l_FnMedianPrices_e3 kk Oz Dz) = true) ∧ (((l_FnMedianPrices_e3 kk Oz Dz) && (!(!((goodField Oz Dz && inB kk 1 (Oz.length : Int)) && inB pp 0 999)))) = true → ((l_FnMedianPrices_e3 kk Oz Dz) && (!(!((goodField Oz Dz && inB kk 1 (Oz.length : Int)) && inB pp 0 999)))) = true) ∧ (((l_FnMedianPrices_e3 kk Oz Dz) && (!(!((goodField Oz Dz && inB kk 1 (Oz.length : Int)) && inB pp 0 999)))) = true → ((l_FnMedianPrices_e3 kk Oz Dz) && (!(!((goodField Oz Dz && inB kk 1 (Oz.length : Int)) && inB pp 0 999)))) = true) ∧ (((l_FnMedianPrices_e3 kk Oz Dz) = true → (l_FnMedianPrices_e3 kk Oz Dz) = true)) ∧ (((l_FnMedianPrices_e3 kk Oz Dz) = true → (!((goodField Oz Dz && inB kk 1 (Oz.length : Int)) && inB pp 0 999)) = true → true = true)) ∧ (((l_FnMedianPrices_e3 kk Oz Dz) = true → (!((goodField Oz Dz && inB kk 1 (Oz.length : Int)) && inB pp 0 999)) = false → ((l_FnMedianPrices_e3 kk Oz Dz) && (!(!((goodField Oz Dz && inB kk 1 (Oz.length : Int)) && inB pp 0 999)))) = true)) ∧ (true = true) ∧ (((l_FnMedianPrices_e3 kk Oz Dz) = true → (l_FnMedianPrices_e3 kk Oz Dz) = true)) ∧ (((l_FnMedianPrices_e3 kk Oz Dz) = false → true = true)) ∧ (((cond (l_FnMedianPrices_e3 kk Oz Dz) (cond (!((goodField Oz Dz && inB kk 1 (Oz.length : Int)) && inB pp 0 999)) true (decide ((pbL Oz Dz kk pp) ≤ (bpB Oz Dz kk)))) false) = true))))))))))))))
set_option maxRecDepth 100000 in
theorem l_FnMedianPrices_vc (code : List Nat) (hb : ∀ x9 ∈ code, x9 < 256) (w_code : (code.length : Int) ≤ 9223372036854775807) : l_FnMedianPrices_P code := by
  unfold l_FnMedianPrices_P l_FnMedianPrices_e7 l_FnMedianPrices_e6 l_FnMedianPrices_e4 l_FnMedianPrices_e1 l_FnMedianPrices_e5 l_FnMedianPrices_e3 l_FnMedianPrices_e2
  refine ⟨l_rBig_pc code, ?_, ?_⟩
  ·intro b1
   try simp only [nrmT] at b1
   exact rfl
  ·intro b2
   try simp only [nrmT] at b2
   refine ⟨?_, ?_⟩
   ·refine ⟨?_, ?_⟩
    ·refine s_DrawPriceBound_pe code ?_
     ·exact hb
    ·intro Or3 Dsr3 kkr3 ppr3 hQ9
     refine ⟨rfl, ?_⟩
     ·refine ⟨kkr3, ppr3, Or3, Dsr3, ?_⟩
      refine ⟨?_, rfl, rfl, rfl, rfl⟩
      ·trivial
   ·intro kk pp Oz Dz hJ
    refine ⟨i_PriceBound_pc Oz Dz kk pp, s_PriceBound_pc Oz Dz kk pp, id, id, rfl, fun _ => rfl, ?_, ?_, ?_⟩
    ·(simp_all; done)
    ·intro b3
     exfalso; simp_all
    ·intro b4
     refine ⟨i_BestPrice_pc Oz Dz kk, s_BestPrice_pc Oz Dz kk, id, id, rfl, fun _ => rfl, ?_, id, id, rfl, fun _ => rfl, ?_, ?_, ?_⟩
     ·(simp_all; done)
     ·(simp_all; done)
     ·intro b5
      exfalso; simp_all
     ·intro b6
      refine ⟨?_, ?_⟩
      ·intro b7
       try simp only [Bool.not_eq_true', Bool.not_eq_false', Bool.not_not] at b7
       revert b7; cases goodField Oz Dz <;> cases inB kk 1 (Oz.length : Int) <;> cases inB pp 0 999 <;> simp
      ·intro b8
       try simp only [Bool.not_eq_true', Bool.not_eq_false', Bool.not_not] at b8
       refine ⟨i_MedianValue_pc Oz Dz kk, i_PriceBound_pc Oz Dz kk (bpA Oz Dz kk), i_PriceBound_pc Oz Dz kk 0, i_MedianSteps_pc Oz Dz, s_MedianSteps_pc Oz Dz, id, rfl, fun _ => rfl, ?_, id, rfl, fun _ => rfl, ?_, id, rfl, fun _ => rfl, ?_, id, rfl, fun _ => rfl, ?_, id, id, fun _ => rfl, fun _ => rfl, fun _ => l_rInts_pc (stepsL Oz Dz) (stepsL Oz Dz), id, rfl, fun _ => rfl, ?_, ?_, ?_⟩
       ·(simp_all; done)
       ·(simp_all; done)
       ·(simp_all; done)
       ·(simp_all; done)
       ·(simp_all; done)
       ·intro b9
        obtain ⟨m1, m2, m3, m4, m5, m6, m7, m8⟩ := mp_facts (Open := Oz) (D := Dz) (k := kk) (by simpa using b8)
        have hi : inB 0 0 999 = true := by decide
        have m9 := @stepsL_len Oz Dz
        exfalso
        have hc : (goodField Oz Dz && inB kk 1 (Oz.length : Int)) = true := by simpa using b8
        have hk := (Bool.and_eq_true _ _ ▸ hc : _ ∧ _).2
        simp [m1, m3, hi, hk] at b9
       ·intro b10
        refine ⟨id, id, rfl, id, fun _ => rfl, id, id, ?_, id, id, ?_, ?_, id, ?_, id, id, rfl, id, fun _ => rfl, id, id, id, id, id, fun _ _ => rfl, ?_, rfl, id, fun _ => rfl, ?_⟩
        ·first | (intro _; have m6 := mp_facts (Open := Oz) (D := Dz) (k := kk) (by simpa using b8); have m9 := @stepsL_len Oz Dz; omega) | first | omega | rfl | (intro hg; simp only [nrmT] at hg; omega) | (intro g1 g2; simp [g1, g2]; done) | (intro g1; simp at g1 ⊢; simp [g1]; done) | (simp only [nrmT] at *; omega) | (simp at * <;> omega) | (simp_all <;> omega) | (simp_all; done)
        ·first | (intro _; have m6 := mp_facts (Open := Oz) (D := Dz) (k := kk) (by simpa using b8); have m9 := @stepsL_len Oz Dz; omega) | first | omega | rfl | (intro hg; simp only [nrmT] at hg; omega) | (intro g1 g2; simp [g1, g2]; done) | (intro g1; simp at g1 ⊢; simp [g1]; done) | (simp only [nrmT] at *; omega) | (simp at * <;> omega) | (simp_all <;> omega) | (simp_all; done)
        ·first | (intro _; have m6 := mp_facts (Open := Oz) (D := Dz) (k := kk) (by simpa using b8); have m9 := @stepsL_len Oz Dz; omega) | first | omega | rfl | (intro hg; simp only [nrmT] at hg; omega) | (intro g1 g2; simp [g1, g2]; done) | (intro g1; simp at g1 ⊢; simp [g1]; done) | (simp only [nrmT] at *; omega) | (simp at * <;> omega) | (simp_all <;> omega) | (simp_all; done)
        ·first | (intro _; have m6 := mp_facts (Open := Oz) (D := Dz) (k := kk) (by simpa using b8); have m9 := @stepsL_len Oz Dz; omega) | first | omega | rfl | (intro hg; simp only [nrmT] at hg; omega) | (intro g1 g2; simp [g1, g2]; done) | (intro g1; simp at g1 ⊢; simp [g1]; done) | (simp only [nrmT] at *; omega) | (simp at * <;> omega) | (simp_all <;> omega) | (simp_all; done)
        ·first | (intro _; have m6 := mp_facts (Open := Oz) (D := Dz) (k := kk) (by simpa using b8); have m9 := @stepsL_len Oz Dz; omega) | first | omega | rfl | (intro hg; simp only [nrmT] at hg; omega) | (intro g1 g2; simp [g1, g2]; done) | (intro g1; simp at g1 ⊢; simp [g1]; done) | (simp only [nrmT] at *; omega) | (simp at * <;> omega) | (simp_all <;> omega) | (simp_all; done)
        ·obtain ⟨m1, m2, m3, m4, m5, m6, m7, m8⟩ := mp_facts (Open := Oz) (D := Dz) (k := kk) (by simpa using b8)
         have hi : inB 0 0 999 = true := by decide
         have m9 := @stepsL_len Oz Dz
         have e : (((stepsL Oz Dz).length : Int) - 1).toNat = (stepsL Oz Dz).length - 1 := by omega
         have hp : inB pp 0 999 = false ∨ pbL Oz Dz kk pp ≤ bpB Oz Dz kk := by
           cases h : inB pp 0 999
           · left; rfl
           · right; exact m8 pp h
         simp only [m4, m7, e]
         rcases hp with hp | hp <;> simp [hp, m5]
theorem l_FnMedianPrices_pc (code : List Nat) (hb : ∀ x9 ∈ code, x9 < 256) : PC Try.prog 9 [.sl (.bytes code)] (.one (.d (.bool true))) :=
  pc_wf @Try.call9 fun hw => pc_by (by kernel_rfl) Try.func9 @Try.call9 (by kernel_rfl) l_FnMedianPrices_C (l_FnMedianPrices_A code) (by kernel_rfl) (l_FnMedianPrices_vc code hb hw.1) (by kernel_rfl)
end Go.Proofs.Ytomnmacmlhkceaa
