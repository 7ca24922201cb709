/- Contracts of the functions that the law reaches. -/
import Derived.Test.YtomnmacmlhkceaaKLines1
import Derived.KernelRfl
set_option linter.unusedVariables false
set_option linter.unusedSimpArgs false
namespace Go.Proofs.Ytomnmacmlhkceaa
open Go

theorem J7J (u : Value) (l : ZI) (n : Int) (hl : l.length ≤ 1048576)  : J3x u l n := by
  unfold J3x
  refine ⟨?_, ?_⟩
  ·refine ⟨0, ?_⟩
   refine ⟨?_, rfl, rfl, rfl⟩
   ·refine ⟨?_, ?_, ?_⟩
    ·omega
    ·omega
    ·omega
  intro k hJ
  obtain ⟨h1, h2, h3⟩ := hJ
  refine ⟨id, id, ?_, ?_, id, ?_, id, id, rfl, id, fun _ => rfl, ?_, ?_⟩
  ·omega
  ·(intro hg; simp only [nrmT] at hg; omega)
  ·(intro hg; simp only [nrmT] at hg; omega)
  ·intro b1
   refine ⟨?_, ?_⟩
   ·have h5 : k < (l.length : Int) ∧ l.getD k.toNat 0 < n := by
      revert b1; by_cases h : k < (l.length : Int)
      · rw [decide_eq_true h]; intro g; exact ⟨h, by simpa using g⟩
      rw [decide_eq_false h]; intro g; cases g
    omega
   refine ⟨(k + 1), ?_⟩
   refine ⟨?_, ?_, rfl, rfl, rfl⟩
   ·refine ⟨?_, ?_, ?_⟩
    ·omega
    ·have h5 : k < (l.length : Int) ∧ l.getD k.toNat 0 < n := by
       revert b1; by_cases h : k < (l.length : Int)
       · rw [decide_eq_true h]; intro g; exact ⟨h, by simpa using g⟩
       rw [decide_eq_false h]; intro g; cases g
     omega
    ·have h5 : k < (l.length : Int) ∧ l.getD k.toNat 0 < n := by
       revert b1; by_cases h : k < (l.length : Int)
       · rw [decide_eq_true h]; intro g; exact ⟨h, by simpa using g⟩
       rw [decide_eq_false h]; intro g; cases g
     intro j hj
     by_cases e : j = k.toNat
     · rw [e]; exact h5.2
     exact h3 j (by omega)
   have h5 : k < (l.length : Int) ∧ l.getD k.toNat 0 < n := by
     revert b1; by_cases h : k < (l.length : Int)
     · rw [decide_eq_true h]; intro g; exact ⟨h, by simpa using g⟩
     rw [decide_eq_false h]; intro g; cases g
   (simp only [J1s]; omega)
  intro b2
  refine ⟨id, id, ?_, ?_, id, ?_, id, id, rfl, id, fun _ => rfl, ?_, ?_⟩
  ·omega
  ·(intro hg; simp only [nrmT] at hg; omega)
  ·(intro hg; simp only [nrmT] at hg; omega)
  ·intro b3
   refine ⟨rfl, ?_⟩
   ·have h6 : k.toNat < l.length → ¬ l.getD k.toNat 0 < n := by
      intro g1 g2
      rw [decide_eq_true (show k < (l.length : Int) by omega), decide_eq_true g2] at b2
      cases b2
    have h7 : k < (l.length : Int) ∧ l.getD k.toNat 0 = n := by
      revert b3; by_cases h : k < (l.length : Int)
      · rw [decide_eq_true h]; intro g; exact ⟨h, by simpa using g⟩
      rw [decide_eq_false h]; intro g; cases g
    rw [putL_at l n k.toNat (by omega) h3 h6, if_pos ⟨by omega, h7.2⟩]
  intro b4
  refine ⟨rfl, ?_, ?_, rfl, trivial, ?_, ?_, rfl, ?_, ?_, ?_, ?_, trivial, ?_, ?_, ?_⟩
  ·omega
  ·omega
  ·(simp only [List.length_append, List.length_take, List.length_drop, List.length_cons, List.length_nil]; omega)
  ·(simp only [List.length_append, List.length_take, List.length_drop, List.length_cons, List.length_nil]; done)
  ·(simp only [List.length_append, List.length_take, List.length_drop, List.length_cons, List.length_nil]; omega)
  ·omega
  ·omega
  ·(simp only [List.length_append, List.length_take, List.length_drop, List.length_cons, List.length_nil]; done)
  ·(simp only [List.length_append, List.length_take, List.length_drop, List.length_cons, List.length_nil]; omega)
  ·(simp only [List.length_append, List.length_take, List.length_drop, List.length_cons, List.length_nil]; done)
  have h6 : k.toNat < l.length → ¬ l.getD k.toNat 0 < n := by
    intro g1 g2
    rw [decide_eq_true (show k < (l.length : Int) by omega), decide_eq_true g2] at b2
    cases b2
  have h7 : ¬ (k.toNat < l.length ∧ l.getD k.toNat 0 = n) := by
    rintro ⟨g1, g2⟩
    rw [decide_eq_true (show k < (l.length : Int) by omega), g2] at b4
    simp at b4
  rw [putL_at l n k.toNat (by omega) h3 h6, if_neg h7]
  simp
theorem J8c (l : ZI) (n : Int) (hl : l.length ≤ 1048576) : PO Try.prog 202 3 l (putL l n) [.int .i64 n] :=
  po_by (Q := fun u => J3x u l n) (by kernel_rfl) Try.func202 @Try.call202 (by kernel_rfl) J8k (fun u => J8e u l n) (by kernel_rfl) (fun u => J7J u l n hl) (fun u => by kernel_rfl)
def lnF (code : List Nat) (s : ZI × Cur) (_ : Nat) : ZI × Cur := (putL s.1 (J7 code s.2 30), J5 code s.2 30)
def J1B (code : List Nat) (c : Cur) (k : Nat) : ZI × Cur := foldTo (lnF code) ([], J5 code c 7) k
def lnN (code : List Nat) (c : Cur) : Int := 1 + J7 code c 7
def lnE (code : List Nat) (c : Cur) : ZI × Cur := J1B code c (lnN code c).toNat
theorem J4r (code : List Nat) (c : Cur) (k : Nat) : J1B code c (k + 1) = lnF code (J1B code c k) k := rfl
theorem J7N (code : List Nat) (c : Cur) : 1 ≤ lnN code c ∧ lnN code c ≤ 7 := by
  have := JK code c (n := 7) (by omega)
  unfold lnN
  omega
theorem J4u (code : List Nat) {c : Cur} {b : Int} (h : okC c b) : ∀ k, okC (J1B code c k).2 (b + 2 + 2 * k) ∧ (J1B code c k).1.length ≤ k
  | 0 => ⟨Js (J0u h) (by omega), Nat.le_refl _⟩
  | k + 1 => by
    obtain ⟨h1, h2⟩ := J4u code h k
    rw [J4r]
    refine ⟨Js (J0u h1) (by omega), ?_⟩
    have := putL_len (J1B code c k).1 (J7 code (J1B code c k).2 30)
    unfold lnF
    dsimp only
    omega
def clF (code : List Nat) (s : ZI × Int × Cur) (_ : Nat) : ZI × Int × Cur := (s.1 ++ [s.2.1 + J7 code s.2.2 7], s.2.1 + J7 code s.2.2 7, J5 code s.2.2 7)
def JX (code : List Nat) (c : Cur) (k : Nat) : ZI × Int × Cur := foldTo (clF code) ([], 0, J5 code (lnE code c).2 8) k
def clN (code : List Nat) (c : Cur) : Int := J7 code (lnE code c).2 8
def clE (code : List Nat) (c : Cur) : ZI × Int × Cur := JX code c (clN code c).toNat
theorem J3t (code : List Nat) (c : Cur) (k : Nat) : JX code c (k + 1) = clF code (JX code c k) k := rfl
theorem Ja5 (code : List Nat) (c : Cur) : 0 ≤ clN code c ∧ clN code c < 8 := JK code _ (n := 8) (by omega)
theorem J6o (code : List Nat) {c : Cur} {b : Int} (h : okC c b) : ∀ k, okC (JX code c k).2.2 (b + 18 + 2 * k) ∧ (JX code c k).1.length = k ∧ 0 ≤ (JX code c k).2.1 ∧ (JX code c k).2.1 ≤ 6 * k
  | 0 => by
    have h1 := (J4u code h (lnN code c).toNat).1
    have h2 := J7N code c
    exact ⟨Js (J0u h1) (by omega), rfl, Int.le_refl _, Int.le_refl _⟩
  | k + 1 => by
    obtain ⟨h1, h2, h3, h4⟩ := J6o code h k
    have h5 := JK code (JX code c k).2.2 (n := 7) (by omega)
    rw [J3t]
    refine ⟨Js (J0u h1) (by omega), ?_, ?_, ?_⟩
    · show ((JX code c k).1 ++ [(JX code c k).2.1 + J7 code (JX code c k).2.2 7]).length = k + 1
      simp [h2]
    · show 0 ≤ (JX code c k).2.1 + J7 code (JX code c k).2.2 7
      omega
    show (JX code c k).2.1 + J7 code (JX code c k).2.2 7 ≤ 6 * ((k + 1 : Nat) : Int)
    omega
def JU (code : List Nat) (c : Cur) : Int := J7 code (clE code c).2.2 30
def JW (code : List Nat) (c : Cur) : Cur := J5 code (clE code c).2.2 30
def J2q (code : List Nat) (c : Cur) : Int := ([0, 99, 100, -1] : ZI).getD (J7 code (JW code c) 4).toNat 0
def JC (code : List Nat) (c : Cur) : Cur := if JU code c = 0 ∨ JU code c = 1 then J5 code (JW code c) 4 else JW code c
def J0t (code : List Nat) (c : Cur) : ZI := if JU code c = 0 then (lnE code c).1 ++ [J2q code c] else if JU code c = 2 then [] else (lnE code c).1
def J0H (code : List Nat) (c : Cur) : ZI := if JU code c = 1 then (clE code c).1 ++ [J2q code c] else (clE code c).1
theorem J6i {code : List Nat} {c : Cur} {b : Int} (h : okC c b) : okC (JC code c) (b + 40) := by
  have h1 := (J6o code h (clN code c).toNat).1
  have h2 := Ja5 code c
  have h3 : okC (JW code c) (b + 34) := Js (J0u h1) (by omega)
  unfold JC
  split
  · exact Js (J0u h3) (by omega)
  exact Js h3 (by omega)
abbrev J0z (u : Value) (code : List Nat) (c : Cur) (sites : ZI) (n : Int) (c1 : Cur) : Prop := (0 ≤ n) ∧ (n ≤ lnN code c) ∧ (sites = (J1B code c (lnN code c - n).toNat).1) ∧ (c1 = (J1B code c (lnN code c - n).toNat).2)
abbrev J08 (u : Value) (code : List Nat) (c : Cur) (sites : ZI) (n : Int) (c1 : Cur) : Nat := n.toNat
abbrev J1D (u : Value) (code : List Nat) (c : Cur) (sites1 : ZI) (c2 : Cur) : Prop := (sites1 = (lnE code c).1) ∧ (c2 = (lnE code c).2)
abbrev J0w (u : Value) (code : List Nat) (c : Cur) (sites1 : ZI) (c2 : Cur) (clients : ZI) (now : Int) (m : Int) (c3 : Cur) : Prop := (0 ≤ m) ∧ (m ≤ clN code c) ∧ (clients = (JX code c (clN code c - m).toNat).1) ∧ (now = (JX code c (clN code c - m).toNat).2.1) ∧ (c3 = (JX code c (clN code c - m).toNat).2.2)
abbrev J06 (u : Value) (code : List Nat) (c : Cur) (sites1 : ZI) (c2 : Cur) (clients : ZI) (now : Int) (m : Int) (c3 : Cur) : Nat := m.toNat
abbrev J1E (u : Value) (code : List Nat) (c : Cur) (sites1 : ZI) (c2 : Cur) (clients1 : ZI) (c4 : Cur) : Prop := (clients1 = (clE code c).1) ∧ (c4 = (clE code c).2.2)
def J6B (f : FuncId) (ds : List D) : Orc := .no
def J6P (u : Value) (code : List Nat) (c : Cur) : Ann := .two (.none) (.two (.none) (.cut (.two (.mark [] [(1, .cell [.int .i64 ((J5 code c 7).pos), .int .u64 ((J5 code c 7).seed)] (.one (.d (.int .i64 (J7 code c 7)))))]) (.loop (cut3 (fun (sites : ZI) (n : Int) (c1 : Cur) => J0z u code c sites n c1) (fun (sites : ZI) (n : Int) (c1 : Cur) => [(0, .ptr 0 0), (4, .own 1000000 sites.length), (5, .own 10 0), (6, .d true (.int .i64 n))]) (fun (sites : ZI) (n : Int) (c1 : Cur) => [(1000000, .arr true 3 (.ints sites)), (0, .box 98 [.d false (.lit u (.sl (.bytes code))), .d true (.int .i64 c1.pos), .d true (.int .u64 c1.seed)]), (10, .arr true 3 (.ints ([])))])) (fun g => J08 u code c g.1 g.2.1 g.2.2) (fun g => (fun (sites : ZI) (n : Int) (c1 : Cur) => .two (.none) (.two (.mark [] [(2, .cell [.int .i64 ((J5 code c1 30).pos), .int .u64 ((J5 code c1 30).seed)] (.one (.d (.int .i64 (J7 code c1 30))))), (3, .put (putL sites (J7 code c1 30)))]) (.none))) (g.1) (g.2.1) (g.2.2)))) (cut2 (fun (sites1 : ZI) (c2 : Cur) => J1D u code c sites1 c2) (fun (sites1 : ZI) (c2 : Cur) => [(0, .ptr 0 0), (4, .own 1000050 sites1.length), (5, .own 10 0)]) (fun (sites1 : ZI) (c2 : Cur) => [(1000050, .arr true 3 (.ints sites1)), (0, .box 98 [.d false (.lit u (.sl (.bytes code))), .d true (.int .i64 c2.pos), .d true (.int .u64 c2.seed)]), (10, .arr true 3 (.ints ([])))])) (fun g => (fun (sites1 : ZI) (c2 : Cur) => .two (.none) (.cut (.two (.mark [] [(1, .cell [.int .i64 ((J5 code c2 8).pos), .int .u64 ((J5 code c2 8).seed)] (.one (.d (.int .i64 (J7 code c2 8)))))]) (.loop (cut4 (fun (clients : ZI) (now : Int) (m : Int) (c3 : Cur) => J0w u code c sites1 c2 clients now m c3) (fun (clients : ZI) (now : Int) (m : Int) (c3 : Cur) => [(0, .ptr 0 0), (4, .own 1000050 sites1.length), (5, .own 1000100 clients.length), (7, .d true (.int .i64 now)), (8, .d true (.int .i64 m))]) (fun (clients : ZI) (now : Int) (m : Int) (c3 : Cur) => [(1000100, .arr true 3 (.ints clients)), (0, .box 98 [.d false (.lit u (.sl (.bytes code))), .d true (.int .i64 c3.pos), .d true (.int .u64 c3.seed)]), (1000050, .arr true 3 (.ints sites1))])) (fun g => J06 u code c sites1 c2 g.1 g.2.1 g.2.2.1 g.2.2.2) (fun g => (fun (clients : ZI) (now : Int) (m : Int) (c3 : Cur) => .two (.none) (.two (.two (.mark [] [(2, .cell [.int .i64 ((J5 code c3 7).pos), .int .u64 ((J5 code c3 7).seed)] (.one (.d (.int .i64 (J7 code c3 7)))))]) (.none)) (.none))) (g.1) (g.2.1) (g.2.2.1) (g.2.2.2)))) (cut2 (fun (clients1 : ZI) (c4 : Cur) => J1E u code c sites1 c2 clients1 c4) (fun (clients1 : ZI) (c4 : Cur) => [(0, .ptr 0 0), (4, .own 1000050 sites1.length), (5, .own 1000150 clients1.length)]) (fun (clients1 : ZI) (c4 : Cur) => [(1000150, .arr true 3 (.ints clients1)), (0, .box 98 [.d false (.lit u (.sl (.bytes code))), .d true (.int .i64 c4.pos), .d true (.int .u64 c4.seed)]), (1000050, .arr true 3 (.ints sites1))])) (fun g => (fun (clients1 : ZI) (c4 : Cur) => .two (.two (.mark [] [(1, .cell [.int .i64 ((J5 code c4 30).pos), .int .u64 ((J5 code c4 30).seed)] (.one (.d (.int .i64 (J7 code c4 30)))))]) (.two (.none) (.two (.mark [] [(3, .cell [.int .i64 ((J5 code (J5 code c4 30) (([0, 99, 100, (-1)]).length : Int)).pos), .int .u64 ((J5 code (J5 code c4 30) (([0, 99, 100, (-1)]).length : Int)).seed)] (.one (.d (.int .i64 (([0, 99, 100, (-1)]).getD (J7 code (J5 code c4 30) (([0, 99, 100, (-1)]).length : Int)).toNat 0)))))]) (.two (.none) (.two (.mark [] [(3, .cell [.int .i64 ((J5 code (J5 code c4 30) (([0, 99, 100, (-1)]).length : Int)).pos), .int .u64 ((J5 code (J5 code c4 30) (([0, 99, 100, (-1)]).length : Int)).seed)] (.one (.d (.int .i64 (([0, 99, 100, (-1)]).getD (J7 code (J5 code c4 30) (([0, 99, 100, (-1)]).length : Int)).toNat 0)))))]) (.none)))))) (.none)) (g.1) (g.2)))) (g.1) (g.2))))
def J2h (u : Value) (code : List Nat) (c : Cur) : Prop :=
  (((PK Try.prog 107 98 (.sl (.bytes code)) [.int .i64 c.pos, .int .u64 c.seed] [.int .i64 ((J5 code c 7).pos), .int .u64 ((J5 code c 7).seed)] [.int .i64 7] (.one (.d (.int .i64 (J7 code c 7))))) ∧ (I6 (1 + (J7 code c 7))) ∧ ((∃ sites' : ZI, ∃ n' : Int, ∃ c1' : Cur, (J0z u code c sites' n' c1') ∧ ((0 : Nat) = sites'.length) ∧ ((0 : Nat) = 0) ∧ ((1 + (J7 code c 7)) = n') ∧ ([] = sites') ∧ ((.lit u (.sl (.bytes code)) : D) = .lit u (.sl (.bytes code))) ∧ ((J5 code c 7).pos = c1'.pos) ∧ ((J5 code c 7).seed = c1'.seed) ∧ (([] : ZI) = [])) ∧ (∀ sites : ZI, ∀ n : Int, ∀ c1 : Cur, (J0z u code c sites n c1) → (((decide (n > 0)) = true → (PK Try.prog 107 98 (.sl (.bytes code)) [.int .i64 c1.pos, .int .u64 c1.seed] [.int .i64 ((J5 code c1 30).pos), .int .u64 ((J5 code c1 30).seed)] [.int .i64 30] (.one (.d (.int .i64 (J7 code c1 30))))) ∧ (sites.length = sites.length) ∧ (PO Try.prog 202 3 sites (putL sites (J7 code c1 30)) [.int .i64 (J7 code c1 30)]) ∧ (I6 (n - 1)) ∧ (∃ sites' : ZI, ∃ n' : Int, ∃ c1' : Cur, (J0z u code c sites' n' c1') ∧ (J08 u code c sites' n' c1' < J08 u code c sites n c1) ∧ ((putL sites (J7 code c1 30)).length = sites'.length) ∧ ((0 : Nat) = 0) ∧ ((n - 1) = n') ∧ ((putL sites (J7 code c1 30)) = sites') ∧ ((.lit u (.sl (.bytes code)) : D) = .lit u (.sl (.bytes code))) ∧ ((J5 code c1 30).pos = c1'.pos) ∧ ((J5 code c1 30).seed = c1'.seed) ∧ (([] : ZI) = []))) ∧ ((decide (n > 0)) = false → (∃ sites1' : ZI, ∃ c2' : Cur, (J1D u code c sites1' c2') ∧ (sites.length = sites1'.length) ∧ ((0 : Nat) = 0) ∧ (sites = sites1') ∧ ((.lit u (.sl (.bytes code)) : D) = .lit u (.sl (.bytes code))) ∧ (c1.pos = c2'.pos) ∧ (c1.seed = c2'.seed) ∧ (([] : ZI) = []))))))) ∧ (∀ sites1 : ZI, ∀ c2 : Cur, (J1D u code c sites1 c2) → (((PK Try.prog 107 98 (.sl (.bytes code)) [.int .i64 c2.pos, .int .u64 c2.seed] [.int .i64 ((J5 code c2 8).pos), .int .u64 ((J5 code c2 8).seed)] [.int .i64 8] (.one (.d (.int .i64 (J7 code c2 8))))) ∧ ((∃ clients' : ZI, ∃ now' : Int, ∃ m' : Int, ∃ c3' : Cur, (J0w u code c sites1 c2 clients' now' m' c3') ∧ (sites1.length = sites1.length) ∧ ((0 : Nat) = clients'.length) ∧ ((0 : Int) = now') ∧ ((J7 code c2 8) = m') ∧ ([] = clients') ∧ ((.lit u (.sl (.bytes code)) : D) = .lit u (.sl (.bytes code))) ∧ ((J5 code c2 8).pos = c3'.pos) ∧ ((J5 code c2 8).seed = c3'.seed) ∧ (sites1 = sites1)) ∧ (∀ clients : ZI, ∀ now : Int, ∀ m : Int, ∀ c3 : Cur, (J0w u code c sites1 c2 clients now m c3) → (((decide (m > 0)) = true → (PK Try.prog 107 98 (.sl (.bytes code)) [.int .i64 c3.pos, .int .u64 c3.seed] [.int .i64 ((J5 code c3 7).pos), .int .u64 ((J5 code c3 7).seed)] [.int .i64 7] (.one (.d (.int .i64 (J7 code c3 7))))) ∧ (I6 (now + (J7 code c3 7))) ∧ (clients.length = clients.length) ∧ ((1 : Nat) = 1) ∧ ((clients.length + 1) * 8 ≤ 140737488355328) ∧ (I6 (m - 1)) ∧ (∃ clients' : ZI, ∃ now' : Int, ∃ m' : Int, ∃ c3' : Cur, (J0w u code c sites1 c2 clients' now' m' c3') ∧ (J06 u code c sites1 c2 clients' now' m' c3' < J06 u code c sites1 c2 clients now m c3) ∧ (sites1.length = sites1.length) ∧ ((clients.length + 1) = clients'.length) ∧ ((now + (J7 code c3 7)) = now') ∧ ((m - 1) = m') ∧ ((clients ++ [(now + (J7 code c3 7))]) = clients') ∧ ((.lit u (.sl (.bytes code)) : D) = .lit u (.sl (.bytes code))) ∧ ((J5 code c3 7).pos = c3'.pos) ∧ ((J5 code c3 7).seed = c3'.seed) ∧ (sites1 = sites1))) ∧ ((decide (m > 0)) = false → (∃ clients1' : ZI, ∃ c4' : Cur, (J1E u code c sites1 c2 clients1' c4') ∧ (sites1.length = sites1.length) ∧ (clients.length = clients1'.length) ∧ (clients = clients1') ∧ ((.lit u (.sl (.bytes code)) : D) = .lit u (.sl (.bytes code))) ∧ (c3.pos = c4'.pos) ∧ (c3.seed = c4'.seed) ∧ (sites1 = sites1))))))) ∧ (∀ clients1 : ZI, ∀ c4 : Cur, (J1E u code c sites1 c2 clients1 c4) → (PK Try.prog 107 98 (.sl (.bytes code)) [.int .i64 c4.pos, .int .u64 c4.seed] [.int .i64 ((J5 code c4 30).pos), .int .u64 ((J5 code c4 30).seed)] [.int .i64 30] (.one (.d (.int .i64 (J7 code c4 30))))) ∧ ((((J7 code c4 30) == 0) = true → ((4 : Nat) = 4) ∧ (PK Try.prog 106 98 (.sl (.bytes code)) [.int .i64 ((J5 code c4 30).pos), .int .u64 ((J5 code c4 30).seed)] [.int .i64 ((J5 code (J5 code c4 30) (([0, 99, 100, (-1)]).length : Int)).pos), .int .u64 ((J5 code (J5 code c4 30) (([0, 99, 100, (-1)]).length : Int)).seed)] [.sl (.ints ([0, 99, 100, (-1)]))] (.one (.d (.int .i64 (([0, 99, 100, (-1)]).getD (J7 code (J5 code c4 30) (([0, 99, 100, (-1)]).length : Int)).toNat 0))))) ∧ (sites1.length = sites1.length) ∧ ((1 : Nat) = 1) ∧ ((sites1.length + 1) * 8 ≤ 140737488355328) ∧ (((.lit u (.sl (.bytes code)) : D) = .lit u (.sl (.bytes code))) ∧ ((J5 code (J5 code c4 30) (([0, 99, 100, (-1)]).length : Int)).pos = (JC code c).pos) ∧ ((J5 code (J5 code c4 30) (([0, 99, 100, (-1)]).length : Int)).seed = (JC code c).seed) ∧ ((sites1.length + 1) = (sites1 ++ [(([0, 99, 100, (-1)]).getD (J7 code (J5 code c4 30) (([0, 99, 100, (-1)]).length : Int)).toNat 0)]).length) ∧ (((sites1 ++ [(([0, 99, 100, (-1)]).getD (J7 code (J5 code c4 30) (([0, 99, 100, (-1)]).length : Int)).toNat 0)]) : ZI) = J0t code c) ∧ (clients1.length = clients1.length) ∧ ((clients1 : ZI) = J0H code c))) ∧ (((J7 code c4 30) == 0) = false → ((((J7 code c4 30) == 1) = true → ((4 : Nat) = 4) ∧ (PK Try.prog 106 98 (.sl (.bytes code)) [.int .i64 ((J5 code c4 30).pos), .int .u64 ((J5 code c4 30).seed)] [.int .i64 ((J5 code (J5 code c4 30) (([0, 99, 100, (-1)]).length : Int)).pos), .int .u64 ((J5 code (J5 code c4 30) (([0, 99, 100, (-1)]).length : Int)).seed)] [.sl (.ints ([0, 99, 100, (-1)]))] (.one (.d (.int .i64 (([0, 99, 100, (-1)]).getD (J7 code (J5 code c4 30) (([0, 99, 100, (-1)]).length : Int)).toNat 0))))) ∧ (clients1.length = clients1.length) ∧ ((1 : Nat) = 1) ∧ ((clients1.length + 1) * 8 ≤ 140737488355328) ∧ (((.lit u (.sl (.bytes code)) : D) = .lit u (.sl (.bytes code))) ∧ ((J5 code (J5 code c4 30) (([0, 99, 100, (-1)]).length : Int)).pos = (JC code c).pos) ∧ ((J5 code (J5 code c4 30) (([0, 99, 100, (-1)]).length : Int)).seed = (JC code c).seed) ∧ (sites1.length = sites1.length) ∧ ((sites1 : ZI) = J0t code c) ∧ ((clients1.length + 1) = (clients1 ++ [(([0, 99, 100, (-1)]).getD (J7 code (J5 code c4 30) (([0, 99, 100, (-1)]).length : Int)).toNat 0)]).length) ∧ (((clients1 ++ [(([0, 99, 100, (-1)]).getD (J7 code (J5 code c4 30) (([0, 99, 100, (-1)]).length : Int)).toNat 0)]) : ZI) = J0H code c))) ∧ (((J7 code c4 30) == 1) = false → ((((J7 code c4 30) == 2) = true → (((.lit u (.sl (.bytes code)) : D) = .lit u (.sl (.bytes code))) ∧ ((J5 code c4 30).pos = (JC code c).pos) ∧ ((J5 code c4 30).seed = (JC code c).seed) ∧ ((0 : Nat) = 0) ∧ (([] : ZI) = J0t code c) ∧ (clients1.length = clients1.length) ∧ ((clients1 : ZI) = J0H code c))) ∧ (((J7 code c4 30) == 2) = false → (((.lit u (.sl (.bytes code)) : D) = .lit u (.sl (.bytes code))) ∧ ((J5 code c4 30).pos = (JC code c).pos) ∧ ((J5 code c4 30).seed = (JC code c).seed) ∧ (sites1.length = sites1.length) ∧ ((sites1 : ZI) = J0t code c) ∧ (clients1.length = clients1.length) ∧ ((clients1 : ZI) = J0H code c))))))))))))
theorem J5M (u : Value) (code : List Nat) (c : Cur) (hb : ∀ x9 ∈ code, x9 < 256) (hc : okC c 1000000)  : J2h u code c := by
  unfold J2h
  have nn := J7N code c
  have mn := Ja5 code c
  have so := J4u code hc
  have sc := J6o code hc
  refine ⟨?_, ?_⟩
  ·refine ⟨?_, ?_, ?_, ?_⟩
   ·refine JD code c 7 ?_ ?_
    ·exact hb
    ·exact Js hc (by omega)
   ·have := JK code c (n := 7) (by omega)
    omega
   ·refine ⟨([]), (1 + (J7 code c 7)), (J5 code c 7), ?_⟩
    refine ⟨?_, rfl, rfl, rfl, ?_, rfl, rfl, rfl, rfl⟩
    ·refine ⟨?_, ?_, ?_, ?_⟩
     ·have := JK code c (n := 7) (by omega)
      omega
     ·first | omega | exact Int.le_refl _
     ·show _ = (J1B code c (lnN code c - lnN code c).toNat).1
      rw [Int.sub_self]; rfl
     ·show _ = (J1B code c (lnN code c - lnN code c).toNat).2
      rw [Int.sub_self]; rfl
    first | omega | rfl | (intro hg; simp only [nrmT] at hg; omega) | (intro g1 g2; simp [g1, g2]; done) | (intro g1; simp at g1 ⊢; simp [g1]; done) | (simp only [nrmT] at *; omega) | (simp at * <;> omega) | (simp_all <;> omega) | (simp_all; done)
   ·intro sites n c1 hJ
    obtain ⟨h1, h2, h3, h4⟩ := hJ
    refine ⟨?_, ?_⟩
    ·intro b1
     try simp only [nrmT] at b1
     refine ⟨?_, rfl, ?_, ?_, ?_⟩
     ·refine JD code c1 30 ?_ ?_
      ·exact hb
      ·have ho := (so (lnN code c - n).toNat).1
       rw [← h4] at ho
       exact Js ho (by omega)
     ·refine J8c sites (J7 code c1 30) ?_
      ·have := (so (lnN code c - n).toNat).2
       rw [h3]; omega
     ·first | omega | rfl | (intro hg; simp only [nrmT] at hg; omega) | (intro g1 g2; simp [g1, g2]; done) | (intro g1; simp at g1 ⊢; simp [g1]; done) | (simp only [nrmT] at *; omega) | (simp at * <;> omega) | (simp_all <;> omega) | (simp_all; done)
     refine ⟨(putL sites (J7 code c1 30)), (n - 1), (J5 code c1 30), ?_⟩
     refine ⟨?_, ?_, rfl, rfl, rfl, rfl, rfl, rfl, rfl, rfl⟩
     ·refine ⟨?_, ?_, ?_, ?_⟩
      ·first | omega | rfl | (intro hg; simp only [nrmT] at hg; omega) | (intro g1 g2; simp [g1, g2]; done) | (intro g1; simp at g1 ⊢; simp [g1]; done) | (simp only [nrmT] at *; omega) | (simp at * <;> omega) | (simp_all <;> omega) | (simp_all; done)
      ·first | omega | exact Int.le_refl _
      ·rw [show (lnN code c - (n - 1)).toNat = (lnN code c - n).toNat + 1 by omega, J4r]
       show _ = putL (J1B code c (lnN code c - n).toNat).1 (J7 code (J1B code c (lnN code c - n).toNat).2 30)
       rw [← h3, ← h4]
      ·rw [show (lnN code c - (n - 1)).toNat = (lnN code c - n).toNat + 1 by omega, J4r]
       show _ = J5 code (J1B code c (lnN code c - n).toNat).2 30
       rw [← h4]
     first | (show _ < _; omega) | (simp only [J08]; omega) | (simp only [J08] at *; simp at *; omega)
    intro b2
    try simp only [nrmT] at b2
    refine ⟨sites, c1, ?_⟩
    refine ⟨?_, rfl, rfl, rfl, rfl, rfl, rfl, rfl⟩
    ·refine ⟨?_, ?_⟩
     ·rw [h3]; unfold lnE; rw [show lnN code c - n = lnN code c by omega]
     ·rw [h4]; unfold lnE; rw [show lnN code c - n = lnN code c by omega]
  intro sites1 c2 hJ
  obtain ⟨k1, k2⟩ := hJ
  refine ⟨?_, ?_⟩
  ·refine ⟨?_, ?_, ?_⟩
   ·refine JD code c2 8 ?_ ?_
    ·exact hb
    ·rw [k2]
     exact Js (so (lnN code c).toNat).1 (by omega)
   ·refine ⟨([]), 0, (J7 code c2 8), (J5 code c2 8), ?_⟩
    refine ⟨?_, rfl, rfl, rfl, rfl, ?_, rfl, rfl, rfl, rfl⟩
    ·refine ⟨?_, ?_, ?_, ?_, ?_⟩
     ·exact Jaq _ _ _
     ·first | omega | (rw [k2]; exact Int.le_refl _)
     ·rw [show clN code c - J7 code c2 8 = 0 by rw [k2]; unfold clN; omega]
      first | rfl | (rw [k2]; rfl)
     ·rw [show clN code c - J7 code c2 8 = 0 by rw [k2]; unfold clN; omega]
      first | rfl | (rw [k2]; rfl)
     ·rw [show clN code c - J7 code c2 8 = 0 by rw [k2]; unfold clN; omega]
      first | rfl | (rw [k2]; rfl)
    first | omega | rfl | (intro hg; simp only [nrmT] at hg; omega) | (intro g1 g2; simp [g1, g2]; done) | (intro g1; simp at g1 ⊢; simp [g1]; done) | (simp only [nrmT] at *; omega) | (simp at * <;> omega) | (simp_all <;> omega) | (simp_all; done)
   ·intro clients now m c3 hJ
    obtain ⟨j1, j2, j3, j4, j5⟩ := hJ
    refine ⟨?_, ?_⟩
    ·intro b3
     try simp only [nrmT] at b3
     refine ⟨?_, ?_, rfl, rfl, ?_, ?_, ?_⟩
     ·refine JD code c3 7 ?_ ?_
      ·exact hb
      ·have ho := (sc (clN code c - m).toNat).1
       rw [← j5] at ho
       exact Js ho (by omega)
     ·have q := sc (clN code c - m).toNat
      have p1 := JK code c3 (n := 7) (by omega)
      rw [← j4] at q
      omega
     ·have q := (sc (clN code c - m).toNat).2.1
      rw [j3, q]; omega
     ·first | omega | rfl | (intro hg; simp only [nrmT] at hg; omega) | (intro g1 g2; simp [g1, g2]; done) | (intro g1; simp at g1 ⊢; simp [g1]; done) | (simp only [nrmT] at *; omega) | (simp at * <;> omega) | (simp_all <;> omega) | (simp_all; done)
     refine ⟨(clients ++ [(now + (J7 code c3 7))]), (now + (J7 code c3 7)), (m - 1), (J5 code c3 7), ?_⟩
     refine ⟨?_, ?_, rfl, ?_, rfl, rfl, rfl, rfl, rfl, rfl, rfl⟩
     ·refine ⟨?_, ?_, ?_, ?_, ?_⟩
      ·first | omega | rfl | (intro hg; simp only [nrmT] at hg; omega) | (intro g1 g2; simp [g1, g2]; done) | (intro g1; simp at g1 ⊢; simp [g1]; done) | (simp only [nrmT] at *; omega) | (simp at * <;> omega) | (simp_all <;> omega) | (simp_all; done)
      ·first | omega | (rw [k2]; exact Int.le_refl _)
      ·rw [show (clN code c - (m - 1)).toNat = (clN code c - m).toNat + 1 by omega, J3t]
       show _ = (JX code c (clN code c - m).toNat).1 ++ [(JX code c (clN code c - m).toNat).2.1 + J7 code (JX code c (clN code c - m).toNat).2.2 7]
       rw [← j3, ← j4, ← j5]
      ·rw [show (clN code c - (m - 1)).toNat = (clN code c - m).toNat + 1 by omega, J3t]
       show _ = (JX code c (clN code c - m).toNat).2.1 + J7 code (JX code c (clN code c - m).toNat).2.2 7
       rw [← j4, ← j5]
      ·rw [show (clN code c - (m - 1)).toNat = (clN code c - m).toNat + 1 by omega, J3t]
       show _ = J5 code (JX code c (clN code c - m).toNat).2.2 7
       rw [← j5]
     ·first | (show _ < _; omega) | (simp only [J06]; omega) | (simp only [J06] at *; simp at *; omega)
     first | omega | rfl | (intro hg; simp only [nrmT] at hg; omega) | (intro g1 g2; simp [g1, g2]; done) | (intro g1; simp at g1 ⊢; simp [g1]; done) | (simp only [nrmT] at *; omega) | (simp at * <;> omega) | (simp_all <;> omega) | (simp_all; done)
    intro b4
    try simp only [nrmT] at b4
    refine ⟨clients, c3, ?_⟩
    refine ⟨?_, rfl, rfl, rfl, rfl, rfl, rfl, rfl⟩
    ·refine ⟨?_, ?_⟩
     ·rw [j3]; unfold clE; rw [show clN code c - m = clN code c by omega]
     ·rw [j5]; unfold clE; rw [show clN code c - m = clN code c by omega]
  intro clients1 c4 hJ
  obtain ⟨k3, k4⟩ := hJ
  refine ⟨?_, ?_, ?_⟩
  ·refine JD code c4 30 ?_ ?_
   ·exact hb
   ·rw [k4]
    exact Js (sc (clN code c).toNat).1 (by omega)
  ·intro b5
   try simp only [nrmT] at b5
   refine ⟨rfl, ?_, rfl, rfl, ?_, rfl, ?_, ?_, ?_, ?_, rfl, ?_⟩
   ·refine J38 code (J5 code c4 30) ([0, 99, 100, (-1)]) ?_ ?_ ?_
    ·exact hb
    ·refine Js (J0u (b := 1000100) ?_) (by omega)
     rw [k4]
     exact Js (sc (clN code c).toNat).1 (by omega)
    ·first | omega | rfl | (intro hg; simp only [nrmT] at hg; omega) | (intro g1 g2; simp [g1, g2]; done) | (intro g1; simp at g1 ⊢; simp [g1]; done) | (simp only [nrmT] at *; omega) | (simp at * <;> omega) | (simp_all <;> omega) | (simp_all; done)
   ·have q := (so (lnN code c).toNat).2
    rw [k1]; show ((J1B code c (lnN code c).toNat).1.length + 1) * 8 ≤ _
    omega
   ·have hv : JU code c = J7 code c4 30 := by rw [k4]; rfl
    have hk : JW code c = J5 code c4 30 := by rw [k4]; rfl
    unfold JC
    first | (rw [if_pos (by rw [hv]; omega), hk]; rfl) | (rw [if_neg (by rw [hv]; omega), hk])
   ·have hv : JU code c = J7 code c4 30 := by rw [k4]; rfl
    have hk : JW code c = J5 code c4 30 := by rw [k4]; rfl
    unfold JC
    first | (rw [if_pos (by rw [hv]; omega), hk]; rfl) | (rw [if_neg (by rw [hv]; omega), hk])
   ·first | omega | rfl | (intro hg; simp only [nrmT] at hg; omega) | (intro g1 g2; simp [g1, g2]; done) | (intro g1; simp at g1 ⊢; simp [g1]; done) | (simp only [nrmT] at *; omega) | (simp at * <;> omega) | (simp_all <;> omega) | (simp_all; done)
   ·have hv : JU code c = J7 code c4 30 := by rw [k4]; rfl
    have hk : JW code c = J5 code c4 30 := by rw [k4]; rfl
    unfold J0t
    first | (rw [if_pos (by rw [hv]; omega), k1]; unfold J2q; rw [hk]; rfl) | (rw [if_neg (by rw [hv]; omega), if_pos (by rw [hv]; omega)]) | (rw [if_neg (by rw [hv]; omega), if_neg (by rw [hv]; omega), k1])
   have hv : JU code c = J7 code c4 30 := by rw [k4]; rfl
   have hk : JW code c = J5 code c4 30 := by rw [k4]; rfl
   unfold J0H
   first | (rw [if_pos (by rw [hv]; omega), k3]; unfold J2q; rw [hk]; rfl) | (rw [if_neg (by rw [hv]; omega), k3])
  intro b6
  try simp only [nrmT] at b6
  refine ⟨?_, ?_⟩
  ·intro b7
   try simp only [nrmT] at b7
   refine ⟨rfl, ?_, rfl, rfl, ?_, rfl, ?_, ?_, rfl, ?_, ?_, ?_⟩
   ·refine J38 code (J5 code c4 30) ([0, 99, 100, (-1)]) ?_ ?_ ?_
    ·exact hb
    ·refine Js (J0u (b := 1000100) ?_) (by omega)
     rw [k4]
     exact Js (sc (clN code c).toNat).1 (by omega)
    ·first | omega | rfl | (intro hg; simp only [nrmT] at hg; omega) | (intro g1 g2; simp [g1, g2]; done) | (intro g1; simp at g1 ⊢; simp [g1]; done) | (simp only [nrmT] at *; omega) | (simp at * <;> omega) | (simp_all <;> omega) | (simp_all; done)
   ·have q := (sc (clN code c).toNat).2.1
    rw [k3]; show ((JX code c (clN code c).toNat).1.length + 1) * 8 ≤ _
    omega
   ·have hv : JU code c = J7 code c4 30 := by rw [k4]; rfl
    have hk : JW code c = J5 code c4 30 := by rw [k4]; rfl
    unfold JC
    first | (rw [if_pos (by rw [hv]; omega), hk]; rfl) | (rw [if_neg (by rw [hv]; omega), hk])
   ·have hv : JU code c = J7 code c4 30 := by rw [k4]; rfl
    have hk : JW code c = J5 code c4 30 := by rw [k4]; rfl
    unfold JC
    first | (rw [if_pos (by rw [hv]; omega), hk]; rfl) | (rw [if_neg (by rw [hv]; omega), hk])
   ·have hv : JU code c = J7 code c4 30 := by rw [k4]; rfl
    have hk : JW code c = J5 code c4 30 := by rw [k4]; rfl
    unfold J0t
    first | (rw [if_pos (by rw [hv]; omega), k1]; unfold J2q; rw [hk]; rfl) | (rw [if_neg (by rw [hv]; omega), if_pos (by rw [hv]; omega)]) | (rw [if_neg (by rw [hv]; omega), if_neg (by rw [hv]; omega), k1])
   ·first | omega | rfl | (intro hg; simp only [nrmT] at hg; omega) | (intro g1 g2; simp [g1, g2]; done) | (intro g1; simp at g1 ⊢; simp [g1]; done) | (simp only [nrmT] at *; omega) | (simp at * <;> omega) | (simp_all <;> omega) | (simp_all; done)
   have hv : JU code c = J7 code c4 30 := by rw [k4]; rfl
   have hk : JW code c = J5 code c4 30 := by rw [k4]; rfl
   unfold J0H
   first | (rw [if_pos (by rw [hv]; omega), k3]; unfold J2q; rw [hk]; rfl) | (rw [if_neg (by rw [hv]; omega), k3])
  intro b8
  try simp only [nrmT] at b8
  refine ⟨?_, ?_⟩
  ·intro b9
   try simp only [nrmT] at b9
   refine ⟨rfl, ?_, ?_, rfl, ?_, rfl, ?_⟩
   ·have hv : JU code c = J7 code c4 30 := by rw [k4]; rfl
    have hk : JW code c = J5 code c4 30 := by rw [k4]; rfl
    unfold JC
    first | (rw [if_pos (by rw [hv]; omega), hk]; rfl) | (rw [if_neg (by rw [hv]; omega), hk])
   ·have hv : JU code c = J7 code c4 30 := by rw [k4]; rfl
    have hk : JW code c = J5 code c4 30 := by rw [k4]; rfl
    unfold JC
    first | (rw [if_pos (by rw [hv]; omega), hk]; rfl) | (rw [if_neg (by rw [hv]; omega), hk])
   ·have hv : JU code c = J7 code c4 30 := by rw [k4]; rfl
    have hk : JW code c = J5 code c4 30 := by rw [k4]; rfl
    unfold J0t
    first | (rw [if_pos (by rw [hv]; omega), k1]; unfold J2q; rw [hk]; rfl) | (rw [if_neg (by rw [hv]; omega), if_pos (by rw [hv]; omega)]) | (rw [if_neg (by rw [hv]; omega), if_neg (by rw [hv]; omega), k1])
   have hv : JU code c = J7 code c4 30 := by rw [k4]; rfl
   have hk : JW code c = J5 code c4 30 := by rw [k4]; rfl
   unfold J0H
   first | (rw [if_pos (by rw [hv]; omega), k3]; unfold J2q; rw [hk]; rfl) | (rw [if_neg (by rw [hv]; omega), k3])
  intro b10
  try simp only [nrmT] at b10
  refine ⟨rfl, ?_, ?_, rfl, ?_, rfl, ?_⟩
  ·have hv : JU code c = J7 code c4 30 := by rw [k4]; rfl
   have hk : JW code c = J5 code c4 30 := by rw [k4]; rfl
   unfold JC
   first | (rw [if_pos (by rw [hv]; omega), hk]; rfl) | (rw [if_neg (by rw [hv]; omega), hk])
  ·have hv : JU code c = J7 code c4 30 := by rw [k4]; rfl
   have hk : JW code c = J5 code c4 30 := by rw [k4]; rfl
   unfold JC
   first | (rw [if_pos (by rw [hv]; omega), hk]; rfl) | (rw [if_neg (by rw [hv]; omega), hk])
  ·have hv : JU code c = J7 code c4 30 := by rw [k4]; rfl
   have hk : JW code c = J5 code c4 30 := by rw [k4]; rfl
   unfold J0t
   first | (rw [if_pos (by rw [hv]; omega), k1]; unfold J2q; rw [hk]; rfl) | (rw [if_neg (by rw [hv]; omega), if_pos (by rw [hv]; omega)]) | (rw [if_neg (by rw [hv]; omega), if_neg (by rw [hv]; omega), k1])
  have hv : JU code c = J7 code c4 30 := by rw [k4]; rfl
  have hk : JW code c = J5 code c4 30 := by rw [k4]; rfl
  unfold J0H
  first | (rw [if_pos (by rw [hv]; omega), k3]; unfold J2q; rw [hk]; rfl) | (rw [if_neg (by rw [hv]; omega), k3])
theorem J5G (code : List Nat) (c : Cur) (hb : ∀ x9 ∈ code, x9 < 256) (hc : okC c 1000000) : PK Try.prog 125 98 (.sl (.bytes code)) [.int .i64 c.pos, .int .u64 c.seed] [.int .i64 (JC code c).pos, .int .u64 (JC code c).seed] [] (.tup [.own 3 (.ints (J0t code c)), .own 3 (.ints (J0H code c))]) :=
  pk_by (Q := fun u => J2h u code c) (by kernel_rfl) Try.func125 @Try.call125 (by kernel_rfl) J6B (fun u => J6P u code c) (by kernel_rfl) (fun u => J5M u code c hb hc) (fun u => by kernel_rfl)
theorem J7c (row set : ZI) : ∀ k i, i < k → row.getD (Ja row set k).toNat 0 ≤ row.getD (set.getD i 0).toNat 0
  | 0, i, h => by omega
  | k + 1, i, h => by
    have ih := J7c row set k
    rw [J00]
    unfold J1u
    by_cases e : i = k
    · subst e
      split
      · exact Int.le_refl _
      omega
    have := ih i (by omega)
    split <;> omega
theorem J6Y {sites clients : ZI} (h : J4 sites clients = true) {i j : Nat} (hij : i ≤ j) (hj : j < clients.length) : clients.getD i 0 ≤ clients.getD j 0 := by
  rw [J4, Bool.and_eq_true] at h
  have h1 := allTo_iff.1 h.1
  induction j with
  | zero => have : i = 0 := by omega
            subst this; exact Int.le_refl _
  | succ j ih =>
    by_cases e : i = j + 1
    · subst e; exact Int.le_refl _
    have h2 := ih (by omega) (by omega)
    have h3 := h1 (j + 1) hj
    rw [J1t, Bool.and_eq_true, decide_eq_false (by omega), Bool.false_or, Nat.add_sub_cancel, Bool.not_eq_true', decide_eq_false_iff_not] at h3
    omega
theorem J99 {n : Nat} {s : ZI} (h : J3 s 0 ((n : Int) - 1) = true) : s ∈ chs n := by
  have ha := J3O h
  have hr := J69 h
  have hp : ∀ x ∈ s, 0 ≤ x ∧ x < (n : Int) := fun x hx => by have := hr x hx; omega
  refine JaE.2 ⟨bagN s, bagN_lt (m := n) hp, ?_⟩
  unfold lst
  refine asc_ext (asc_members _ _) ha fun x => ?_
  rw [mem_members]
  constructor
  · rintro ⟨h1, h2, h3⟩
    rw [bagN_bit fun y hy => (hp y hy).1, List.contains_iff_mem, show ((x.toNat : Nat) : Int) = x by omega] at h3
    exact h3
  intro hx
  have h1 := hp x hx
  refine ⟨h1.1, h1.2, ?_⟩
  rw [bagN_bit fun y hy => (hp y hy).1, List.contains_iff_mem, show ((x.toNat : Nat) : Int) = x by omega]
  exact hx
abbrev J1L (xs : ZR) (ys : ZR) (i : Int) : Prop := (0 ≤ i) ∧ (i ≤ (xs.length : Int)) ∧ (allTo (fun k => xs.getD k [] == ys.getD k []) i.toNat = true) ∧ (xs.length = ys.length)
abbrev J1O (xs : ZR) (ys : ZR) (i : Int) : Nat := (xs.length - i).toNat
def J94 (f : FuncId) (ds : List D) : Orc := bif Nat.beq f 18 then J4M ds else .no
def J9p (xs : ZR) (ys : ZR) : Ann := .two (.none) (.two (.none) (.two (.two (.none) (.loop (cut1 (fun (i : Int) => J1L xs ys i) (fun (i : Int) => [(0, .d false (.sl (.rows xs))), (1, .d false (.sl (.rows ys))), (5, .d true (.int .i64 i))]) (fun (i : Int) => [])) (fun g => J1O xs ys g) (fun _ => .none))) (.none)))
def J5O (xs : ZR) (ys : ZR) : Prop :=
  ((((xs.length : Int) != (ys.length : Int)) = true → ((false = (xs == ys)))) ∧ (((xs.length : Int) != (ys.length : Int)) = false → ((∃ i' : Int, (J1L xs ys i') ∧ (xs = xs) ∧ (ys = ys) ∧ ((0 : Int) = i')) ∧ (∀ i : Int, (J1L xs ys i) → (((decide (i < (xs.length : Int))) = true → (true = true) ∧ ((0 : Int) ≤ i) ∧ ((i : Int) < xs.length) ∧ (i.toNat < xs.length) ∧ ((0 : Int) ≤ i) ∧ ((i : Int) < ys.length) ∧ (i.toNat < ys.length) ∧ (PC Try.prog 18 [.sl (.ints (xs.getD i.toNat [])), .sl (.ints (ys.getD i.toNat []))] (.one (.d (.bool ((xs.getD i.toNat []) == (ys.getD i.toNat [])))))) ∧ (((!((xs.getD i.toNat []) == (ys.getD i.toNat []))) = true → ((false = (xs == ys)))) ∧ ((!((xs.getD i.toNat []) == (ys.getD i.toNat []))) = false → (I6 (i + 1)) ∧ (∃ i' : Int, (J1L xs ys i') ∧ (J1O xs ys i' < J1O xs ys i) ∧ (xs = xs) ∧ (ys = ys) ∧ ((i + 1) = i'))))) ∧ ((decide (i < (xs.length : Int))) = false → ((true = (xs == ys)))))))))
theorem J8s (xs : ZR) (ys : ZR)  (w_xs : (xs.length : Int) ≤ 9223372036854775807) (v_xs : ∀ x9 ∈ xs, (x9.length : Int) ≤ 9223372036854775807) (w_ys : (ys.length : Int) ≤ 9223372036854775807) (v_ys : ∀ x9 ∈ ys, (x9.length : Int) ≤ 9223372036854775807) : J5O xs ys := by
  unfold J5O
  refine ⟨?_, ?_⟩
  ·intro b1
   try simp only [nrmT] at b1
   exact (J9W (by omega)).symm
  intro b2
  try simp only [nrmT] at b2
  refine ⟨?_, ?_⟩
  ·refine ⟨0, ?_⟩
   refine ⟨?_, rfl, rfl, rfl⟩
   ·refine ⟨?_, ?_, ?_, ?_⟩
    ·omega
    ·omega
    ·rfl
    ·omega
  intro i hJ
  obtain ⟨h1, h2, h3, h4⟩ := hJ
  refine ⟨?_, ?_⟩
  ·intro b3
   try simp only [nrmT] at b3
   refine ⟨rfl, ?_, ?_, ?_, ?_, ?_, ?_, J5q (xs.getD i.toNat []) (ys.getD i.toNat []), ?_, ?_⟩
   ·omega
   ·omega
   ·omega
   ·omega
   ·omega
   ·omega
   ·intro b4
    try simp only [nrmT] at b4
    rw [← J2V (d := []) h4]; exact (allTo_falseI h1 (by omega) (by simpa using b4)).symm
   intro b5
   try simp only [nrmT] at b5
   refine ⟨?_, ?_⟩
   ·omega
   refine ⟨(i + 1), ?_⟩
   refine ⟨?_, ?_, rfl, rfl, rfl⟩
   ·refine ⟨?_, ?_, ?_, ?_⟩
    ·omega
    ·omega
    ·exact allTo_step h1 h3 (by simpa using b5)
    ·omega
   (simp only [J1O]; omega)
  intro b6
  try simp only [nrmT] at b6
  rw [← J2V (d := []) h4, ← h3]; congr 1; omega
theorem J4J (xs : ZR) (ys : ZR)  : PC Try.prog 71 [.sl (.rows xs), .sl (.rows ys)] (.one (.d (.bool (xs == ys)))) :=
  pc_wf @Try.call71 fun hw => pc_by (by kernel_rfl) Try.func71 @Try.call71 (by kernel_rfl) J94 (J9p xs ys) (by kernel_rfl) (J8s xs ys hw.1.1 hw.1.2 hw.2.1.1 hw.2.1.2) (by kernel_rfl)
def J4p : List D → Orc := orcN [some .rows, some .rows] fun ds => match ds with
  | [.sl (.rows xs), .sl (.rows ys)] => some (.one (.d (.bool (xs == ys))))
  | _ => none
theorem J5j {f g : Nat → Int} : ∀ n, (∀ k, k < n → f k ≤ g k) → Jk f n ≤ Jk g n
  | 0, _ => Int.le_refl _
  | n + 1, h => by
    have := J5j (f := f) (g := g) n fun k hk => h k (by omega)
    have := h n (by omega)
    rw [J0x, J0x]; omega
/-- A way by two other lengths is shorter. -/
def J5E (D : ZR) (i j a b : Nat) : Bool := decide ((D.getD i []).getD a 0 > (D.getD i []).getD b 0 + (D.getD j []).getD b 0 + (D.getD j []).getD a 0)
def Jat (n : Nat) (D : ZR) (i j a : Nat) : Bool := allTo (fun b => !J5E D i j a b) n
def Ja6 (n : Nat) (D : ZR) (i j : Nat) : Bool := allTo (Jat n D i j) n
def Jan (n : Nat) (D : ZR) (i : Nat) : Bool := allTo (Ja6 n D i) D.length
def J2G (n : Nat) (D : ZR) : Bool := allTo (Jan n D) D.length
theorem J3b {D : ZR} {s : ZI} {a : Int} (ha : a ∈ s) (j : Nat) : Jr D s j ≤ (D.getD j []).getD a.toNat 0 := by
  obtain ⟨i, hi, e⟩ := List.mem_iff_getElem.1 ha
  have h := J7c (D.getD j []) s s.length i hi
  rw [JR hi, e] at h
  exact h
theorem J33 {D : ZR} {s : ZI} (hp : 0 < s.length) (j : Nat) : ∃ a, a ∈ s ∧ Jr D s j = (D.getD j []).getD a.toNat 0 :=
  ⟨_, JS hp s.length (Nat.le_refl _), rfl⟩
theorem J70 {D : ZR} {s t : ZI} (ht : 0 < t.length) (h : ∀ x ∈ t, x ∈ s) (j : Nat) : Jr D s j ≤ Jr D t j := by
  obtain ⟨a, h1, h2⟩ := J33 (D := D) ht j
  rw [h2]
  exact J3b (h a h1) j
theorem J6X {xs ys : ZI} : ∀ k, (∀ j, j < k → xs.getD j 0 ≤ ys.getD j 0) → J1j xs k ≤ J1j ys k
  | 0, _ => Int.le_refl _
  | k + 1, h => by
    have h1 := J6X k fun j hj => h j (by omega)
    have h2 := h k (by omega)
    rw [J2v, J2v]; omega
theorem J9N {D : ZR} {s t : ZI} (h : ∀ j, j < D.length → Jr D s j ≤ Jr D t j) : Jd D s ≤ Jd D t :=
  J6X _ fun j hj => by rw [J2S _ _ _ _ hj, J2S _ _ _ _ hj]; exact h j hj
theorem J3l {U : ZI} {D : ZR} {j : Nat} (h : j < U.length) : (J9g U D U.length).getD j 0 = Jd D (Jj U D ((j : Int) + 1)) := tabTo_get h
abbrev J15 (U : ZI) (E : ZR) (i : Int) : Prop := (0 ≤ i) ∧ (i ≤ (E.length : Int)) ∧ (allTo (Jan U.length E) i.toNat = true)
abbrev J1b (U : ZI) (E : ZR) (i : Int) : Nat := (E.length - i).toNat
abbrev J0Z (U : ZI) (E : ZR) (i : Int) (j : Int) : Prop := (0 ≤ j) ∧ (j ≤ (E.length : Int)) ∧ (allTo (Ja6 U.length E i.toNat) j.toNat = true)
abbrev J18 (U : ZI) (E : ZR) (i : Int) (j : Int) : Nat := (E.length - j).toNat
abbrev J12 (U : ZI) (E : ZR) (i : Int) (j : Int) (a : Int) : Prop := (0 ≤ a) ∧ (a ≤ (U.length : Int)) ∧ (allTo (Jat U.length E i.toNat j.toNat) a.toNat = true)
abbrev J19 (U : ZI) (E : ZR) (i : Int) (j : Int) (a : Int) : Nat := (U.length - a).toNat
abbrev J1e (U : ZI) (E : ZR) (i : Int) (j : Int) (a : Int) (b : Int) : Prop := (0 ≤ b) ∧ (b ≤ (U.length : Int)) ∧ (allTo (fun b => !J5E E i.toNat j.toNat a.toNat b) b.toNat = true)
abbrev J14 (U : ZI) (E : ZR) (i : Int) (j : Int) (a : Int) (b : Int) : Nat := (U.length - b).toNat
def J81 (f : FuncId) (ds : List D) : Orc := bif Nat.beq f 119 then J2J ds else .no
def J7E (U : ZI) (E : ZR) : Ann := .two (.none) (.two (.none) (.two (.two (.none) (.loop (cut1 (fun (i : Int) => J15 U E i) (fun (i : Int) => [(1, .ptr 1 0), (14, .d false (.sl (.rows E))), (15, .d true (.int .i64 (E.length : Int))), (16, .d true (.int .i64 i))]) (fun (i : Int) => [(1, .box 39 [.d false (.sl (.ints U)), .d false (.sl (.rows E))])])) (fun g => J1b U E g) (fun g => (fun (i : Int) => .two (.none) (.two (.none) (.two (.two (.none) (.two (.none) (.loop (cut1 (fun (j : Int) => J0Z U E i j) (fun (j : Int) => [(1, .ptr 1 0), (5, .d false (.sl (.ints (E.getD i.toNat [])))), (14, .d false (.sl (.rows E))), (15, .d true (.int .i64 (E.length : Int))), (16, .d true (.int .i64 i)), (21, .d false (.sl (.rows E))), (22, .d true (.int .i64 (E.length : Int))), (23, .d true (.int .i64 j))]) (fun (j : Int) => [(1, .box 39 [.d false (.sl (.ints U)), .d false (.sl (.rows E))])])) (fun g => J18 U E i g) (fun g => (fun (j : Int) => .two (.none) (.two (.none) (.two (.two (.none) (.two (.none) (.loop (cut1 (fun (a : Int) => J12 U E i j a) (fun (a : Int) => [(1, .ptr 1 0), (5, .d false (.sl (.ints (E.getD i.toNat [])))), (7, .d false (.sl (.ints (E.getD j.toNat [])))), (14, .d false (.sl (.rows E))), (15, .d true (.int .i64 (E.length : Int))), (16, .d true (.int .i64 i)), (21, .d false (.sl (.rows E))), (22, .d true (.int .i64 (E.length : Int))), (23, .d true (.int .i64 j)), (29, .d true (.int .i64 (U.length : Int))), (30, .d true (.int .i64 a))]) (fun (a : Int) => [(1, .box 39 [.d false (.sl (.ints U)), .d false (.sl (.rows E))])])) (fun g => J19 U E i j g) (fun g => (fun (a : Int) => .two (.none) (.two (.none) (.two (.two (.none) (.two (.none) (.loop (cut1 (fun (b : Int) => J1e U E i j a b) (fun (b : Int) => [(1, .ptr 1 0), (5, .d false (.sl (.ints (E.getD i.toNat [])))), (7, .d false (.sl (.ints (E.getD j.toNat [])))), (8, .d true (.int .i64 a)), (14, .d false (.sl (.rows E))), (15, .d true (.int .i64 (E.length : Int))), (16, .d true (.int .i64 i)), (21, .d false (.sl (.rows E))), (22, .d true (.int .i64 (E.length : Int))), (23, .d true (.int .i64 j)), (29, .d true (.int .i64 (U.length : Int))), (30, .d true (.int .i64 a)), (35, .d true (.int .i64 (U.length : Int))), (36, .d true (.int .i64 b))]) (fun (b : Int) => [(1, .box 39 [.d false (.sl (.ints U)), .d false (.sl (.rows E))])])) (fun g => J14 U E i j a g) (fun _ => .none)))) (.none)))) g)))) (.none)))) g)))) (.none)))) g))) (.none)))
def J46 (U : ZI) (E : ZR) : Prop :=
  (PC Try.prog 119 [.agg [.sl (.ints U), .sl (.rows E)]] (.one (.d (.bool (J0 U E))))) ∧ (((!(J0 U E)) = true → ((false = (J0 U E && J2G U.length E)) ∧ (false = (J0 U E)))) ∧ ((!(J0 U E)) = false → ((∃ i' : Int, (J15 U E i') ∧ (E = E) ∧ ((E.length : Int) = (E.length : Int)) ∧ ((0 : Int) = i') ∧ (U = U) ∧ (E = E)) ∧ (∀ i : Int, (J15 U E i) → (((decide (i < (E.length : Int))) = true → ((0 : Int) ≤ i) ∧ ((i : Int) < E.length) ∧ (i.toNat < E.length) ∧ ((∃ j' : Int, (J0Z U E i j') ∧ ((E.getD i.toNat []) = (E.getD i.toNat [])) ∧ (E = E) ∧ ((E.length : Int) = (E.length : Int)) ∧ (i = i) ∧ (E = E) ∧ ((E.length : Int) = (E.length : Int)) ∧ ((0 : Int) = j') ∧ (U = U) ∧ (E = E)) ∧ (∀ j : Int, (J0Z U E i j) → (((decide (j < (E.length : Int))) = true → ((0 : Int) ≤ j) ∧ ((j : Int) < E.length) ∧ (j.toNat < E.length) ∧ ((∃ a' : Int, (J12 U E i j a') ∧ ((E.getD i.toNat []) = (E.getD i.toNat [])) ∧ ((E.getD j.toNat []) = (E.getD j.toNat [])) ∧ (E = E) ∧ ((E.length : Int) = (E.length : Int)) ∧ (i = i) ∧ (E = E) ∧ ((E.length : Int) = (E.length : Int)) ∧ (j = j) ∧ ((U.length : Int) = (U.length : Int)) ∧ ((0 : Int) = a') ∧ (U = U) ∧ (E = E)) ∧ (∀ a : Int, (J12 U E i j a) → (((decide (a < (U.length : Int))) = true → ((∃ b' : Int, (J1e U E i j a b') ∧ ((E.getD i.toNat []) = (E.getD i.toNat [])) ∧ ((E.getD j.toNat []) = (E.getD j.toNat [])) ∧ (a = a) ∧ (E = E) ∧ ((E.length : Int) = (E.length : Int)) ∧ (i = i) ∧ (E = E) ∧ ((E.length : Int) = (E.length : Int)) ∧ (j = j) ∧ ((U.length : Int) = (U.length : Int)) ∧ (a = a) ∧ ((U.length : Int) = (U.length : Int)) ∧ ((0 : Int) = b') ∧ (U = U) ∧ (E = E)) ∧ (∀ b : Int, (J1e U E i j a b) → (((decide (b < (U.length : Int))) = true → (true = true) ∧ ((0 : Int) ≤ a) ∧ ((a : Int) < (E.getD i.toNat []).length) ∧ (a.toNat < (E.getD i.toNat []).length) ∧ ((0 : Int) ≤ b) ∧ ((b : Int) < (E.getD i.toNat []).length) ∧ (b.toNat < (E.getD i.toNat []).length) ∧ ((0 : Int) ≤ b) ∧ ((b : Int) < (E.getD j.toNat []).length) ∧ (b.toNat < (E.getD j.toNat []).length) ∧ (I6 (((E.getD i.toNat []).getD b.toNat 0) + ((E.getD j.toNat []).getD b.toNat 0))) ∧ ((0 : Int) ≤ a) ∧ ((a : Int) < (E.getD j.toNat []).length) ∧ (a.toNat < (E.getD j.toNat []).length) ∧ (I6 ((((E.getD i.toNat []).getD b.toNat 0) + ((E.getD j.toNat []).getD b.toNat 0)) + ((E.getD j.toNat []).getD a.toNat 0))) ∧ (((decide (((E.getD i.toNat []).getD a.toNat 0) > ((((E.getD i.toNat []).getD b.toNat 0) + ((E.getD j.toNat []).getD b.toNat 0)) + ((E.getD j.toNat []).getD a.toNat 0)))) = true → ((false = (J0 U E && J2G U.length E)) ∧ (true = (J0 U E)))) ∧ ((decide (((E.getD i.toNat []).getD a.toNat 0) > ((((E.getD i.toNat []).getD b.toNat 0) + ((E.getD j.toNat []).getD b.toNat 0)) + ((E.getD j.toNat []).getD a.toNat 0)))) = false → (I6 (b + 1)) ∧ (∃ b' : Int, (J1e U E i j a b') ∧ (J14 U E i j a b' < J14 U E i j a b) ∧ ((E.getD i.toNat []) = (E.getD i.toNat [])) ∧ ((E.getD j.toNat []) = (E.getD j.toNat [])) ∧ (a = a) ∧ (E = E) ∧ ((E.length : Int) = (E.length : Int)) ∧ (i = i) ∧ (E = E) ∧ ((E.length : Int) = (E.length : Int)) ∧ (j = j) ∧ ((U.length : Int) = (U.length : Int)) ∧ (a = a) ∧ ((U.length : Int) = (U.length : Int)) ∧ ((b + 1) = b') ∧ (U = U) ∧ (E = E))))) ∧ ((decide (b < (U.length : Int))) = false → (I6 (a + 1)) ∧ (∃ a' : Int, (J12 U E i j a') ∧ (J19 U E i j a' < J19 U E i j a) ∧ ((E.getD i.toNat []) = (E.getD i.toNat [])) ∧ ((E.getD j.toNat []) = (E.getD j.toNat [])) ∧ (E = E) ∧ ((E.length : Int) = (E.length : Int)) ∧ (i = i) ∧ (E = E) ∧ ((E.length : Int) = (E.length : Int)) ∧ (j = j) ∧ ((U.length : Int) = (U.length : Int)) ∧ ((a + 1) = a') ∧ (U = U) ∧ (E = E))))))) ∧ ((decide (a < (U.length : Int))) = false → (I6 (j + 1)) ∧ (∃ j' : Int, (J0Z U E i j') ∧ (J18 U E i j' < J18 U E i j) ∧ ((E.getD i.toNat []) = (E.getD i.toNat [])) ∧ (E = E) ∧ ((E.length : Int) = (E.length : Int)) ∧ (i = i) ∧ (E = E) ∧ ((E.length : Int) = (E.length : Int)) ∧ ((j + 1) = j') ∧ (U = U) ∧ (E = E))))))) ∧ ((decide (j < (E.length : Int))) = false → (I6 (i + 1)) ∧ (∃ i' : Int, (J15 U E i') ∧ (J1b U E i' < J1b U E i) ∧ (E = E) ∧ ((E.length : Int) = (E.length : Int)) ∧ ((i + 1) = i') ∧ (U = U) ∧ (E = E))))))) ∧ ((decide (i < (E.length : Int))) = false → ((true = (J0 U E && J2G U.length E)) ∧ (true = (J0 U E)))))))))
theorem J7g (U : ZI) (E : ZR)  (w_Open : (U.length : Int) ≤ 9223372036854775807) (w_Dist : (E.length : Int) ≤ 9223372036854775807) (v_Dist : ∀ x9 ∈ E, (x9.length : Int) ≤ 9223372036854775807) : J46 U E := by
  unfold J46
  refine ⟨J3c U E, ?_, ?_⟩
  ·intro b1
   try simp only [nrmT] at b1
   refine ⟨?_, ?_⟩
   ·have e1 : J0 U E = false := by simpa using b1
    rw [e1]; rfl
   have e1 : J0 U E = false := by simpa using b1
   exact e1.symm
  intro b2
  try simp only [nrmT] at b2
  refine ⟨?_, ?_⟩
  ·refine ⟨0, ?_⟩
   refine ⟨?_, rfl, rfl, rfl, rfl, rfl⟩
   ·refine ⟨?_, ?_, ?_⟩
    ·omega
    ·omega
    ·rfl
  intro i hJ
  obtain ⟨h1, h2, h3⟩ := hJ
  refine ⟨?_, ?_⟩
  ·intro b3
   try simp only [nrmT] at b3
   refine ⟨?_, ?_, ?_, ?_, ?_⟩
   ·omega
   ·omega
   ·omega
   ·refine ⟨0, ?_⟩
    refine ⟨?_, rfl, rfl, rfl, rfl, rfl, rfl, rfl, rfl, rfl⟩
    ·refine ⟨?_, ?_, ?_⟩
     ·omega
     ·omega
     ·rfl
   intro j hJ
   obtain ⟨h4, h5, h6⟩ := hJ
   refine ⟨?_, ?_⟩
   ·intro b4
    try simp only [nrmT] at b4
    refine ⟨?_, ?_, ?_, ?_, ?_⟩
    ·omega
    ·omega
    ·omega
    ·refine ⟨0, ?_⟩
     refine ⟨?_, rfl, rfl, rfl, rfl, rfl, rfl, rfl, rfl, rfl, rfl, rfl, rfl⟩
     ·refine ⟨?_, ?_, ?_⟩
      ·omega
      ·omega
      ·rfl
    intro a hJ
    obtain ⟨h7, h8, h9⟩ := hJ
    refine ⟨?_, ?_⟩
    ·intro b5
     try simp only [nrmT] at b5
     refine ⟨?_, ?_⟩
     ·refine ⟨0, ?_⟩
      refine ⟨?_, rfl, rfl, rfl, rfl, rfl, rfl, rfl, rfl, rfl, rfl, rfl, rfl, rfl, rfl, rfl⟩
      ·refine ⟨?_, ?_, ?_⟩
       ·omega
       ·omega
       ·rfl
     intro b hJ
     obtain ⟨k1, k2, k3⟩ := hJ
     refine ⟨?_, ?_⟩
     ·intro b6
      try simp only [nrmT] at b6
      refine ⟨rfl, ?_, ?_, ?_, ?_, ?_, ?_, ?_, ?_, ?_, ?_, ?_, ?_, ?_, ?_, ?_, ?_⟩
      ·omega
      ·have hg : J0 U E = true := by simpa using b2
       obtain ⟨g1, g2, g3⟩ := Jc hg
       have r1 := Jo hg (i := i.toNat) (by omega)
       have r2 := Jo hg (i := j.toNat) (by omega)
       have q1 := r1.2 a.toNat (by omega)
       have q2 := r1.2 b.toNat (by omega)
       have q3 := r2.2 b.toNat (by omega)
       have q4 := r2.2 a.toNat (by omega)
       omega
      ·have hg : J0 U E = true := by simpa using b2
       obtain ⟨g1, g2, g3⟩ := Jc hg
       have r1 := Jo hg (i := i.toNat) (by omega)
       have r2 := Jo hg (i := j.toNat) (by omega)
       have q1 := r1.2 a.toNat (by omega)
       have q2 := r1.2 b.toNat (by omega)
       have q3 := r2.2 b.toNat (by omega)
       have q4 := r2.2 a.toNat (by omega)
       omega
      ·omega
      ·have hg : J0 U E = true := by simpa using b2
       obtain ⟨g1, g2, g3⟩ := Jc hg
       have r1 := Jo hg (i := i.toNat) (by omega)
       have r2 := Jo hg (i := j.toNat) (by omega)
       have q1 := r1.2 a.toNat (by omega)
       have q2 := r1.2 b.toNat (by omega)
       have q3 := r2.2 b.toNat (by omega)
       have q4 := r2.2 a.toNat (by omega)
       omega
      ·have hg : J0 U E = true := by simpa using b2
       obtain ⟨g1, g2, g3⟩ := Jc hg
       have r1 := Jo hg (i := i.toNat) (by omega)
       have r2 := Jo hg (i := j.toNat) (by omega)
       have q1 := r1.2 a.toNat (by omega)
       have q2 := r1.2 b.toNat (by omega)
       have q3 := r2.2 b.toNat (by omega)
       have q4 := r2.2 a.toNat (by omega)
       omega
      ·omega
      ·have hg : J0 U E = true := by simpa using b2
       obtain ⟨g1, g2, g3⟩ := Jc hg
       have r1 := Jo hg (i := i.toNat) (by omega)
       have r2 := Jo hg (i := j.toNat) (by omega)
       have q1 := r1.2 a.toNat (by omega)
       have q2 := r1.2 b.toNat (by omega)
       have q3 := r2.2 b.toNat (by omega)
       have q4 := r2.2 a.toNat (by omega)
       omega
      ·have hg : J0 U E = true := by simpa using b2
       obtain ⟨g1, g2, g3⟩ := Jc hg
       have r1 := Jo hg (i := i.toNat) (by omega)
       have r2 := Jo hg (i := j.toNat) (by omega)
       have q1 := r1.2 a.toNat (by omega)
       have q2 := r1.2 b.toNat (by omega)
       have q3 := r2.2 b.toNat (by omega)
       have q4 := r2.2 a.toNat (by omega)
       omega
      ·have hg : J0 U E = true := by simpa using b2
       obtain ⟨g1, g2, g3⟩ := Jc hg
       have r1 := Jo hg (i := i.toNat) (by omega)
       have r2 := Jo hg (i := j.toNat) (by omega)
       have q1 := r1.2 a.toNat (by omega)
       have q2 := r1.2 b.toNat (by omega)
       have q3 := r2.2 b.toNat (by omega)
       have q4 := r2.2 a.toNat (by omega)
       omega
      ·omega
      ·have hg : J0 U E = true := by simpa using b2
       obtain ⟨g1, g2, g3⟩ := Jc hg
       have r1 := Jo hg (i := i.toNat) (by omega)
       have r2 := Jo hg (i := j.toNat) (by omega)
       have q1 := r1.2 a.toNat (by omega)
       have q2 := r1.2 b.toNat (by omega)
       have q3 := r2.2 b.toNat (by omega)
       have q4 := r2.2 a.toNat (by omega)
       omega
      ·have hg : J0 U E = true := by simpa using b2
       obtain ⟨g1, g2, g3⟩ := Jc hg
       have r1 := Jo hg (i := i.toNat) (by omega)
       have r2 := Jo hg (i := j.toNat) (by omega)
       have q1 := r1.2 a.toNat (by omega)
       have q2 := r1.2 b.toNat (by omega)
       have q3 := r2.2 b.toNat (by omega)
       have q4 := r2.2 a.toNat (by omega)
       omega
      ·have hg : J0 U E = true := by simpa using b2
       obtain ⟨g1, g2, g3⟩ := Jc hg
       have r1 := Jo hg (i := i.toNat) (by omega)
       have r2 := Jo hg (i := j.toNat) (by omega)
       have q1 := r1.2 a.toNat (by omega)
       have q2 := r1.2 b.toNat (by omega)
       have q3 := r2.2 b.toNat (by omega)
       have q4 := r2.2 a.toNat (by omega)
       omega
      ·intro b7
       try simp only [nrmT] at b7
       refine ⟨?_, ?_⟩
       ·have e1 : Jat U.length E i.toNat j.toNat a.toNat = false := allTo_falseI k1 (by omega) (by unfold J5E; rw [decide_eq_true (by omega)]; rfl)
        have e2 : Ja6 U.length E i.toNat j.toNat = false := allTo_falseI h7 (by omega) e1
        have e3 : Jan U.length E i.toNat = false := allTo_falseI h4 (by omega) e2
        rw [show J2G U.length E = false from allTo_falseI h1 (by omega) e3, Bool.and_false]
       have hg : J0 U E = true := by simpa using b2
       obtain ⟨g1, g2, g3⟩ := Jc hg
       exact hg.symm
      intro b8
      try simp only [nrmT] at b8
      refine ⟨?_, ?_⟩
      ·omega
      refine ⟨(b + 1), ?_⟩
      refine ⟨?_, ?_, rfl, rfl, rfl, rfl, rfl, rfl, rfl, rfl, rfl, rfl, rfl, rfl, rfl, rfl, rfl⟩
      ·refine ⟨?_, ?_, ?_⟩
       ·omega
       ·omega
       ·refine allTo_step k1 k3 ?_
        unfold J5E
        rw [decide_eq_false (by omega)]; rfl
      (simp only [J14]; omega)
     intro b9
     try simp only [nrmT] at b9
     refine ⟨?_, ?_⟩
     ·omega
     refine ⟨(a + 1), ?_⟩
     refine ⟨?_, ?_, rfl, rfl, rfl, rfl, rfl, rfl, rfl, rfl, rfl, rfl, rfl, rfl⟩
     ·refine ⟨?_, ?_, ?_⟩
      ·omega
      ·omega
      ·refine allTo_step h7 h9 ?_
       show allTo _ U.length = true
       rw [← k3]; congr 1; omega
     (simp only [J19]; omega)
    intro b10
    try simp only [nrmT] at b10
    refine ⟨?_, ?_⟩
    ·omega
    refine ⟨(j + 1), ?_⟩
    refine ⟨?_, ?_, rfl, rfl, rfl, rfl, rfl, rfl, rfl, rfl, rfl⟩
    ·refine ⟨?_, ?_, ?_⟩
     ·omega
     ·omega
     ·refine allTo_step h4 h6 ?_
      show allTo _ U.length = true
      rw [← h9]; congr 1; omega
    (simp only [J18]; omega)
   intro b11
   try simp only [nrmT] at b11
   refine ⟨?_, ?_⟩
   ·omega
   refine ⟨(i + 1), ?_⟩
   refine ⟨?_, ?_, rfl, rfl, rfl, rfl, rfl⟩
   ·refine ⟨?_, ?_, ?_⟩
    ·omega
    ·omega
    ·refine allTo_step h1 h3 ?_
     show allTo _ E.length = true
     rw [← h6]; congr 1; omega
   (simp only [J1b]; omega)
  intro b12
  try simp only [nrmT] at b12
  refine ⟨?_, ?_⟩
  ·have hg : J0 U E = true := by simpa using b2
   obtain ⟨g1, g2, g3⟩ := Jc hg
   have hm : J2G U.length E = true := by
     unfold J2G
     rw [← h3]; congr 1; omega
   rw [hg, hm]; rfl
  have hg : J0 U E = true := by simpa using b2
  obtain ⟨g1, g2, g3⟩ := Jc hg
  exact hg.symm
theorem J7h (U : ZI) (E : ZR)  : PC Try.prog 58 [.agg [.sl (.ints U), .sl (.rows E)]] (.tup [.d (.bool (J0 U E && J2G U.length E)), .d (.bool (J0 U E))]) :=
  pc_wf @Try.call58 fun hw => pc_by (by kernel_rfl) Try.func58 @Try.call58 (by kernel_rfl) J81 (J7E U E) (by kernel_rfl) (J7g U E hw.1.1 hw.1.2.1.1 hw.1.2.1.2) (by kernel_rfl)
def J6H : List D → Orc := orcN [none] fun ds => match ds with
  | [.agg [.sl (.ints U), .sl (.rows E)]] => some (.tup [.d (.bool (J0 U E && J2G U.length E)), .d (.bool (J0 U E))])
  | _ => none
theorem JaS {n : Nat} {s : ZI} (h : J3 s 0 ((n : Int) - 1) = true) (hp : 0 < s.length) : s ∈ J8 n := by
  have h1 := J99 h
  unfold chs at h1
  rcases List.mem_append.1 h1 with h1 | h1
  · rw [List.mem_singleton] at h1; subst h1; simp at hp
  exact h1
theorem Ja1 {l : ZI} (h : Asc l) : l.Nodup := h.imp fun {a b} hab e => by omega
theorem Jao {l : ZI} {x : Int} (ha : Asc l) (hx : x ∉ l) : (putL l x).length = l.length + 1 := by
  have h1 := putL_len l x
  have h2 := List.Nodup.length_le_of_subset (List.nodup_cons.2 ⟨hx, Ja1 ha⟩) (fun y hy => by
    rcases List.mem_cons.1 hy with hy | hy
    · exact mem_putL.2 (.inl hy)
    exact mem_putL.2 (.inr hy) : ∀ y ∈ x :: l, y ∈ putL l x)
  rw [List.length_cons] at h2
  omega
/-- There is a site that a smaller set JaB. -/
theorem JaB {S : ZI} {n : Nat} (hl : S.length < n) : ∃ i : Nat, i < n ∧ S.contains (i : Int) = false := by
  apply Classical.byContradiction
  intro hno
  have := J9r (out := S) (n := n) fun i hi => by
    cases e : S.contains (i : Int) with
    | true => rfl
    | false => exact absurd ⟨i, hi, e⟩ hno
  omega
theorem JaK {U : ZI} {D : ZR} (hg : J0 U D = true) {S : ZI} (ha : Asc S) (hr : ∀ x ∈ S, 0 ≤ x ∧ x < (U.length : Int)) {a : Int} (h : 0 ≤ a ∧ a < (U.length : Int)) :
    (J0 U D && J3 (putL S a) 0 ((U.length : Int) - 1) && decide (0 < (putL S a).length)) = true := by
  rw [hg, J4o (asc_putL ha) (fun x hx => by
    rcases mem_putL.1 hx with hx | hx
    · omega
    have := hr x hx; omega), decide_eq_true (List.length_pos_of_mem (mem_putL.2 (.inl rfl)))]
  rfl
theorem J88 {U : ZI} {D : ZR} {k : Int} {s : ZI} (hs : J3 s 0 ((U.length : Int) - 1) = true) (hp : 0 < s.length) (hk : (s.length : Int) = k) : Jd D (Jj U D k) ≤ Jd D s :=
  J9w (v := Jd D) s (List.mem_filter.2 ⟨by rw [Int.toNat_natCast]; exact JaS hs hp, by simpa using hk⟩)
theorem J9D {U : ZI} {D : ZR} (hg : J0 U D = true) {i : Nat} (h1 : 1 ≤ i) (h2 : i < U.length) : (J9g U D U.length).getD i 0 ≤ (J9g U D U.length).getD (i - 1) 0 := by
  rw [J3l h2, J3l (show i - 1 < U.length by omega), show ((i - 1 : Nat) : Int) + 1 = (i : Int) by omega]
  obtain ⟨_, r1, r2⟩ := Jb (J83 (E := D) hg (k := (i : Int)) (by omega))
  have hl := J7Q (U := U) (E := D) (k := (i : Int)) (by omega)
  generalize Jj U D (i : Int) = S at r1 r2 hl
  obtain ⟨a, ha, hn⟩ := JaB (S := S) (n := U.length) (by omega)
  have hn2 : (a : Int) ∉ S := fun hm => by rw [List.contains_iff_mem.2 hm] at hn; cases hn
  have hS := J69 r1
  have ht := JaK hg (J3O r1) (fun x hx => by have := hS x hx; omega) (a := (a : Int)) (by omega)
  obtain ⟨_, t1, t2⟩ := Jb ht
  refine Int.le_trans (J88 t1 t2 (by rw [Jao (J3O r1) hn2]; omega)) (J9N fun j _ => J70 r2 (fun x hx => mem_putL.2 (.inr hx)) j)
theorem JaM (n k : Nat) : (List.replicate n (0 : Int)).getD k 0 = 0 := by
  simp only [List.getD_eq_getElem?_getD, List.getElem?_replicate]
  split <;> rfl
theorem J3N (D : ZR) (S : ZI) : Jd D S = Jk (Jr D S) D.length := by
  unfold Jd J1j Jk
  exact foldTo_congr fun k x hk => by rw [J2S _ _ _ _ hk]
def J90 (f : FuncId) (ds : List D) : Orc := bif Nat.beq f 18 then J4M ds else bif Nat.beq f 71 then J4p ds else .no
def J8Y (U : ZI) (E : ZR) (Open2 : ZI) (Dist2 : ZR) : Ann := .none
def J65 (U : ZI) (E : ZR) (Open2 : ZI) (Dist2 : ZR) : Prop :=
  (PC Try.prog 18 [.sl (.ints U), .sl (.ints Open2)] (.one (.d (.bool (U == Open2))))) ∧ ((U == Open2) = true → (U == Open2) = true) ∧ ((U == Open2) = true → (U == Open2) = true) ∧ ((U == Open2) = true → (U == Open2) = true) ∧ ((U == Open2) = true → (U == Open2) = true) ∧ ((U == Open2) = true → PC Try.prog 71 [.sl (.rows E), .sl (.rows Dist2)] (.one (.d (.bool (E == Dist2))))) ∧ (true = true) ∧ (((U == Open2) = true → (U == Open2) = true)) ∧ (((U == Open2) = false → true = true)) ∧ (((cond (U == Open2) (E == Dist2) false) = ((U == Open2) && (E == Dist2))))
theorem J8A (U : ZI) (E : ZR) (Open2 : ZI) (Dist2 : ZR)  (w_Open : (U.length : Int) ≤ 9223372036854775807) (w_Dist : (E.length : Int) ≤ 9223372036854775807) (v_Dist : ∀ x9 ∈ E, (x9.length : Int) ≤ 9223372036854775807) (w_Open2 : (Open2.length : Int) ≤ 9223372036854775807) (w_Dist2 : (Dist2.length : Int) ≤ 9223372036854775807) (v_Dist2 : ∀ x9 ∈ Dist2, (x9.length : Int) ≤ 9223372036854775807) : J65 U E Open2 Dist2 := by
  unfold J65
  refine ⟨J5q U Open2, id, id, id, id, fun _ => J4J E Dist2, rfl, id, fun _ => rfl, ?_⟩
  ·first | omega | rfl | (intro hg; simp only [nrmT] at hg; omega) | (intro g1 g2; simp [g1, g2]; done) | (intro g1; simp at g1 ⊢; simp [g1]; done) | (simp only [nrmT] at *; omega) | (simp at * <;> omega) | (simp_all <;> omega) | (simp_all; done)
theorem J8z (U : ZI) (E : ZR) (Open2 : ZI) (Dist2 : ZR)  : PC Try.prog 54 [.agg [.sl (.ints U), .sl (.rows E)], .agg [.sl (.ints Open2), .sl (.rows Dist2)]] (.one (.d (.bool ((U == Open2) && (E == Dist2))))) :=
  pc_wf @Try.call54 fun hw => pc_by (by kernel_rfl) Try.func54 @Try.call54 (by kernel_rfl) J90 (J8Y U E Open2 Dist2) (by kernel_rfl) (J8A U E Open2 Dist2 hw.1.1 hw.1.2.1.1 hw.1.2.1.2 hw.2.1.1 hw.2.1.2.1.1 hw.2.1.2.1.2) (by kernel_rfl)
def J7P : List D → Orc := orcN [none, none] fun ds => match ds with
  | [.agg [.sl (.ints U), .sl (.rows E)], .agg [.sl (.ints Open2), .sl (.rows Dist2)]] => some (.one (.d (.bool ((U == Open2) && (E == Dist2)))))
  | _ => none
def ldl (ss cs : ZI) (s t : Nat) : Int := max (cs.getD t 0 - ss.getD s 0) (ss.getD s 0 - cs.getD t 0)
theorem J0a {ss cs : ZI} {s t : Nat} (ht : t < cs.length) (hs : s < ss.length) : ((J6 ss cs).getD t []).getD s 0 = ldl ss cs s t := by
  rw [J9A ht, J8I hs]; rfl
/-- Which site of a set serves: the first of those that are nearest. -/
theorem J25 (row set : ZI) : ∀ K, 0 < K → ∃ p, p < K ∧ Ja row set K = set.getD p 0 ∧ (∀ q, q < K → row.getD (set.getD p 0).toNat 0 ≤ row.getD (set.getD q 0).toNat 0) ∧ ∀ q, q < p → row.getD (set.getD p 0).toNat 0 < row.getD (set.getD q 0).toNat 0
  | 0, h => absurd h (Nat.lt_irrefl 0)
  | 1, _ => ⟨0, by omega, J62 row set, fun q hq => by rw [show q = 0 by omega]; exact Int.le_refl _, fun q hq => by omega⟩
  | K + 2, _ => by
    obtain ⟨p, p1, p2, p3, p4⟩ := J25 row set (K + 1) (by omega)
    rw [J00, p2]
    unfold J1u
    by_cases e : row.getD (set.getD (K + 1) 0).toNat 0 < row.getD (set.getD p 0).toNat 0
    · rw [if_pos e]
      refine ⟨K + 1, by omega, rfl, fun q hq => ?_, fun q hq => ?_⟩
      · by_cases e2 : q = K + 1
        · rw [e2]; exact Int.le_refl _
        · have := p3 q (by omega); omega
      have := p3 q (by omega); omega
    rw [if_neg e]
    refine ⟨p, by omega, rfl, fun q hq => ?_, p4⟩
    by_cases e2 : q = K + 1
    · rw [e2]; omega
    exact p3 q (by omega)
/-- Clients further up are not served by sites further down. -/
theorem JaH {ss cs set : ZI} (hg : J4 ss cs = true) (hs : J3 set 0 ((ss.length : Int) - 1) = true) (hp : 0 < set.length) {t u : Nat} (htu : t ≤ u) (hu : u < cs.length) :
    Ja ((J6 ss cs).getD t []) set set.length ≤ Ja ((J6 ss cs).getD u []) set set.length := by
  obtain ⟨_, _, _, g4, _⟩ := J1 hg
  obtain ⟨p, p1, p2, p3, p4⟩ := J25 ((J6 ss cs).getD t []) set set.length hp
  obtain ⟨q, q1, q2, q3, q4⟩ := J25 ((J6 ss cs).getD u []) set set.length hp
  rw [p2, q2]
  by_cases e : p ≤ q
  · by_cases e2 : p = q
    · rw [e2]; exact Int.le_refl _
    · exact Int.le_of_lt (JZ hs (by omega) q1)
  exfalso
  have h1 := Ji hs p p1
  have h2 := Ji hs q q1
  have h3 := JZ hs (show q < p by omega) p1
  have h4 := JZ g4 (show (set.getD q 0).toNat < (set.getD p 0).toNat by omega) (by omega)
  have h5 := p4 q (by omega)
  have h6 := q3 p p1
  have h7 := J6Y hg htu hu
  rw [J0a (by omega) (by omega), J0a (by omega) (by omega)] at h5 h6
  unfold ldl at h5 h6
  omega
/-- How many clients, from the first on, are served by sites below x. -/
def J2o (q : Nat → Int) (x : Int) : Nat → Nat
  | 0 => 0
  | k + 1 => if J2o q x k = k ∧ q k < x then k + 1 else J2o q x k
theorem J4S (q : Nat → Int) (x : Int) : ∀ k, J2o q x k ≤ k
  | 0 => Nat.le_refl _
  | k + 1 => by
    have := J4S q x k
    show (if J2o q x k = k ∧ q k < x then k + 1 else J2o q x k) ≤ k + 1
    split <;> omega
theorem J74 {q : Nat → Int} {x : Int} : ∀ m, (∀ t u, t ≤ u → u < m → q t ≤ q u) → ∀ t, t < m → (q t < x ↔ t < J2o q x m)
  | 0, _, t, ht => by omega
  | m + 1, hm, t, ht => by
    have ih := J74 (x := x) m (fun t u h1 h2 => hm t u h1 (by omega))
    have hle := J4S q x m
    show q t < x ↔ t < (if J2o q x m = m ∧ q m < x then m + 1 else J2o q x m)
    by_cases e : J2o q x m = m ∧ q m < x
    · rw [if_pos e]
      have := hm t m (by omega) (by omega)
      omega
    rw [if_neg e]
    by_cases e2 : t = m
    · subst e2
      constructor
      · intro h
        exfalso
        refine e ⟨?_, h⟩
        by_cases e3 : t = 0
        · omega
        have h1 := (ih (t - 1) (by omega)).1 (by have := hm (t - 1) t (by omega) (by omega); omega)
        omega
      intro h; omega
    exact ih t (by omega)
theorem J2m : ∀ (m : Nat) {p : Nat → Bool} {lo hi : Nat}, lo ≤ hi → hi ≤ m → (∀ t, t < m → (p t = true ↔ lo ≤ t ∧ t < hi)) → (members p m).length = hi - lo ∧ ∀ j, j < hi - lo → (members p m).getD j 0 = ((lo + j : Nat) : Int)
  | 0, p, lo, hi, h1, h2, _ => ⟨by simp [members]; omega, fun j hj => by omega⟩
  | m + 1, p, lo, hi, h1, h2, h => by
    rw [members_succ]
    by_cases e : hi ≤ m
    · obtain ⟨i1, i2⟩ := J2m m h1 e fun t ht => h t (by omega)
      have hp : p m = false := by
        cases hx : p m with
        | false => rfl
        | true => have := (h m (by omega)).1 hx; omega
      rw [hp, if_neg (by decide), List.append_nil]
      exact ⟨i1, i2⟩
    have ehi : hi = m + 1 := by omega
    subst ehi
    by_cases e2 : lo ≤ m
    · obtain ⟨i1, i2⟩ := J2m m e2 (Nat.le_refl m) (fun t ht => by rw [h t (by omega)]; omega)
      have hp : p m = true := (h m (by omega)).2 ⟨e2, by omega⟩
      rw [hp, if_pos rfl]
      refine ⟨by rw [List.length_append, i1]; simp; omega, fun j hj => ?_⟩
      rw [J75 (by rw [List.length_append, i1]; simp; omega), i1]
      by_cases e3 : j < m - lo
      · rw [if_pos e3, i2 j e3]
      rw [if_neg e3]; congr 1; omega
    have elo : lo = m + 1 := by omega
    subst elo
    obtain ⟨i1, i2⟩ := J2m m (Nat.le_refl m) (Nat.le_refl m) (p := p) (fun t ht => by rw [h t (by omega)]; omega)
    have hp : p m = false := by
      cases hx : p m with
      | false => rfl
      | true => have := (h m (by omega)).1 hx; omega
    rw [hp, if_neg (by decide), List.append_nil]
    exact ⟨by rw [i1]; omega, fun j hj => by omega⟩
/-- The clients that each site of a set serves. -/
def clL (D : ZR) (set : ZI) : ZR := tabTo (fun k => members (fun i => decide (Ja (D.getD i []) set set.length = set.getD k 0)) D.length) set.length
def clC (D : ZR) (set : ZI) (k : Nat) : Nat := if k < set.length then J2o (fun t => Ja (D.getD t []) set set.length) (set.getD k 0) D.length else D.length
theorem J2Z {ss cs set : ZI} (hg : J4 ss cs = true) (hs : J3 set 0 ((ss.length : Int) - 1) = true) (hp : 0 < set.length) :
    clC (J6 ss cs) set 0 = 0 ∧ ∀ k, k < set.length → ((clL (J6 ss cs) set).getD k []).length = clC (J6 ss cs) set (k + 1) - clC (J6 ss cs) set k ∧ clC (J6 ss cs) set k ≤ clC (J6 ss cs) set (k + 1) ∧ clC (J6 ss cs) set (k + 1) ≤ cs.length ∧ ∀ j, j < clC (J6 ss cs) set (k + 1) - clC (J6 ss cs) set k → ((clL (J6 ss cs) set).getD k []).getD j 0 = ((clC (J6 ss cs) set k + j : Nat) : Int) := by
  have hl := J3k ss cs
  have mono : ∀ t u, t ≤ u → u < (J6 ss cs).length → Ja ((J6 ss cs).getD t []) set set.length ≤ Ja ((J6 ss cs).getD u []) set set.length := fun t u h1 h2 => JaH hg hs hp h1 (by omega)
  have hin : ∀ t, ∃ p, p < set.length ∧ Ja ((J6 ss cs).getD t []) set set.length = set.getD p 0 := fun t => by
    obtain ⟨p, p1, p2, _⟩ := J25 ((J6 ss cs).getD t []) set set.length hp
    exact ⟨p, p1, p2⟩
  have hc : ∀ k, k < set.length → ∀ t, t < (J6 ss cs).length → (Ja ((J6 ss cs).getD t []) set set.length < set.getD k 0 ↔ t < clC (J6 ss cs) set k) := fun k hk t ht => by
    unfold clC
    rw [if_pos hk]
    exact J74 _ mono t ht
  have hcl : ∀ k, clC (J6 ss cs) set k ≤ (J6 ss cs).length := fun k => by
    unfold clC
    split
    · exact J4S _ _ _
    exact Nat.le_refl _
  have hlt : ∀ p q, p < set.length → q < set.length → (set.getD p 0 < set.getD q 0 ↔ p < q) := fun p q h1 h2 => by
    constructor
    · intro h
      apply Classical.byContradiction
      intro hn
      by_cases e : p = q
      · subst e; omega
      have := JZ hs (show q < p by omega) h1; omega
    intro h; exact JZ hs h h2
  refine ⟨?_, fun k hk => ?_⟩
  · apply Classical.byContradiction
    intro hn
    have h1 := hcl 0
    obtain ⟨p, p1, p2⟩ := hin 0
    have h2 := (hc 0 hp 0 (by omega)).2 (by omega)
    rw [p2, hlt p 0 p1 hp] at h2
    omega
  have key : ∀ t, t < (J6 ss cs).length → (Ja ((J6 ss cs).getD t []) set set.length ≤ set.getD k 0 ↔ t < clC (J6 ss cs) set (k + 1)) := fun t ht => by
    obtain ⟨p, p1, p2⟩ := hin t
    by_cases e : k + 1 < set.length
    · rw [← hc (k + 1) e t ht, p2, hlt p (k + 1) p1 e]
      have h1 := hlt k p hk p1
      omega
    unfold clC
    rw [if_neg e, p2]
    have h1 := hlt k p hk p1
    omega
  have hle : clC (J6 ss cs) set k ≤ clC (J6 ss cs) set (k + 1) := by
    apply Classical.byContradiction
    intro hn
    have h1 := hcl k
    have h2 := (hc k hk (clC (J6 ss cs) set (k + 1)) (by omega)).2 (by omega)
    have h3 := (key (clC (J6 ss cs) set (k + 1)) (by omega)).1 (by omega)
    omega
  obtain ⟨m1, m2⟩ := J2m (J6 ss cs).length (p := fun i => decide (Ja ((J6 ss cs).getD i []) set set.length = set.getD k 0)) hle (hcl (k + 1)) fun t ht => by
    rw [decide_eq_true_eq, ← key t ht]
    have := hc k hk t ht
    omega
  have e : (clL (J6 ss cs) set).getD k [] = members (fun i => decide (Ja ((J6 ss cs).getD i []) set set.length = set.getD k 0)) (J6 ss cs).length := tabTo_get hk
  rw [e]
  exact ⟨m1, hle, by have := hcl (k + 1); omega, m2⟩
/-- What the clients from j up to i cost at a site. -/
def JN (ss cs : ZI) (s j i : Nat) : Int := Jk (ldl ss cs s) i - Jk (ldl ss cs s) j
def dpF (T : Nat → Int) (ss cs : ZI) (s i : Nat) (e : Int) (d : Nat) : Int := if 0 ≤ T (i - d) ∧ (e < 0 ∨ T (i - d) + JN ss cs s (i - d) i < e) then T (i - d) + JN ss cs s (i - d) i else e
def dpR (T : Nat → Int) (ss cs : ZI) (s i : Nat) (e : Int) (n : Nat) : Int := foldTo (dpF T ss cs s i) e n
theorem J80 (T : Nat → Int) (ss cs : ZI) (s i : Nat) (e : Int) (n : Nat) : dpR T ss cs s i e (n + 1) = dpF T ss cs s i (dpR T ss cs s i e n) n := rfl
/-- The table: the least sum for the first i clients that at most c of the first s sites serve; below 0 if none is told. -/
def dpT (ss cs : ZI) : Nat → Nat → Nat → Int
  | 0, _, i => if i = 0 then 0 else -1
  | s + 1, 0, i => dpT ss cs s 0 i
  | s + 1, c + 1, i => dpR (dpT ss cs s c) ss cs s i (dpT ss cs s (c + 1) i) (i + 1)
theorem J4s (ss cs : ZI) (s c i : Nat) : dpT ss cs (s + 1) (c + 1) i = dpR (dpT ss cs s c) ss cs s i (dpT ss cs s (c + 1) i) (i + 1) := rfl
theorem J8M (ss cs : ZI) : ∀ s i, dpT ss cs s 0 i = if i = 0 then 0 else -1
  | 0, i => rfl
  | s + 1, i => J8M ss cs s i
theorem J5e {ss cs : ZI} {s j i : Nat} (h : j ≤ i) : 0 ≤ JN ss cs s j i := by
  have key : ∀ d, Jk (ldl ss cs s) j ≤ Jk (ldl ss cs s) (j + d) := fun d => by
    induction d with
    | zero => exact Int.le_refl _
    | succ d ih =>
      rw [← Nat.add_assoc, J0x]
      have : 0 ≤ ldl ss cs s (j + d) := by unfold ldl; omega
      omega
  have := key (i - j)
  rw [show j + (i - j) = i by omega] at this
  unfold JN
  omega
theorem J3u {T : Nat → Int} {ss cs : ZI} {s i : Nat} {e : Int} : ∀ n, n ≤ i + 1 →
    (dpR T ss cs s i e n = e ∨ ∃ j, j ≤ i ∧ 0 ≤ T j ∧ dpR T ss cs s i e n = T j + JN ss cs s j i) ∧ (0 ≤ e → 0 ≤ dpR T ss cs s i e n ∧ dpR T ss cs s i e n ≤ e) ∧ ∀ d, d < n → 0 ≤ T (i - d) → 0 ≤ dpR T ss cs s i e n ∧ dpR T ss cs s i e n ≤ T (i - d) + JN ss cs s (i - d) i
  | 0, _ => ⟨.inl rfl, fun h => ⟨h, Int.le_refl _⟩, fun d hd => absurd hd (Nat.not_lt_zero d)⟩
  | n + 1, hn => by
    obtain ⟨h1, h2, h3⟩ := J3u (T := T) (ss := ss) (cs := cs) (s := s) (i := i) (e := e) n (by omega)
    have hs := J5e (ss := ss) (cs := cs) (s := s) (show i - n ≤ i by omega)
    rw [J80]
    generalize dpR T ss cs s i e n = r at h1 h2 h3 ⊢
    unfold dpF
    by_cases c : 0 ≤ T (i - n) ∧ (r < 0 ∨ T (i - n) + JN ss cs s (i - n) i < r)
    · rw [if_pos c]
      refine ⟨.inr ⟨i - n, by omega, c.1, rfl⟩, fun he => ?_, fun d hd ht => ?_⟩
      · have := h2 he; omega
      by_cases e2 : d = n
      · subst e2; omega
      · have := h3 d (by omega) ht; omega
    rw [if_neg c]
    refine ⟨h1, h2, fun d hd ht => ?_⟩
    by_cases e2 : d = n
    · subst e2; omega
    exact h3 d (by omega) ht
theorem J8O {ss cs : ZI} (hg : J4 ss cs = true) {s j i : Nat} (hs : s < ss.length) (hji : j ≤ i) (hi : i ≤ cs.length) : JN ss cs s j i ≤ 99 * ((i : Int) - j) := by
  obtain ⟨_, _, _, g4, g5⟩ := J1 hg
  have key : ∀ d, j + d ≤ i → Jk (ldl ss cs s) (j + d) ≤ Jk (ldl ss cs s) j + 99 * d := fun d => by
    induction d with
    | zero => intro _; simp
    | succ d ih =>
      intro hd
      rw [← Nat.add_assoc, J0x]
      have h1 := ih (by omega)
      have h2 := g5 (j + d) (by omega)
      have h3 := Ji g4 s hs
      have : ldl ss cs s (j + d) ≤ 99 := by unfold ldl; omega
      omega
  have := key (i - j) (by omega)
  rw [show j + (i - j) = i by omega] at this
  unfold JN
  omega
theorem J5N {ss cs : ZI} (hg : J4 ss cs = true) : ∀ s, s ≤ ss.length → ∀ c i, i ≤ cs.length → -1 ≤ dpT ss cs s c i ∧ dpT ss cs s c i ≤ 99 * (i : Int)
  | 0, _, c, i, _ => by
    show -1 ≤ (if i = 0 then (0 : Int) else -1) ∧ (if i = 0 then (0 : Int) else -1) ≤ _
    split <;> omega
  | s + 1, hs, 0, i, hi => J5N hg s (by omega) 0 i hi
  | s + 1, hs, c + 1, i, hi => by
    have h0 := J5N hg s (by omega) (c + 1) i hi
    rw [J4s]
    rcases (J3u (T := dpT ss cs s c) (ss := ss) (cs := cs) (s := s) (i := i) (e := dpT ss cs s (c + 1) i) (i + 1) (Nat.le_refl _)).1 with h | ⟨j, h1, h2, h3⟩
    · rw [h]; exact h0
    rw [h3]
    have := J5N hg s (by omega) c j (by omega)
    have := J8O hg (s := s) (by omega) h1 hi
    have := J5e (ss := ss) (cs := cs) (s := s) h1
    omega
theorem J47 {f g : Nat → Int} {i j : Nat} (hj : j ≤ i) (h1 : ∀ t, t < i → j ≤ t → f t ≤ g t) : Jk f i - Jk f j ≤ Jk g i - Jk g j := by
  have key : ∀ d, j + d ≤ i → Jk f (j + d) - Jk f j ≤ Jk g (j + d) - Jk g j := fun d => by
    induction d with
    | zero => intro _; simp
    | succ d ih =>
      intro hd
      rw [← Nat.add_assoc, J0x, J0x]
      have := ih (by omega)
      have := h1 (j + d) (by omega) (by omega)
      omega
  have := key (i - j) (by omega)
  rwa [show j + (i - j) = i by omega] at this
/-- Each number of the table is that of some sites. -/
theorem J5m {ss cs : ZI} : ∀ s, s ≤ ss.length → ∀ c i, i ≤ cs.length → 0 ≤ dpT ss cs s c i → ∃ S : ZI, Asc S ∧ (∀ x ∈ S, 0 ≤ x ∧ x < (s : Int)) ∧ S.length ≤ c ∧ (0 < S.length ∨ i = 0) ∧ Jk (Jr (J6 ss cs) S) i ≤ dpT ss cs s c i
  | 0, _, c, i, _, h => by
    have e : dpT ss cs 0 c i = if i = 0 then 0 else -1 := rfl
    rw [e] at h ⊢
    by_cases q : i = 0
    · rw [if_pos q]
      subst q
      exact ⟨[], List.Pairwise.nil, fun x hx => (by cases hx), Nat.zero_le _, .inr rfl, Int.le_refl _⟩
    rw [if_neg q] at h; omega
  | s + 1, hs, 0, i, hi, h => by
    obtain ⟨S, h1, h2, h3, h4, h5⟩ := J5m s (by omega) 0 i hi h
    exact ⟨S, h1, fun x hx => by have := h2 x hx; omega, h3, h4, h5⟩
  | s + 1, hs, c + 1, i, hi, h => by
    rw [J4s] at h ⊢
    rcases (J3u (T := dpT ss cs s c) (ss := ss) (cs := cs) (s := s) (i := i) (e := dpT ss cs s (c + 1) i) (i + 1) (Nat.le_refl _)).1 with hr | ⟨j, j1, j2, j3⟩
    · rw [hr] at h ⊢
      obtain ⟨S, h1, h2, h3, h4, h5⟩ := J5m s (by omega) (c + 1) i hi h
      exact ⟨S, h1, fun x hx => by have := h2 x hx; omega, h3, h4, h5⟩
    rw [j3]
    obtain ⟨S, h1, h2, h3, h4, h5⟩ := J5m s (by omega) c j (by omega) j2
    have hm : ((s : Nat) : Int) ∈ S ++ [(s : Int)] := List.mem_append_right _ (List.mem_singleton.2 rfl)
    refine ⟨S ++ [(s : Int)], ?_, fun x hx => ?_, by simp; omega, .inl (by simp), ?_⟩
    · refine List.pairwise_append.2 ⟨h1, List.pairwise_singleton _ _, fun a ha b hb => ?_⟩
      rw [List.mem_singleton.1 hb]
      exact (h2 a ha).2
    · rcases List.mem_append.1 hx with hx | hx
      · have := h2 x hx; omega
      · rw [List.mem_singleton.1 hx]; omega
    have a1 : Jk (Jr (J6 ss cs) (S ++ [(s : Int)])) j ≤ Jk (Jr (J6 ss cs) S) j := J5j _ fun t ht => by
      refine J70 (by omega) (fun x hx => List.mem_append_left _ hx) t
    have a2 : Jk (Jr (J6 ss cs) (S ++ [(s : Int)])) i - Jk (Jr (J6 ss cs) (S ++ [(s : Int)])) j ≤ JN ss cs s j i := J47 j1 fun t ht _ => by
      have := J3b (D := J6 ss cs) hm t
      rwa [Int.toNat_natCast, J0a (by omega) (by omega)] at this
    omega
theorem J9X {b : Nat → Prop} : ∀ i, (∀ t u, t ≤ u → u < i → b t → b u) → ∃ j, j ≤ i ∧ ∀ t, t < i → (b t ↔ j ≤ t)
  | 0, _ => ⟨0, Nat.le_refl _, fun t ht => by omega⟩
  | i + 1, h => by
    obtain ⟨j, j1, j2⟩ := J9X i fun t u h1 h2 => h t u h1 (by omega)
    by_cases e : j < i
    · refine ⟨j, by omega, fun t ht => ?_⟩
      by_cases e2 : t = i
      · subst e2
        exact ⟨fun _ => by omega, fun _ => h j t (by omega) (by omega) ((j2 j e).2 (Nat.le_refl _))⟩
      exact j2 t (by omega)
    have ej : j = i := by omega
    subst ej
    rcases Classical.em (b j) with hb | hb
    · refine ⟨j, by omega, fun t ht => ?_⟩
      by_cases e2 : t = j
      · subst e2; exact ⟨fun _ => Nat.le_refl _, fun _ => hb⟩
      exact j2 t (by omega)
    refine ⟨j + 1, Nat.le_refl _, fun t ht => ?_⟩
    by_cases e2 : t = j
    · subst e2; exact ⟨fun h => absurd h hb, fun h => by omega⟩
    rw [j2 t (by omega)]; omega
/-- No sites serve for less than the table tells. -/
theorem J5o {ss cs : ZI} (hg : J4 ss cs = true) : ∀ s, s ≤ ss.length → ∀ c i, i ≤ cs.length → ∀ S : ZI, Asc S → (∀ x ∈ S, 0 ≤ x ∧ x < (s : Int)) → S.length ≤ c → (0 < S.length ∨ i = 0) → 0 ≤ dpT ss cs s c i ∧ dpT ss cs s c i ≤ Jk (Jr (J6 ss cs) S) i
  | s, hs, 0, i, hi, S, _, _, h3, hc => by
    have : i = 0 := by omega
    subst this
    rw [J8M, if_pos rfl]
    exact ⟨Int.le_refl _, Int.le_refl _⟩
  | 0, hs, c + 1, i, hi, S, h1, h2, h3, hc => by
    by_cases hp : 0 < S.length
    · exfalso
      obtain ⟨x, hx⟩ := List.exists_mem_of_length_pos hp
      have := h2 x hx
      omega
    have : i = 0 := by omega
    subst this
    exact ⟨Int.le_refl _, Int.le_refl _⟩
  | s + 1, hs, c + 1, i, hi, S, h1, h2, h3, hc => by
    obtain ⟨_, f2, f3⟩ := J3u (T := dpT ss cs s c) (ss := ss) (cs := cs) (s := s) (i := i) (e := dpT ss cs s (c + 1) i) (i + 1) (Nat.le_refl _)
    rw [J4s]
    by_cases hm : (s : Int) ∈ S
    · have hcand : ∃ j, j ≤ i ∧ 0 ≤ dpT ss cs s c j ∧ dpT ss cs s c j + JN ss cs s j i ≤ Jk (Jr (J6 ss cs) S) i := by
        obtain ⟨S', rfl⟩ : ∃ S', S = S' ++ [(s : Int)] := by
          have hne : S ≠ [] := fun e => by rw [e] at hm; cases hm
          refine ⟨S.dropLast, ?_⟩
          have hlast : S.getLast hne = (s : Int) := by
            have g1 := h2 _ (List.getLast_mem hne)
            obtain ⟨k, hk, e⟩ := List.mem_iff_getElem.1 hm
            rw [List.getLast_eq_getElem] at g1 ⊢
            by_cases q : k = S.length - 1
            · subst q; exact e
            have := List.pairwise_iff_getElem.1 h1 k (S.length - 1) hk (by omega) (by omega)
            omega
          rw [← hlast]
          exact (List.dropLast_concat_getLast hne).symm
        have p := List.pairwise_append.1 h1
        have hS' : ∀ x ∈ S', 0 ≤ x ∧ x < (s : Int) := fun x hx => ⟨(h2 x (List.mem_append_left _ hx)).1, p.2.2 x hx _ (List.mem_singleton.2 rfl)⟩
        have hlen : S'.length ≤ c := by simpa using h3
        by_cases e0 : S'.length = 0
        · have ih := J5o hg s (by omega) c 0 (by omega) [] List.Pairwise.nil (fun x hx => (by cases hx)) (Nat.zero_le _) (.inr rfl)
          have z0 : Jk (Jr (J6 ss cs) []) 0 = 0 := rfl
          have hz : dpT ss cs s c 0 = 0 := by omega
          refine ⟨0, by omega, by omega, ?_⟩
          rw [hz]
          have hS0 : S' = [] := List.length_eq_zero_iff.1 e0
          subst hS0
          have : Jk (ldl ss cs s) i - Jk (ldl ss cs s) 0 ≤ Jk (Jr (J6 ss cs) [(s : Int)]) i - Jk (Jr (J6 ss cs) [(s : Int)]) 0 := J47 (by omega) fun t ht _ => by
            obtain ⟨a, a1, a2⟩ := J33 (D := J6 ss cs) (s := [(s : Int)]) (by simp) t
            rw [List.mem_singleton.1 a1, Int.toNat_natCast, J0a (by omega) (by omega)] at a2
            omega
          have z1 : Jk (Jr (J6 ss cs) [(s : Int)]) 0 = 0 := rfl
          unfold JN
          show 0 + _ ≤ Jk (Jr (J6 ss cs) [(s : Int)]) i
          omega
        obtain ⟨_, _, _, g4, _⟩ := J1 hg
        have mono : ∀ t u, t ≤ u → u < i → ldl ss cs s t < Jr (J6 ss cs) S' t → ldl ss cs s u < Jr (J6 ss cs) S' u := fun t u h4 h5 h6 => by
          obtain ⟨a, a1, a2⟩ := J33 (D := J6 ss cs) (s := S') (by omega) u
          have a3 := hS' a a1
          have a4 := J3b (D := J6 ss cs) a1 t
          rw [J0a (by omega) (by omega)] at a2 a4
          have a5 := JZ g4 (show a.toNat < s by omega) (by omega)
          have a6 := J6Y hg h4 (by omega)
          rw [a2]
          unfold ldl at h6 a4 ⊢
          omega
        obtain ⟨j, j1, j2⟩ := J9X i mono
        have ih := J5o hg s (by omega) c j (by omega) S' p.1 hS' hlen (.inl (by omega))
        refine ⟨j, j1, ih.1, ?_⟩
        have b1 : Jk (Jr (J6 ss cs) S') j ≤ Jk (Jr (J6 ss cs) (S' ++ [(s : Int)])) j := J5j _ fun t ht => by
          obtain ⟨a, a1, a2⟩ := J33 (D := J6 ss cs) (s := S' ++ [(s : Int)]) (by simp) t
          rw [a2]
          rcases List.mem_append.1 a1 with a1 | a1
          · exact J3b a1 t
          rw [List.mem_singleton.1 a1, Int.toNat_natCast, J0a (by omega) (by omega)]
          have := mt (j2 t (by omega)).1 (by omega)
          omega
        have b2 : Jk (ldl ss cs s) i - Jk (ldl ss cs s) j ≤ Jk (Jr (J6 ss cs) (S' ++ [(s : Int)])) i - Jk (Jr (J6 ss cs) (S' ++ [(s : Int)])) j := J47 j1 fun t ht hjt => by
          have h7 := (j2 t ht).2 hjt
          obtain ⟨a, a1, a2⟩ := J33 (D := J6 ss cs) (s := S' ++ [(s : Int)]) (by simp) t
          rw [a2]
          rcases List.mem_append.1 a1 with a1 | a1
          · have := J3b (D := J6 ss cs) a1 t
            omega
          rw [List.mem_singleton.1 a1, Int.toNat_natCast, J0a (by omega) (by omega)]
          exact Int.le_refl _
        unfold JN
        omega
      obtain ⟨j, j1, j2, j3⟩ := hcand
      have := f3 (i - j) (by omega)
      rw [show i - (i - j) = j by omega] at this
      have := this j2
      omega
    have ih := J5o hg s (by omega) (c + 1) i hi S h1 (fun x hx => by
      have h4 := h2 x hx
      have h5 : x ≠ (s : Int) := fun e => hm (e ▸ hx)
      omega) h3 hc
    have := f2 ih.1
    omega
theorem J7G {O : ZI} {D : ZR} (hg : J0 O D = true) {i : Nat} (h1 : 1 ≤ i) : ∀ d, i + d ≤ O.length → Jd D (Jj O D ((i + d : Nat) : Int)) ≤ Jd D (Jj O D (i : Int))
  | 0, _ => Int.le_refl _
  | d + 1, hd => by
    have h2 := J7G hg h1 d (by omega)
    have h3 := J9D hg (i := i + d) (by omega) (by omega)
    rw [J3l (by omega), J3l (by omega), show ((i + d - 1 : Nat) : Int) + 1 = ((i + d : Nat) : Int) by omega, show ((i + d : Nat) : Int) + 1 = ((i + (d + 1) : Nat) : Int) by omega] at h3
    omega
theorem JaV {ss cs : ZI} (hg : J4 ss cs = true) {k : Int} (hk : 1 ≤ k ∧ k ≤ (ss.length : Int)) {O : ZI} (ho : O.length = ss.length) (hf : J0 O (J6 ss cs) = true) : dpT ss cs ss.length k.toNat cs.length = Jd (J6 ss cs) (Jj O (J6 ss cs) k) := by
  have hk2 : 1 ≤ k ∧ k ≤ (O.length : Int) := by omega
  have hm := J6u (E := J6 ss cs) hk2
  have hml := J7Q (U := O) (E := J6 ss cs) hk2
  obtain ⟨q, _, _, hq⟩ := J3s.1 hm
  have hasc : Asc (Jj O (J6 ss cs) k) := by rw [← hq]; exact asc_members _ _
  have hin : ∀ x ∈ Jj O (J6 ss cs) k, 0 ≤ x ∧ x < (ss.length : Int) := fun x hx => by
    rw [← hq] at hx
    have := mem_members.1 hx
    omega
  have hl := J3k ss cs
  have up := J5o hg ss.length (Nat.le_refl _) k.toNat cs.length (Nat.le_refl _) _ hasc hin (by omega) (.inl (by omega))
  obtain ⟨S, s1, s2, s3, s4, s5⟩ := J5m ss.length (Nat.le_refl _) k.toNat cs.length (Nat.le_refl _) up.1
  have low : Jd (J6 ss cs) (Jj O (J6 ss cs) k) ≤ Jk (Jr (J6 ss cs) S) cs.length := by
    by_cases hp : 0 < S.length
    · have hr : J3 S 0 ((O.length : Int) - 1) = true := J4o s1 fun x hx => by have := s2 x hx; omega
      have h1 := J88 (U := O) (D := J6 ss cs) (k := (S.length : Int)) hr hp rfl
      have h2 := J7G hf (i := S.length) hp (k.toNat - S.length) (by omega)
      rw [show ((S.length + (k.toNat - S.length) : Nat) : Int) = k by omega] at h2
      rw [J3N (J6 ss cs) S, hl] at h1
      omega
    have h0 : cs.length = 0 := by omega
    rw [J3N, hl, h0]
    exact Int.le_refl _
  rw [J3N, hl] at low ⊢
  omega
def coL (O : ZI) (D : ZR) (set : ZI) : ZR := if (J0 O D && J3 set 0 ((O.length : Int) - 1) && decide (0 < set.length)) = true then clL D set else []
/-- The clients before i that each site of a set serves. -/
def J2D (D : ZR) (set : ZI) (i : Nat) : ZR := tabTo (fun k => members (fun t => decide (Ja (D.getD t []) set set.length = set.getD k 0)) i) set.length
theorem JO (D : ZR) (set : ZI) (i : Nat) : (J2D D set i).length = set.length := tabTo_len _ _
theorem J9V (D : ZR) (set : ZI) : J2D D set 0 = List.replicate set.length [] := by
  unfold J2D tabTo
  rw [List.eq_replicate_iff]
  refine ⟨by simp, fun b hb => ?_⟩
  obtain ⟨k, _, rfl⟩ := List.mem_map.1 hb
  rfl
theorem J3P {D : ZR} {set : ZI} {i k : Nat} (hk : k < set.length) : (J2D D set i).getD k [] = members (fun t => decide (Ja (D.getD t []) set set.length = set.getD k 0)) i := tabTo_get hk
theorem J9Z {O : ZI} {D : ZR} {set : ZI} (hs : J3 set 0 ((O.length : Int) - 1) = true) {i k : Nat} (hk : k < set.length) (he : set.getD k 0 = Ja (D.getD i []) set set.length) :
    (J2D D set i).set k ((J2D D set i).getD k [] ++ [(i : Int)]) = J2D D set (i + 1) := by
  refine List.ext_getElem (by rw [List.length_set, JO, JO]) fun j h1 h2 => ?_
  rw [List.length_set, JO] at h1
  rw [← JR (d := []) (show j < (J2D D set (i + 1)).length by rw [JO]; exact h1), J3P h1, members_succ, List.getElem_set]
  by_cases e : k = j
  · subst e
    rw [if_pos rfl, J3P hk, if_pos (decide_eq_true he.symm)]
  rw [if_neg e, ← JR (d := []) (show j < (J2D D set i).length by rw [JO]; exact h1), J3P h1, if_neg, List.append_nil]
  intro hd
  have hd := of_decide_eq_true hd
  rcases Nat.lt_or_gt_of_ne e with h | h
  · have := JZ hs h h1; omega
  have := JZ hs h hk; omega
theorem J8h {D : ZR} {set : ZI} (i k : Nat) : ((J2D D set i).getD k []).length ≤ i := by
  by_cases hk : k < set.length
  · rw [J3P hk]; exact members_len_le _ _
  have : (J2D D set i).getD k [] = [] := by
    rw [List.getD_eq_getElem?_getD, List.getElem?_eq_none (by rw [JO]; omega)]; rfl
  rw [this]; exact Nat.zero_le _
def lmB (ss cs : ZI) (k : Int) : Bool := J4 ss cs && inB k 1 (ss.length : Int)
def lmS (ss cs : ZI) (k : Int) : ZI := Jj (List.replicate ss.length 0) (J6 ss cs) k
def lmV (ss cs : ZI) (k : Int) : Int := if lmB ss cs k = true then Jd (J6 ss cs) (lmS ss cs k) else 0
def lgL (ss cs : ZI) (k : Int) : ZR := if lmB ss cs k = true then clL (J6 ss cs) (lmS ss cs k) else []
theorem J1F {ss cs : ZI} (h : J4 ss cs = true) : J0 (List.replicate ss.length 0) (J6 ss cs) = true := by
  obtain ⟨g1, g2, g3, g4, g5⟩ := J1 h
  unfold J0
  have h1 : inB ((List.replicate ss.length (0 : Int)).length : Int) 1 7 = true := by unfold inB; simp; omega
  have h2 : (List.replicate ss.length (0 : Int)).all (fun x => inB x 0 99) = true := by
    rw [List.all_eq_true]
    intro x hx
    rw [(List.mem_replicate.1 hx).2]; decide
  have h3 : (J6 ss cs).all (fun l => Jg l ((List.replicate ss.length (0 : Int)).length : Int) 99) = true := by
    rw [List.all_eq_true]
    intro l hl
    obtain ⟨j, hj, rfl⟩ := List.mem_map.1 hl
    have hj := List.mem_range.1 hj
    unfold Jg
    rw [J8j, List.length_replicate, decide_eq_true rfl, Bool.and_true, List.all_eq_true]
    intro x hx
    obtain ⟨a, ha, rfl⟩ := List.mem_map.1 hx
    have ha := List.mem_range.1 ha
    have c1 := g5 j hj
    have c2 := Ji g4 a ha
    refine decide_eq_true ?_
    omega
  rw [h1, h2, h3, J3k, decide_eq_true g3]; rfl
theorem J2 {ss cs : ZI} {k : Int} (h : lmB ss cs k = true) : J4 ss cs = true ∧ inB k 1 (ss.length : Int) = true ∧ (1 ≤ k ∧ k ≤ (ss.length : Int)) ∧ J0 (List.replicate ss.length 0) (J6 ss cs) = true ∧
    (J0 (List.replicate ss.length 0) (J6 ss cs) && J3 (lmS ss cs k) 0 (((List.replicate ss.length (0 : Int)).length : Int) - 1) && decide (0 < (lmS ss cs k).length)) = true := by
  have h2 := (Bool.and_eq_true _ _ ▸ (show (J4 ss cs && inB k 1 (ss.length : Int)) = true from h) : _ ∧ _)
  have hk := J0A h2.2
  have hg := J1F h2.1
  exact ⟨h2.1, h2.2, hk, hg, J83 (E := J6 ss cs) hg (k := k) (by rw [List.length_replicate]; exact hk)⟩
abbrev J0k (U : ZI) (E : ZR) (set : ZI) (site : Int) (out : ZI) (i : Int) : Prop := (0 ≤ i ∧ i ≤ (E.length : Int)) ∧ (out = members (fun i9 => decide (Ja (E.getD i9 []) set set.length = site)) i.toNat)
abbrev Jy (U : ZI) (E : ZR) (set : ZI) (site : Int) (out : ZI) (i : Int) : Nat := (E.length - i).toNat
def J7q (f : FuncId) (ds : List D) : Orc := bif Nat.beq f 238 then J4k ds else .no
def J7m (U : ZI) (E : ZR) (set : ZI) (site : Int) : Ann := .two (.none) (.two (.none) (.two (.two (.none) (.loop (cut2 (fun (out : ZI) (i : Int) => J0k U E set site out i) (fun (out : ZI) (i : Int) => [(1, .d false (.sl (.ints set))), (2, .d false (.int .i64 site)), (3, .ptr 3 0), (7, .own 1000000 out.length), (8, .d true (.int .i64 i))]) (fun (out : ZI) (i : Int) => [(1000000, .arr true 3 (.ints out)), (3, .box 39 [.d false (.sl (.ints U)), .d false (.sl (.rows E))])])) (fun g => Jy U E set site g.1 g.2) (fun _ => .none))) (.none)))
def J3V (U : ZI) (E : ZR) (set : ZI) (site : Int) : Prop :=
  ((∃ out' : ZI, ∃ i' : Int, (J0k U E set site out' i') ∧ (set = set) ∧ (site = site) ∧ ((0 : Nat) = out'.length) ∧ ((0 : Int) = i') ∧ ([] = out') ∧ (U = U) ∧ (E = E)) ∧ (∀ out : ZI, ∀ i : Int, (J0k U E set site out i) → (((decide (i < (E.length : Int))) = true → (PC Try.prog 238 [.agg [.sl (.ints U), .sl (.rows E)], .int .i64 i, .sl (.ints set)] (.one (.d (.int .i64 (Ja (E.getD i.toNat []) set set.length))))) ∧ ((((Ja (E.getD i.toNat []) set set.length) == site) = true → (out.length = out.length) ∧ ((1 : Nat) = 1) ∧ ((out.length + 1) * 8 ≤ 140737488355328) ∧ (I6 (i + 1)) ∧ (∃ out' : ZI, ∃ i' : Int, (J0k U E set site out' i') ∧ (Jy U E set site out' i' < Jy U E set site out i) ∧ (set = set) ∧ (site = site) ∧ ((out.length + 1) = out'.length) ∧ ((i + 1) = i') ∧ ((out ++ [i]) = out') ∧ (U = U) ∧ (E = E))) ∧ (((Ja (E.getD i.toNat []) set set.length) == site) = false → (I6 (i + 1)) ∧ (∃ out' : ZI, ∃ i' : Int, (J0k U E set site out' i') ∧ (Jy U E set site out' i' < Jy U E set site out i) ∧ (set = set) ∧ (site = site) ∧ (out.length = out'.length) ∧ ((i + 1) = i') ∧ (out = out') ∧ (U = U) ∧ (E = E))))) ∧ ((decide (i < (E.length : Int))) = false → ((out.length = out.length) ∧ ((out : ZI) = (members (fun i9 => decide (Ja (E.getD i9 []) set set.length = site)) E.length)))))))
theorem J6M (U : ZI) (E : ZR) (set : ZI) (site : Int) (ht : (J0 U E && J3 set 0 ((U.length : Int) - 1) && decide (0 < set.length)) = true) (w_Open : (U.length : Int) ≤ 9223372036854775807) (w_Dist : (E.length : Int) ≤ 9223372036854775807) (v_Dist : ∀ x9 ∈ E, (x9.length : Int) ≤ 9223372036854775807) (w_set : (set.length : Int) ≤ 9223372036854775807) : J3V U E set site := by
  unfold J3V
  obtain ⟨hg, hs, hp⟩ := Jb ht
  obtain ⟨g1, g2, g3⟩ := Jc hg
  refine ⟨?_, ?_⟩
  ·refine ⟨([]), 0, ?_⟩
   refine ⟨?_, rfl, rfl, rfl, rfl, ?_, rfl, rfl⟩
   ·refine ⟨?_, ?_⟩
    ·first | omega | rfl | (intro hg; simp only [nrmT] at hg; omega) | (intro g1 g2; simp [g1, g2]; done) | (intro g1; simp at g1 ⊢; simp [g1]; done) | (simp only [nrmT] at *; omega) | (simp at * <;> omega) | (simp_all <;> omega) | (simp_all; done)
    ·rfl
   first | omega | rfl | (intro hg; simp only [nrmT] at hg; omega) | (intro g1 g2; simp [g1, g2]; done) | (intro g1; simp at g1 ⊢; simp [g1]; done) | (simp only [nrmT] at *; omega) | (simp at * <;> omega) | (simp_all <;> omega) | (simp_all; done)
  intro out i hJ
  obtain ⟨h1, h2⟩ := hJ
  refine ⟨?_, ?_⟩
  ·intro b1
   try simp only [nrmT] at b1
   refine ⟨?_, ?_, ?_⟩
   ·refine J4P U E i set ?_ ?_
    ·exact ht
    ·first | omega | rfl | (intro hg; simp only [nrmT] at hg; omega) | (intro g1 g2; simp [g1, g2]; done) | (intro g1; simp at g1 ⊢; simp [g1]; done) | (simp only [nrmT] at *; omega) | (simp at * <;> omega) | (simp_all <;> omega) | (simp_all; done)
   ·intro b2
    try simp only [nrmT] at b2
    refine ⟨rfl, rfl, ?_, ?_, ?_⟩
    ·have := members_len_le (fun i9 => decide (Ja (E.getD i9 []) set set.length = site)) i.toNat
     rw [← h2] at this
     omega
    ·first | omega | rfl | (intro hg; simp only [nrmT] at hg; omega) | (intro g1 g2; simp [g1, g2]; done) | (intro g1; simp at g1 ⊢; simp [g1]; done) | (simp only [nrmT] at *; omega) | (simp at * <;> omega) | (simp_all <;> omega) | (simp_all; done)
    refine ⟨(out ++ [i]), (i + 1), ?_⟩
    refine ⟨?_, ?_, rfl, rfl, ?_, rfl, rfl, rfl, rfl⟩
    ·refine ⟨?_, ?_⟩
     ·first | omega | rfl | (intro hg; simp only [nrmT] at hg; omega) | (intro g1 g2; simp [g1, g2]; done) | (intro g1; simp at g1 ⊢; simp [g1]; done) | (simp only [nrmT] at *; omega) | (simp at * <;> omega) | (simp_all <;> omega) | (simp_all; done)
     ·rw [show (i + 1).toNat = i.toNat + 1 by omega, members_succ, if_pos (decide_eq_true b2), ← h2, show ((i.toNat : Nat) : Int) = i by omega]
    ·first | (show _ < _; omega) | (simp only [Jy]; omega) | (simp only [Jy] at *; simp at *; omega)
    simp
   intro b3
   try simp only [nrmT] at b3
   refine ⟨?_, ?_⟩
   ·first | omega | rfl | (intro hg; simp only [nrmT] at hg; omega) | (intro g1 g2; simp [g1, g2]; done) | (intro g1; simp at g1 ⊢; simp [g1]; done) | (simp only [nrmT] at *; omega) | (simp at * <;> omega) | (simp_all <;> omega) | (simp_all; done)
   refine ⟨out, (i + 1), ?_⟩
   refine ⟨?_, ?_, rfl, rfl, rfl, rfl, rfl, rfl, rfl⟩
   ·refine ⟨?_, ?_⟩
    ·first | omega | rfl | (intro hg; simp only [nrmT] at hg; omega) | (intro g1 g2; simp [g1, g2]; done) | (intro g1; simp at g1 ⊢; simp [g1]; done) | (simp only [nrmT] at *; omega) | (simp at * <;> omega) | (simp_all <;> omega) | (simp_all; done)
    ·rw [show (i + 1).toNat = i.toNat + 1 by omega, members_succ, if_neg (by rw [decide_eq_false b3]; decide), List.append_nil, ← h2]
   first | (show _ < _; omega) | (simp only [Jy]; omega) | (simp only [Jy] at *; simp at *; omega)
  intro b4
  try simp only [nrmT] at b4
  refine ⟨rfl, ?_⟩
  ·rw [h2, show i.toNat = E.length by omega]
theorem J6I (U : ZI) (E : ZR) (set : ZI) (site : Int) (ht : (J0 U E && J3 set 0 ((U.length : Int) - 1) && decide (0 < set.length)) = true) : PC Try.prog 213 [.agg [.sl (.ints U), .sl (.rows E)], .sl (.ints set), .int .i64 site] (.one (.d (.sl (.ints (members (fun i9 => decide (Ja (E.getD i9 []) set set.length = site)) E.length))))) :=
  pc_wf @Try.call213 fun hw => pc_by (by kernel_rfl) Try.func213 @Try.call213 (by kernel_rfl) J7q (J7m U E set site) (by kernel_rfl) (J6M U E set site ht hw.1.1 hw.1.2.1.1 hw.1.2.1.2 hw.2.1) (by kernel_rfl)
def J5S : List D → Orc := orcN [none, some .ints, none] fun ds => match ds with
  | [.agg [.sl (.ints U), .sl (.rows E)], .sl (.ints set), .int .i64 site] => some (.one (.d (.sl (.ints (members (fun i9 => decide (Ja (E.getD i9 []) set set.length = site)) E.length)))))
  | _ => none
abbrev J0J (U : ZI) (E : ZR) (set : ZI) (out : ZR) (k : Int) : Prop := (0 ≤ k ∧ k ≤ (set.length : Int)) ∧ (out = tabTo (fun k9 => members (fun t => decide (Ja (E.getD t []) set set.length = set.getD k9 0)) E.length) k.toNat)
abbrev J0n (U : ZI) (E : ZR) (set : ZI) (out : ZR) (k : Int) : Nat := (set.length - k).toNat
def J7l (f : FuncId) (ds : List D) : Orc := bif Nat.beq f 212 then J8B ds else bif Nat.beq f 213 then J5S ds else .no
def J7v (U : ZI) (E : ZR) (set : ZI) : Ann := .two (.none) (.two (.none) (.two (.none) (.two (.two (.none) (.loop (cut2 (fun (out : ZR) (k : Int) => J0J U E set out k) (fun (out : ZR) (k : Int) => [(1, .d false (.sl (.ints set))), (2, .ptr 2 0), (6, .own 1000000 out.length), (7, .d true (.int .i64 k))]) (fun (out : ZR) (k : Int) => [(1000000, .arr true 26 (.rows out)), (2, .box 39 [.d false (.sl (.ints U)), .d false (.sl (.rows E))])])) (fun g => J0n U E set g.1 g.2) (fun _ => .none))) (.none))))
def J3Q (U : ZI) (E : ZR) (set : ZI) : Prop :=
  (PC Try.prog 212 [.agg [.sl (.ints U), .sl (.rows E)], .sl (.ints set)] (.one (.d (.bool (J0 U E && J3 set 0 ((U.length : Int) - 1) && decide (0 < set.length)))))) ∧ (((!(J0 U E && J3 set 0 ((U.length : Int) - 1) && decide (0 < set.length))) = true → (((0 : Nat) = 0) ∧ (([] : ZR) = (coL U E set)) ∧ (false = (J0 U E && J3 set 0 ((U.length : Int) - 1) && decide (0 < set.length))))) ∧ ((!(J0 U E && J3 set 0 ((U.length : Int) - 1) && decide (0 < set.length))) = false → ((∃ out' : ZR, ∃ k' : Int, (J0J U E set out' k') ∧ (set = set) ∧ ((0 : Nat) = out'.length) ∧ ((0 : Int) = k') ∧ ([] = out') ∧ (U = U) ∧ (E = E)) ∧ (∀ out : ZR, ∀ k : Int, (J0J U E set out k) → (((decide (k < (set.length : Int))) = true → (true = true) ∧ ((0 : Int) ≤ k) ∧ ((k : Int) < set.length) ∧ (k.toNat < set.length) ∧ (PC Try.prog 213 [.agg [.sl (.ints U), .sl (.rows E)], .sl (.ints set), .int .i64 (set.getD k.toNat 0)] (.one (.d (.sl (.ints (members (fun i9 => decide (Ja (E.getD i9 []) set set.length = (set.getD k.toNat 0))) E.length)))))) ∧ (out.length = out.length) ∧ ((1 : Nat) = 1) ∧ ((out.length + 1) * 24 ≤ 140737488355328) ∧ (I6 (k + 1)) ∧ (∃ out' : ZR, ∃ k' : Int, (J0J U E set out' k') ∧ (J0n U E set out' k' < J0n U E set out k) ∧ (set = set) ∧ ((out.length + 1) = out'.length) ∧ ((k + 1) = k') ∧ ((out ++ [(members (fun i9 => decide (Ja (E.getD i9 []) set set.length = (set.getD k.toNat 0))) E.length)]) = out') ∧ (U = U) ∧ (E = E))) ∧ ((decide (k < (set.length : Int))) = false → ((out.length = out.length) ∧ ((out : ZR) = (coL U E set)) ∧ (true = (J0 U E && J3 set 0 ((U.length : Int) - 1) && decide (0 < set.length))))))))))
theorem J6A (U : ZI) (E : ZR) (set : ZI)  (w_Open : (U.length : Int) ≤ 9223372036854775807) (w_Dist : (E.length : Int) ≤ 9223372036854775807) (v_Dist : ∀ x9 ∈ E, (x9.length : Int) ≤ 9223372036854775807) (w_set : (set.length : Int) ≤ 9223372036854775807) : J3Q U E set := by
  unfold J3Q
  refine ⟨J8X U E set, ?_, ?_⟩
  ·intro b1
   try simp only [Bool.not_eq_true', Bool.not_eq_false', Bool.not_not] at b1
   refine ⟨rfl, ?_, ?_⟩
   ·have hq : (J0 U E && J3 set 0 ((U.length : Int) - 1) && decide (0 < set.length)) = false := by simpa only [Bool.not_eq_true', Bool.not_eq_false', Bool.not_not] using b1
    unfold coL; rw [hq]; rfl
   have hq : (J0 U E && J3 set 0 ((U.length : Int) - 1) && decide (0 < set.length)) = false := by simpa only [Bool.not_eq_true', Bool.not_eq_false', Bool.not_not] using b1
   exact hq.symm
  intro b2
  try simp only [Bool.not_eq_true', Bool.not_eq_false', Bool.not_not] at b2
  refine ⟨?_, ?_⟩
  ·refine ⟨([]), 0, ?_⟩
   refine ⟨?_, rfl, rfl, rfl, ?_, rfl, rfl⟩
   ·refine ⟨?_, ?_⟩
    ·first | omega | rfl | (intro hg; simp only [nrmT] at hg; omega) | (intro g1 g2; simp [g1, g2]; done) | (intro g1; simp at g1 ⊢; simp [g1]; done) | (simp only [nrmT] at *; omega) | (simp at * <;> omega) | (simp_all <;> omega) | (simp_all; done)
    ·rfl
   first | omega | rfl | (intro hg; simp only [nrmT] at hg; omega) | (intro g1 g2; simp [g1, g2]; done) | (intro g1; simp at g1 ⊢; simp [g1]; done) | (simp only [nrmT] at *; omega) | (simp at * <;> omega) | (simp_all <;> omega) | (simp_all; done)
  intro out k hJ
  obtain ⟨h1, h2⟩ := hJ
  refine ⟨?_, ?_⟩
  ·intro b3
   try simp only [nrmT] at b3
   refine ⟨rfl, ?_, ?_, ?_, ?_, rfl, rfl, ?_, ?_, ?_⟩
   ·first | omega | rfl | (intro hg; simp only [nrmT] at hg; omega) | (intro g1 g2; simp [g1, g2]; done) | (intro g1; simp at g1 ⊢; simp [g1]; done) | (simp only [nrmT] at *; omega) | (simp at * <;> omega) | (simp_all <;> omega) | (simp_all; done)
   ·first | omega | rfl | (intro hg; simp only [nrmT] at hg; omega) | (intro g1 g2; simp [g1, g2]; done) | (intro g1; simp at g1 ⊢; simp [g1]; done) | (simp only [nrmT] at *; omega) | (simp at * <;> omega) | (simp_all <;> omega) | (simp_all; done)
   ·first | omega | rfl | (intro hg; simp only [nrmT] at hg; omega) | (intro g1 g2; simp [g1, g2]; done) | (intro g1; simp at g1 ⊢; simp [g1]; done) | (simp only [nrmT] at *; omega) | (simp at * <;> omega) | (simp_all <;> omega) | (simp_all; done)
   ·refine J6I U E set (set.getD k.toNat 0) ?_
    ·have hq : (J0 U E && J3 set 0 ((U.length : Int) - 1) && decide (0 < set.length)) = true := by simpa only [Bool.not_eq_true', Bool.not_eq_false', Bool.not_not] using b2
     obtain ⟨hg, hs, hp⟩ := Jb hq
     obtain ⟨g1, g2, g3⟩ := Jc hg
     have sl := Jh hs (by omega)
     exact hq
   ·have hq : (J0 U E && J3 set 0 ((U.length : Int) - 1) && decide (0 < set.length)) = true := by simpa only [Bool.not_eq_true', Bool.not_eq_false', Bool.not_not] using b2
    obtain ⟨hg, hs, hp⟩ := Jb hq
    obtain ⟨g1, g2, g3⟩ := Jc hg
    have sl := Jh hs (by omega)
    rw [h2, tabTo_len]; omega
   ·first | omega | rfl | (intro hg; simp only [nrmT] at hg; omega) | (intro g1 g2; simp [g1, g2]; done) | (intro g1; simp at g1 ⊢; simp [g1]; done) | (simp only [nrmT] at *; omega) | (simp at * <;> omega) | (simp_all <;> omega) | (simp_all; done)
   refine ⟨(out ++ [(members (fun i9 => decide (Ja (E.getD i9 []) set set.length = (set.getD k.toNat 0))) E.length)]), (k + 1), ?_⟩
   refine ⟨?_, ?_, rfl, ?_, rfl, rfl, rfl, rfl⟩
   ·refine ⟨?_, ?_⟩
    ·first | omega | rfl | (intro hg; simp only [nrmT] at hg; omega) | (intro g1 g2; simp [g1, g2]; done) | (intro g1; simp at g1 ⊢; simp [g1]; done) | (simp only [nrmT] at *; omega) | (simp at * <;> omega) | (simp_all <;> omega) | (simp_all; done)
    ·rw [show (k + 1).toNat = k.toNat + 1 by omega, tabTo_succ, ← h2]
   ·first | (show _ < _; omega) | (simp only [J0n]; omega) | (simp only [J0n] at *; simp at *; omega)
   simp
  intro b4
  try simp only [nrmT] at b4
  refine ⟨rfl, ?_, ?_⟩
  ·have hq : (J0 U E && J3 set 0 ((U.length : Int) - 1) && decide (0 < set.length)) = true := by simpa only [Bool.not_eq_true', Bool.not_eq_false', Bool.not_not] using b2
   obtain ⟨hg, hs, hp⟩ := Jb hq
   obtain ⟨g1, g2, g3⟩ := Jc hg
   have sl := Jh hs (by omega)
   unfold coL; rw [if_pos hq, h2, show k.toNat = set.length by omega]; rfl
  have hq : (J0 U E && J3 set 0 ((U.length : Int) - 1) && decide (0 < set.length)) = true := by simpa only [Bool.not_eq_true', Bool.not_eq_false', Bool.not_not] using b2
  obtain ⟨hg, hs, hp⟩ := Jb hq
  obtain ⟨g1, g2, g3⟩ := Jc hg
  have sl := Jh hs (by omega)
  exact hq.symm
theorem J6e (U : ZI) (E : ZR) (set : ZI)  : PC Try.prog 139 [.agg [.sl (.ints U), .sl (.rows E)], .sl (.ints set)] (.tup [.d (.sl (.rows (coL U E set))), .d (.bool (J0 U E && J3 set 0 ((U.length : Int) - 1) && decide (0 < set.length)))]) :=
  pc_wf @Try.call139 fun hw => pc_by (by kernel_rfl) Try.func139 @Try.call139 (by kernel_rfl) J7l (J7v U E set) (by kernel_rfl) (J6A U E set hw.1.1 hw.1.2.1.1 hw.1.2.1.2 hw.2.1) (by kernel_rfl)
def J5z : List D → Orc := orcN [none, some .ints] fun ds => match ds with
  | [.agg [.sl (.ints U), .sl (.rows E)], .sl (.ints set)] => some (.tup [.d (.sl (.rows (coL U E set))), .d (.bool (J0 U E && J3 set 0 ((U.length : Int) - 1) && decide (0 < set.length)))])
  | _ => none
abbrev J0E (U : ZI) (E : ZR) (set : ZI) (out : ZR) (i : Int) : Prop := (0 ≤ i ∧ i ≤ ((J9 E set E.length).length : Int)) ∧ (out = J2D E set i.toNat)
abbrev J0h (U : ZI) (E : ZR) (set : ZI) (out : ZR) (i : Int) : Nat := ((J9 E set E.length).length - i).toNat
def J7j (f : FuncId) (ds : List D) : Orc := bif Nat.beq f 136 then J6r ds else bif Nat.beq f 215 then J2A ds else bif Nat.beq f 216 then J2R ds else .no
def J7i (U : ZI) (E : ZR) (set : ZI) : Ann := .two (.none) (.two (.none) (.two (.reg [(2, .take)]) (.two (.two (.none) (.loop (cut2 (fun (out : ZR) (i : Int) => J0E U E set out i) (fun (out : ZR) (i : Int) => [(1, .d false (.sl (.ints set))), (6, .own 16 out.length), (19, .own 19 ((J9 E set E.length).length)), (20, .d true (.int .i64 (((J9 E set E.length).length) : Int))), (21, .d true (.int .i64 i))]) (fun (out : ZR) (i : Int) => [(16, .mat 3 26 out none), (19, .arr true 3 (.ints (J9 E set E.length)))])) (fun g => J0h U E set g.1 g.2) (fun g => (fun (out : ZR) (i : Int) => .two (.none) (.two (.none) (.two (.two (.none) (.two (.none) (.reg [(5, .take)]))) (.none)))) (g.1) (g.2)))) (.none))))
def J3R (U : ZI) (E : ZR) (set : ZI) : Prop :=
  (PC Try.prog 136 [.agg [.sl (.ints U), .sl (.rows E)], .sl (.ints set)] (.one (.d (.bool (J0 U E && J3 set 0 ((U.length : Int) - 1) && decide (0 < set.length)))))) ∧ (((!(J0 U E && J3 set 0 ((U.length : Int) - 1) && decide (0 < set.length))) = true → (((coL U E set).length = 0) ∧ (false = (J0 U E && J3 set 0 ((U.length : Int) - 1) && decide (0 < set.length))))) ∧ ((!(J0 U E && J3 set 0 ((U.length : Int) - 1) && decide (0 < set.length))) = false → ((set.length : Int) = (set.length : Int)) ∧ ((0 : Int) ≤ (set.length : Int)) ∧ (((set.length : Int) : Int) * ((24 : Nat) : Int) ≤ 140737488355328) ∧ (PC Try.prog 215 [.agg [.sl (.ints U), .sl (.rows E)], .sl (.ints set)] (.one (.own 3 (.ints (J9 E set E.length))))) ∧ ((∃ out' : ZR, ∃ i' : Int, (J0E U E set out' i') ∧ (set = set) ∧ ((set.length : Int).toNat = out'.length) ∧ ((J9 E set E.length).length = (J9 E set E.length).length) ∧ ((((J9 E set E.length).length) : Int) = (((J9 E set E.length).length) : Int)) ∧ ((0 : Int) = i') ∧ ((List.replicate ((set.length : Int).toNat) ([] : ZI)) = out') ∧ (J9 E set E.length = J9 E set E.length)) ∧ (∀ out : ZR, ∀ i : Int, (J0E U E set out i) → (((decide (i < (((J9 E set E.length).length) : Int))) = true → ((0 : Int) ≤ i) ∧ ((i : Int) < (((J9 E set E.length).length) : Int)) ∧ (i.toNat < (J9 E set E.length).length) ∧ (PC Try.prog 216 [.sl (.ints set), .int .i64 ((J9 E set E.length).getD i.toNat 0)] (.one (.d (.int .i64 (idxI (fun y => ((J9 E set E.length).getD i.toNat 0) == y) set))))) ∧ ((0 : Int) ≤ (idxI (fun y => ((J9 E set E.length).getD i.toNat 0) == y) set)) ∧ (((idxI (fun y => ((J9 E set E.length).getD i.toNat 0) == y) set) : Int) < (out.length : Int)) ∧ ((idxI (fun y => ((J9 E set E.length).getD i.toNat 0) == y) set).toNat < out.length) ∧ ((out.getD ((idxI (fun y => ((J9 E set E.length).getD i.toNat 0) == y) set).toNat) []).length = (out.getD ((idxI (fun y => ((J9 E set E.length).getD i.toNat 0) == y) set).toNat) []).length) ∧ ((1 : Nat) = 1) ∧ (((out.getD ((idxI (fun y => ((J9 E set E.length).getD i.toNat 0) == y) set).toNat) []).length + 1) * 8 ≤ 140737488355328) ∧ ((0 : Int) ≤ (idxI (fun y => ((J9 E set E.length).getD i.toNat 0) == y) set)) ∧ (((idxI (fun y => ((J9 E set E.length).getD i.toNat 0) == y) set) : Int) < (out.length : Int)) ∧ ((idxI (fun y => ((J9 E set E.length).getD i.toNat 0) == y) set).toNat = (idxI (fun y => ((J9 E set E.length).getD i.toNat 0) == y) set).toNat) ∧ ((idxI (fun y => ((J9 E set E.length).getD i.toNat 0) == y) set).toNat < out.length) ∧ (((out.getD ((idxI (fun y => ((J9 E set E.length).getD i.toNat 0) == y) set).toNat) []).length + 1) = ((out.getD ((idxI (fun y => ((J9 E set E.length).getD i.toNat 0) == y) set).toNat) []) ++ [i]).length) ∧ (I6 (i + 1)) ∧ (∃ out' : ZR, ∃ i' : Int, (J0E U E set out' i') ∧ (J0h U E set out' i' < J0h U E set out i) ∧ (set = set) ∧ (out.length = out'.length) ∧ ((J9 E set E.length).length = (J9 E set E.length).length) ∧ ((((J9 E set E.length).length) : Int) = (((J9 E set E.length).length) : Int)) ∧ ((i + 1) = i') ∧ ((out.set ((idxI (fun y => ((J9 E set E.length).getD i.toNat 0) == y) set).toNat) ((out.getD ((idxI (fun y => ((J9 E set E.length).getD i.toNat 0) == y) set).toNat) []) ++ [i])) = out') ∧ (J9 E set E.length = J9 E set E.length))) ∧ ((decide (i < (((J9 E set E.length).length) : Int))) = false → ((out.length = out.length) ∧ ((out : ZR) = coL U E set) ∧ (true = (J0 U E && J3 set 0 ((U.length : Int) - 1) && decide (0 < set.length))))))))))
theorem J6E (U : ZI) (E : ZR) (set : ZI)  (w_Open : (U.length : Int) ≤ 9223372036854775807) (w_Dist : (E.length : Int) ≤ 9223372036854775807) (v_Dist : ∀ x9 ∈ E, (x9.length : Int) ≤ 9223372036854775807) (w_set : (set.length : Int) ≤ 9223372036854775807) : J3R U E set := by
  unfold J3R
  refine ⟨J7C U E set, ?_, ?_⟩
  ·intro b1
   try simp only [Bool.not_eq_true', Bool.not_eq_false', Bool.not_not] at b1
   refine ⟨?_, ?_⟩
   ·have hq : (J0 U E && J3 set 0 ((U.length : Int) - 1) && decide (0 < set.length)) = false := by simpa only [Bool.not_eq_true', Bool.not_eq_false', Bool.not_not] using b1
    unfold coL; rw [hq]; rfl
   have hq : (J0 U E && J3 set 0 ((U.length : Int) - 1) && decide (0 < set.length)) = false := by simpa only [Bool.not_eq_true', Bool.not_eq_false', Bool.not_not] using b1
   exact hq.symm
  intro b2
  try simp only [Bool.not_eq_true', Bool.not_eq_false', Bool.not_not] at b2
  refine ⟨rfl, ?_, ?_, ?_, ?_, ?_⟩
  ·first | omega | rfl | (intro hg; simp only [nrmT] at hg; omega) | (intro g1 g2; simp [g1, g2]; done) | (intro g1; simp at g1 ⊢; simp [g1]; done) | (simp only [nrmT] at *; omega) | (simp at * <;> omega) | (simp_all <;> omega) | (simp_all; done)
  ·have hq : (J0 U E && J3 set 0 ((U.length : Int) - 1) && decide (0 < set.length)) = true := by simpa only [Bool.not_eq_true', Bool.not_eq_false', Bool.not_not] using b2
   obtain ⟨hg, hs, hp⟩ := Jb hq
   obtain ⟨g1, g2, g3⟩ := Jc hg
   have sl := Jh hs (by omega)
   omega
  ·refine J2L U E set ?_
   ·have hq : (J0 U E && J3 set 0 ((U.length : Int) - 1) && decide (0 < set.length)) = true := by simpa only [Bool.not_eq_true', Bool.not_eq_false', Bool.not_not] using b2
    obtain ⟨hg, hs, hp⟩ := Jb hq
    obtain ⟨g1, g2, g3⟩ := Jc hg
    have sl := Jh hs (by omega)
    exact hq
  ·refine ⟨(List.replicate ((set.length : Int).toNat) ([] : ZI)), 0, ?_⟩
   refine ⟨?_, rfl, ?_, rfl, rfl, rfl, rfl, rfl⟩
   ·refine ⟨?_, ?_⟩
    ·first | omega | rfl | (intro hg; simp only [nrmT] at hg; omega) | (intro g1 g2; simp [g1, g2]; done) | (intro g1; simp at g1 ⊢; simp [g1]; done) | (simp only [nrmT] at *; omega) | (simp at * <;> omega) | (simp_all <;> omega) | (simp_all; done)
    ·rw [Int.toNat_natCast]; exact (J9V _ _).symm
   first | omega | rfl | (intro hg; simp only [nrmT] at hg; omega) | (intro g1 g2; simp [g1, g2]; done) | (intro g1; simp at g1 ⊢; simp [g1]; done) | (simp only [nrmT] at *; omega) | (simp at * <;> omega) | (simp_all <;> omega) | (simp_all; done)
  intro out i hJ
  obtain ⟨h1, h2⟩ := hJ
  refine ⟨?_, ?_⟩
  ·intro b3
   try simp only [nrmT] at b3
   refine ⟨?_, ?_, ?_, J35 set ((J9 E set E.length).getD i.toNat 0), ?_, ?_, ?_, rfl, rfl, ?_, ?_, ?_, rfl, ?_, ?_, ?_, ?_⟩
   ·first | omega | rfl | (intro hg; simp only [nrmT] at hg; omega) | (intro g1 g2; simp [g1, g2]; done) | (intro g1; simp at g1 ⊢; simp [g1]; done) | (simp only [nrmT] at *; omega) | (simp at * <;> omega) | (simp_all <;> omega) | (simp_all; done)
   ·first | omega | rfl | (intro hg; simp only [nrmT] at hg; omega) | (intro g1 g2; simp [g1, g2]; done) | (intro g1; simp at g1 ⊢; simp [g1]; done) | (simp only [nrmT] at *; omega) | (simp at * <;> omega) | (simp_all <;> omega) | (simp_all; done)
   ·first | omega | rfl | (intro hg; simp only [nrmT] at hg; omega) | (intro g1 g2; simp [g1, g2]; done) | (intro g1; simp at g1 ⊢; simp [g1]; done) | (simp only [nrmT] at *; omega) | (simp at * <;> omega) | (simp_all <;> omega) | (simp_all; done)
   ·have hq : (J0 U E && J3 set 0 ((U.length : Int) - 1) && decide (0 < set.length)) = true := by simpa only [Bool.not_eq_true', Bool.not_eq_false', Bool.not_not] using b2
    obtain ⟨hg, hs, hp⟩ := Jb hq
    obtain ⟨g1, g2, g3⟩ := Jc hg
    have sl := Jh hs (by omega)
    have sll := JQ E set E.length
    have se := JH E set E.length i.toNat (by omega)
    have hmem := JS (row := E.getD i.toNat []) (set := set) hp set.length (Nat.le_refl _)
    obtain ⟨x1, x2, x3⟩ := J0Q hmem
    have ol : out.length = set.length := by rw [h2, JO]
    rw [se]
    omega
   ·have hq : (J0 U E && J3 set 0 ((U.length : Int) - 1) && decide (0 < set.length)) = true := by simpa only [Bool.not_eq_true', Bool.not_eq_false', Bool.not_not] using b2
    obtain ⟨hg, hs, hp⟩ := Jb hq
    obtain ⟨g1, g2, g3⟩ := Jc hg
    have sl := Jh hs (by omega)
    have sll := JQ E set E.length
    have se := JH E set E.length i.toNat (by omega)
    have hmem := JS (row := E.getD i.toNat []) (set := set) hp set.length (Nat.le_refl _)
    obtain ⟨x1, x2, x3⟩ := J0Q hmem
    have ol : out.length = set.length := by rw [h2, JO]
    rw [se]
    omega
   ·have hq : (J0 U E && J3 set 0 ((U.length : Int) - 1) && decide (0 < set.length)) = true := by simpa only [Bool.not_eq_true', Bool.not_eq_false', Bool.not_not] using b2
    obtain ⟨hg, hs, hp⟩ := Jb hq
    obtain ⟨g1, g2, g3⟩ := Jc hg
    have sl := Jh hs (by omega)
    have sll := JQ E set E.length
    have se := JH E set E.length i.toNat (by omega)
    have hmem := JS (row := E.getD i.toNat []) (set := set) hp set.length (Nat.le_refl _)
    obtain ⟨x1, x2, x3⟩ := J0Q hmem
    have ol : out.length = set.length := by rw [h2, JO]
    rw [se]
    omega
   ·have hq : (J0 U E && J3 set 0 ((U.length : Int) - 1) && decide (0 < set.length)) = true := by simpa only [Bool.not_eq_true', Bool.not_eq_false', Bool.not_not] using b2
    obtain ⟨hg, hs, hp⟩ := Jb hq
    obtain ⟨g1, g2, g3⟩ := Jc hg
    have sl := Jh hs (by omega)
    have sll := JQ E set E.length
    have se := JH E set E.length i.toNat (by omega)
    have hmem := JS (row := E.getD i.toNat []) (set := set) hp set.length (Nat.le_refl _)
    obtain ⟨x1, x2, x3⟩ := J0Q hmem
    have ol : out.length = set.length := by rw [h2, JO]
    have hr := J8h (D := E) (set := set) i.toNat (idxI (fun y => ((J9 E set E.length).getD i.toNat 0) == y) set).toNat
    rw [← h2] at hr
    have sl9 := Jc hg
    omega
   ·have hq : (J0 U E && J3 set 0 ((U.length : Int) - 1) && decide (0 < set.length)) = true := by simpa only [Bool.not_eq_true', Bool.not_eq_false', Bool.not_not] using b2
    obtain ⟨hg, hs, hp⟩ := Jb hq
    obtain ⟨g1, g2, g3⟩ := Jc hg
    have sl := Jh hs (by omega)
    have sll := JQ E set E.length
    have se := JH E set E.length i.toNat (by omega)
    have hmem := JS (row := E.getD i.toNat []) (set := set) hp set.length (Nat.le_refl _)
    obtain ⟨x1, x2, x3⟩ := J0Q hmem
    have ol : out.length = set.length := by rw [h2, JO]
    rw [se]
    omega
   ·have hq : (J0 U E && J3 set 0 ((U.length : Int) - 1) && decide (0 < set.length)) = true := by simpa only [Bool.not_eq_true', Bool.not_eq_false', Bool.not_not] using b2
    obtain ⟨hg, hs, hp⟩ := Jb hq
    obtain ⟨g1, g2, g3⟩ := Jc hg
    have sl := Jh hs (by omega)
    have sll := JQ E set E.length
    have se := JH E set E.length i.toNat (by omega)
    have hmem := JS (row := E.getD i.toNat []) (set := set) hp set.length (Nat.le_refl _)
    obtain ⟨x1, x2, x3⟩ := J0Q hmem
    have ol : out.length = set.length := by rw [h2, JO]
    rw [se]
    omega
   ·have hq : (J0 U E && J3 set 0 ((U.length : Int) - 1) && decide (0 < set.length)) = true := by simpa only [Bool.not_eq_true', Bool.not_eq_false', Bool.not_not] using b2
    obtain ⟨hg, hs, hp⟩ := Jb hq
    obtain ⟨g1, g2, g3⟩ := Jc hg
    have sl := Jh hs (by omega)
    have sll := JQ E set E.length
    have se := JH E set E.length i.toNat (by omega)
    have hmem := JS (row := E.getD i.toNat []) (set := set) hp set.length (Nat.le_refl _)
    obtain ⟨x1, x2, x3⟩ := J0Q hmem
    have ol : out.length = set.length := by rw [h2, JO]
    rw [se]
    omega
   ·simp
   ·have hq : (J0 U E && J3 set 0 ((U.length : Int) - 1) && decide (0 < set.length)) = true := by simpa only [Bool.not_eq_true', Bool.not_eq_false', Bool.not_not] using b2
    obtain ⟨hg, hs, hp⟩ := Jb hq
    obtain ⟨g1, g2, g3⟩ := Jc hg
    have sl := Jh hs (by omega)
    have sll := JQ E set E.length
    omega
   refine ⟨(out.set ((idxI (fun y => ((J9 E set E.length).getD i.toNat 0) == y) set).toNat) ((out.getD ((idxI (fun y => ((J9 E set E.length).getD i.toNat 0) == y) set).toNat) []) ++ [i])), (i + 1), ?_⟩
   refine ⟨?_, ?_, rfl, ?_, rfl, rfl, rfl, rfl, rfl⟩
   ·refine ⟨?_, ?_⟩
    ·first | omega | rfl | (intro hg; simp only [nrmT] at hg; omega) | (intro g1 g2; simp [g1, g2]; done) | (intro g1; simp at g1 ⊢; simp [g1]; done) | (simp only [nrmT] at *; omega) | (simp at * <;> omega) | (simp_all <;> omega) | (simp_all; done)
    ·have hq : (J0 U E && J3 set 0 ((U.length : Int) - 1) && decide (0 < set.length)) = true := by simpa only [Bool.not_eq_true', Bool.not_eq_false', Bool.not_not] using b2
     obtain ⟨hg, hs, hp⟩ := Jb hq
     obtain ⟨g1, g2, g3⟩ := Jc hg
     have sl := Jh hs (by omega)
     have sll := JQ E set E.length
     have se := JH E set E.length i.toNat (by omega)
     have hmem := JS (row := E.getD i.toNat []) (set := set) hp set.length (Nat.le_refl _)
     obtain ⟨x1, x2, x3⟩ := J0Q hmem
     have ol : out.length = set.length := by rw [h2, JO]
     rw [se, h2, show (i + 1).toNat = i.toNat + 1 by omega]
     have hst := J9Z (O := U) (D := E) hs (i := i.toNat) (by omega) x3
     rw [show ((i.toNat : Nat) : Int) = i by omega] at hst
     exact hst
   ·first | (show _ < _; omega) | (simp only [J0h]; omega) | (simp only [J0h] at *; simp at *; omega)
   simp
  intro b4
  try simp only [nrmT] at b4
  refine ⟨rfl, ?_, ?_⟩
  ·have hq : (J0 U E && J3 set 0 ((U.length : Int) - 1) && decide (0 < set.length)) = true := by simpa only [Bool.not_eq_true', Bool.not_eq_false', Bool.not_not] using b2
   obtain ⟨hg, hs, hp⟩ := Jb hq
   obtain ⟨g1, g2, g3⟩ := Jc hg
   have sl := Jh hs (by omega)
   have sll := JQ E set E.length
   unfold coL
   rw [if_pos hq, h2, show i.toNat = E.length by omega]; rfl
  have hq : (J0 U E && J3 set 0 ((U.length : Int) - 1) && decide (0 < set.length)) = true := by simpa only [Bool.not_eq_true', Bool.not_eq_false', Bool.not_not] using b2
  obtain ⟨hg, hs, hp⟩ := Jb hq
  obtain ⟨g1, g2, g3⟩ := Jc hg
  have sl := Jh hs (by omega)
  exact hq.symm
theorem J6V (U : ZI) (E : ZR) (set : ZI)  : PC Try.prog 142 [.agg [.sl (.ints U), .sl (.rows E)], .sl (.ints set)] (.tup [.mat 3 26 (coL U E set), .d (.bool (J0 U E && J3 set 0 ((U.length : Int) - 1) && decide (0 < set.length)))]) :=
  pc_wf @Try.call142 fun hw => pc_by (by kernel_rfl) Try.func142 @Try.call142 (by kernel_rfl) J7j (J7i U E set) (by kernel_rfl) (J6E U E set hw.1.1 hw.1.2.1.1 hw.1.2.1.2 hw.2.1) (by kernel_rfl)
def J5t : List D → Orc := orcN [none, some .ints] fun ds => match ds with
  | [.agg [.sl (.ints U), .sl (.rows E)], .sl (.ints set)] => some (.tup [.mat 3 26 (coL U E set), .d (.bool (J0 U E && J3 set 0 ((U.length : Int) - 1) && decide (0 < set.length)))])
  | _ => none
def J6x (f : FuncId) (ds : List D) : Orc := bif Nat.beq f 137 then J31 ds else bif Nat.beq f 116 then J10 ds else bif Nat.beq f 138 then J36 ds else bif Nat.beq f 140 then J49 ds else bif Nat.beq f 162 then J3X ds else .no
def J6L (sites : ZI) (clients : ZI) (k : Int) : Ann := .none
def J3E (sites : ZI) (clients : ZI) (k : Int) : Prop :=
  (PC Try.prog 137 [.sl (.ints sites), .sl (.ints clients)] (.one (.d (.bool (J4 sites clients))))) ∧ ((!(!(J4 sites clients))) = true → (!(!(J4 sites clients))) = true) ∧ ((!(!(J4 sites clients))) = true → (!(!(J4 sites clients))) = true) ∧ ((!(!(J4 sites clients))) = true → (!(!(J4 sites clients))) = true) ∧ ((!(!(J4 sites clients))) = true → PC Try.prog 116 [.int .i64 k, .int .i64 1, .int .i64 (sites.length : Int)] (.one (.d (.bool (inB k 1 (sites.length : Int)))))) ∧ ((!(!(J4 sites clients))) = true → (!(!(J4 sites clients))) = true) ∧ (true = true) ∧ (((!(J4 sites clients)) = true → true = true)) ∧ (((!(J4 sites clients)) = false → (!(!(J4 sites clients))) = true)) ∧ (((cond (!(J4 sites clients)) true (!(inB k 1 (sites.length : Int)))) = true → (((0 : Int) = (lmV sites clients k)) ∧ (false = (lmB sites clients k)))) ∧ ((cond (!(J4 sites clients)) true (!(inB k 1 (sites.length : Int)))) = false → (PC Try.prog 138 [.sl (.ints sites), .sl (.ints clients)] (.one (.d (.agg [.sl (.ints (List.replicate sites.length 0)), .sl (.rows (J6 sites clients))])))) ∧ (true = true) ∧ (PC Try.prog 140 [.agg [.sl (.ints (List.replicate sites.length 0)), .sl (.rows (J6 sites clients))], .int .i64 k] (.one (.d (.sl (.ints (Jj (List.replicate sites.length 0) (J6 sites clients) k)))))) ∧ (PC Try.prog 162 [.agg [.sl (.ints (List.replicate sites.length 0)), .sl (.rows (J6 sites clients))], .sl (.ints (Jj (List.replicate sites.length 0) (J6 sites clients) k))] (.one (.d (.int .i64 (Jd (J6 sites clients) (Jj (List.replicate sites.length 0) (J6 sites clients) k)))))) ∧ (((Jd (J6 sites clients) (Jj (List.replicate sites.length 0) (J6 sites clients) k)) = (lmV sites clients k)) ∧ (true = (lmB sites clients k)))))
theorem J5I (sites : ZI) (clients : ZI) (k : Int)  (w_sites : (sites.length : Int) ≤ 9223372036854775807) (w_clients : (clients.length : Int) ≤ 9223372036854775807) : J3E sites clients k := by
  unfold J3E
  refine ⟨J3y sites clients, id, id, id, fun _ => J0X k 1 (sites.length : Int), id, rfl, fun _ => rfl, ?_, ?_, ?_⟩
  ·intro h; rw [h]; rfl
  ·intro b1
   refine ⟨?_, ?_⟩
   ·have hq : lmB sites clients k = false := by
      unfold lmB
      revert b1; cases J4 sites clients <;> cases inB k 1 (sites.length : Int) <;> simp
    unfold lmV; rw [hq]; rfl
   have hq : lmB sites clients k = false := by
     unfold lmB
     revert b1; cases J4 sites clients <;> cases inB k 1 (sites.length : Int) <;> simp
   exact hq.symm
  intro b2
  refine ⟨?_, rfl, ?_, ?_, ?_, ?_⟩
  ·refine J3B sites clients ?_
   ·have hq : lmB sites clients k = true := by
      unfold lmB
      revert b2; cases J4 sites clients <;> cases inB k 1 (sites.length : Int) <;> simp
    obtain ⟨m1, m2, m3, m4, m5⟩ := J2 hq
    exact m1
  ·refine J4Q (List.replicate sites.length 0) (J6 sites clients) k ?_ ?_
   ·have hq : lmB sites clients k = true := by
      unfold lmB
      revert b2; cases J4 sites clients <;> cases inB k 1 (sites.length : Int) <;> simp
    obtain ⟨m1, m2, m3, m4, m5⟩ := J2 hq
    exact m4
   ·have hq : lmB sites clients k = true := by
      unfold lmB
      revert b2; cases J4 sites clients <;> cases inB k 1 (sites.length : Int) <;> simp
    obtain ⟨m1, m2, m3, m4, m5⟩ := J2 hq
    rw [List.length_replicate]; exact m3
  ·refine J3f (List.replicate sites.length 0) (J6 sites clients) (Jj (List.replicate sites.length 0) (J6 sites clients) k) ?_
   ·have hq : lmB sites clients k = true := by
      unfold lmB
      revert b2; cases J4 sites clients <;> cases inB k 1 (sites.length : Int) <;> simp
    obtain ⟨m1, m2, m3, m4, m5⟩ := J2 hq
    exact m5
  ·have hq : lmB sites clients k = true := by
     unfold lmB
     revert b2; cases J4 sites clients <;> cases inB k 1 (sites.length : Int) <;> simp
   obtain ⟨m1, m2, m3, m4, m5⟩ := J2 hq
   unfold lmV; rw [if_pos hq]; rfl
  have hq : lmB sites clients k = true := by
    unfold lmB
    revert b2; cases J4 sites clients <;> cases inB k 1 (sites.length : Int) <;> simp
  obtain ⟨m1, m2, m3, m4, m5⟩ := J2 hq
  exact hq.symm
theorem J5B (sites : ZI) (clients : ZI) (k : Int)  : PC Try.prog 70 [.sl (.ints sites), .sl (.ints clients), .int .i64 k] (.tup [.d (.int .i64 (lmV sites clients k)), .d (.bool (lmB sites clients k))]) :=
  pc_wf @Try.call70 fun hw => pc_by (by kernel_rfl) Try.func70 @Try.call70 (by kernel_rfl) J6x (J6L sites clients k) (by kernel_rfl) (J5I sites clients k hw.1 hw.2.1) (by kernel_rfl)
def J58 : List D → Orc := orcN [some .ints, some .ints, none] fun ds => match ds with
  | [.sl (.ints sites), .sl (.ints clients), .int .i64 k] => some (.tup [.d (.int .i64 (lmV sites clients k)), .d (.bool (lmB sites clients k))])
  | _ => none
abbrev J1z (sites : ZI) (clients : ZI) (k : Int) (O9 : ZI) (D9 : ZR) : Prop := (O9 = List.replicate sites.length 0) ∧ (D9 = J6 sites clients)
def J6l (f : FuncId) (ds : List D) : Orc := bif Nat.beq f 137 then J31 ds else bif Nat.beq f 116 then J10 ds else bif Nat.beq f 138 then J36 ds else bif Nat.beq f 140 then J49 ds else bif Nat.beq f 139 then J5z ds else .no
def J6h (sites : ZI) (clients : ZI) (k : Int) : Ann := .two (.none) (.two (.none) (.cut (.none) (cut2 (fun (O9 : ZI) (D9 : ZR) => J1z sites clients k O9 D9) (fun (O9 : ZI) (D9 : ZR) => [(2, .d false (.int .i64 k)), (8, .ptr 8 0)]) (fun (O9 : ZI) (D9 : ZR) => [(8, .box 39 [.d true (.sl (.ints O9)), .d true (.sl (.rows D9))])])) (fun _ => .none)))
def J3M (sites : ZI) (clients : ZI) (k : Int) : Prop :=
  (PC Try.prog 137 [.sl (.ints sites), .sl (.ints clients)] (.one (.d (.bool (J4 sites clients))))) ∧ ((!(!(J4 sites clients))) = true → (!(!(J4 sites clients))) = true) ∧ ((!(!(J4 sites clients))) = true → (!(!(J4 sites clients))) = true) ∧ ((!(!(J4 sites clients))) = true → (!(!(J4 sites clients))) = true) ∧ ((!(!(J4 sites clients))) = true → PC Try.prog 116 [.int .i64 k, .int .i64 1, .int .i64 (sites.length : Int)] (.one (.d (.bool (inB k 1 (sites.length : Int)))))) ∧ ((!(!(J4 sites clients))) = true → (!(!(J4 sites clients))) = true) ∧ (true = true) ∧ (((!(J4 sites clients)) = true → true = true)) ∧ (((!(J4 sites clients)) = false → (!(!(J4 sites clients))) = true)) ∧ (((cond (!(J4 sites clients)) true (!(inB k 1 (sites.length : Int)))) = true → (((0 : Nat) = 0) ∧ (([] : ZR) = (lgL sites clients k)) ∧ (false = (lmB sites clients k)))) ∧ ((cond (!(J4 sites clients)) true (!(inB k 1 (sites.length : Int)))) = false → (((PC Try.prog 138 [.sl (.ints sites), .sl (.ints clients)] (.one (.d (.agg [.sl (.ints (List.replicate sites.length 0)), .sl (.rows (J6 sites clients))])))) ∧ (∃ O9' : ZI, ∃ D9' : ZR, (J1z sites clients k O9' D9') ∧ (k = k) ∧ (List.replicate sites.length 0 = O9') ∧ (J6 sites clients = D9'))) ∧ (∀ O9 : ZI, ∀ D9 : ZR, (J1z sites clients k O9 D9) → (true = true) ∧ (PC Try.prog 140 [.agg [.sl (.ints O9), .sl (.rows D9)], .int .i64 k] (.one (.d (.sl (.ints (Jj O9 D9 k)))))) ∧ (PC Try.prog 139 [.agg [.sl (.ints O9), .sl (.rows D9)], .sl (.ints (Jj O9 D9 k))] (.tup [.d (.sl (.rows (coL O9 D9 (Jj O9 D9 k)))), .d (.bool (J0 O9 D9 && J3 (Jj O9 D9 k) 0 ((O9.length : Int) - 1) && decide (0 < (Jj O9 D9 k).length)))])) ∧ ((((coL O9 D9 (Jj O9 D9 k)) : ZR) = (lgL sites clients k)) ∧ ((J0 O9 D9 && J3 (Jj O9 D9 k) 0 ((O9.length : Int) - 1) && decide (0 < (Jj O9 D9 k).length)) = (lmB sites clients k)))))))
theorem J5L (sites : ZI) (clients : ZI) (k : Int)  (w_sites : (sites.length : Int) ≤ 9223372036854775807) (w_clients : (clients.length : Int) ≤ 9223372036854775807) : J3M sites clients k := by
  unfold J3M
  refine ⟨J3y sites clients, id, id, id, fun _ => J0X k 1 (sites.length : Int), id, rfl, fun _ => rfl, ?_, ?_, ?_⟩
  ·intro h; rw [h]; rfl
  ·intro b1
   refine ⟨rfl, ?_, ?_⟩
   ·have hq : lmB sites clients k = false := by
      unfold lmB
      revert b1; cases J4 sites clients <;> cases inB k 1 (sites.length : Int) <;> simp
    unfold lgL; rw [hq]; rfl
   have hq : lmB sites clients k = false := by
     unfold lmB
     revert b1; cases J4 sites clients <;> cases inB k 1 (sites.length : Int) <;> simp
   exact hq.symm
  intro b2
  refine ⟨?_, ?_⟩
  ·refine ⟨?_, ?_⟩
   ·refine J3B sites clients ?_
    ·have hq : lmB sites clients k = true := by
       unfold lmB
       revert b2; cases J4 sites clients <;> cases inB k 1 (sites.length : Int) <;> simp
     obtain ⟨m1, m2, m3, m4, m5⟩ := J2 hq
     exact m1
   ·refine ⟨(List.replicate sites.length 0), (J6 sites clients), ?_⟩
    refine ⟨?_, rfl, ?_, ?_⟩
    ·refine ⟨?_, ?_⟩
     ·first | omega | rfl | (intro hg; simp only [nrmT] at hg; omega) | (intro g1 g2; simp [g1, g2]; done) | (intro g1; simp at g1 ⊢; simp [g1]; done) | (simp only [nrmT] at *; omega) | (simp at * <;> omega) | (simp_all <;> omega) | (simp_all; done)
     ·first | omega | rfl | (intro hg; simp only [nrmT] at hg; omega) | (intro g1 g2; simp [g1, g2]; done) | (intro g1; simp at g1 ⊢; simp [g1]; done) | (simp only [nrmT] at *; omega) | (simp at * <;> omega) | (simp_all <;> omega) | (simp_all; done)
    ·first | omega | rfl | (intro hg; simp only [nrmT] at hg; omega) | (intro g1 g2; simp [g1, g2]; done) | (intro g1; simp at g1 ⊢; simp [g1]; done) | (simp only [nrmT] at *; omega) | (simp at * <;> omega) | (simp_all <;> omega) | (simp_all; done)
    first | omega | rfl | (intro hg; simp only [nrmT] at hg; omega) | (intro g1 g2; simp [g1, g2]; done) | (intro g1; simp at g1 ⊢; simp [g1]; done) | (simp only [nrmT] at *; omega) | (simp at * <;> omega) | (simp_all <;> omega) | (simp_all; done)
  intro O9 D9 hJ
  obtain ⟨k1, k2⟩ := hJ
  refine ⟨rfl, ?_, J6e O9 D9 (Jj O9 D9 k), ?_, ?_⟩
  ·refine J4Q O9 D9 k ?_ ?_
   ·have hq : lmB sites clients k = true := by
      unfold lmB
      revert b2; cases J4 sites clients <;> cases inB k 1 (sites.length : Int) <;> simp
    obtain ⟨m1, m2, m3, m4, m5⟩ := J2 hq
    rw [k1, k2]; exact m4
   ·have hq : lmB sites clients k = true := by
      unfold lmB
      revert b2; cases J4 sites clients <;> cases inB k 1 (sites.length : Int) <;> simp
    obtain ⟨m1, m2, m3, m4, m5⟩ := J2 hq
    rw [k1, List.length_replicate]; exact m3
  ·have hq : lmB sites clients k = true := by
     unfold lmB
     revert b2; cases J4 sites clients <;> cases inB k 1 (sites.length : Int) <;> simp
   obtain ⟨m1, m2, m3, m4, m5⟩ := J2 hq
   subst k1 k2
   unfold lgL coL; rw [if_pos hq]; exact if_pos m5
  have hq : lmB sites clients k = true := by
    unfold lmB
    revert b2; cases J4 sites clients <;> cases inB k 1 (sites.length : Int) <;> simp
  obtain ⟨m1, m2, m3, m4, m5⟩ := J2 hq
  subst k1 k2
  rw [hq]; exact m5
theorem J5Q (sites : ZI) (clients : ZI) (k : Int)  : PC Try.prog 43 [.sl (.ints sites), .sl (.ints clients), .int .i64 k] (.tup [.d (.sl (.rows (lgL sites clients k))), .d (.bool (lmB sites clients k))]) :=
  pc_wf @Try.call43 fun hw => pc_by (by kernel_rfl) Try.func43 @Try.call43 (by kernel_rfl) J6l (J6h sites clients k) (by kernel_rfl) (J5L sites clients k hw.1 hw.2.1) (by kernel_rfl)
def J4U : List D → Orc := orcN [some .ints, some .ints, none] fun ds => match ds with
  | [.sl (.ints sites), .sl (.ints clients), .int .i64 k] => some (.tup [.d (.sl (.rows (lgL sites clients k))), .d (.bool (lmB sites clients k))])
  | _ => none
theorem J3H (ss cs : ZI) : (J4 ss cs = true ∧ lfO ss cs = List.replicate ss.length 0 ∧ lfD ss cs = J6 ss cs) ∨ (J4 ss cs = false ∧ lfO ss cs = [] ∧ lfD ss cs = []) := by
  cases h : J4 ss cs with
  | true => exact .inl ⟨rfl, J1c h, J1H h⟩
  | false => exact .inr ⟨rfl, J4l h, J4f h⟩
theorem J7F (ss cs : ZI) (k : Int) (h : J4 ss cs = true) : J2j (lfO ss cs) (lfD ss cs) k = lmV ss cs k ∧ (J0 (lfO ss cs) (lfD ss cs) && inB k 1 ((lfO ss cs).length : Int)) = lmB ss cs k := by
  rw [J1c h, J1H h]
  have e : (J0 (List.replicate ss.length 0) (J6 ss cs) && inB k 1 ((List.replicate ss.length (0 : Int)).length : Int)) = lmB ss cs k := by
    unfold lmB
    rw [J1F h, h, List.length_replicate]
  refine ⟨?_, e⟩
  unfold J2j lmV
  rw [e]
  rfl
def J6w (f : FuncId) (ds : List D) : Orc := bif Nat.beq f 39 then J24 ds else bif Nat.beq f 59 then J2Q ds else .no
def J6m (sites : ZI) (clients : ZI) (k : Int) : Ann := .none
def J3J (sites : ZI) (clients : ZI) (k : Int) : Prop :=
  (PC Try.prog 39 [.sl (.ints sites), .sl (.ints clients)] (.tup [.d (.agg [.sl (.ints (lfO sites clients)), .sl (.rows (lfD sites clients))]), .d (.bool (J4 sites clients))])) ∧ (((!(J4 sites clients)) = true → (((0 : Int) = (lmV sites clients k)) ∧ (false = (lmB sites clients k)))) ∧ ((!(J4 sites clients)) = false → (PC Try.prog 59 [.agg [.sl (.ints (lfO sites clients)), .sl (.rows (lfD sites clients))], .int .i64 k] (.tup [.d (.int .i64 (J2j (lfO sites clients) (lfD sites clients) k)), .d (.bool (J0 (lfO sites clients) (lfD sites clients) && inB k 1 ((lfO sites clients).length : Int)))])) ∧ (((J2j (lfO sites clients) (lfD sites clients) k) = (lmV sites clients k)) ∧ ((J0 (lfO sites clients) (lfD sites clients) && inB k 1 ((lfO sites clients).length : Int)) = (lmB sites clients k)))))
theorem J68 (sites : ZI) (clients : ZI) (k : Int)  (w_sites : (sites.length : Int) ≤ 9223372036854775807) (w_clients : (clients.length : Int) ≤ 9223372036854775807) : J3J sites clients k := by
  unfold J3J
  refine ⟨J2k sites clients, ?_, ?_⟩
  ·intro b1
   try simp only [nrmT] at b1
   refine ⟨?_, ?_⟩
   ·have h9 : J4 sites clients = false := by simpa using b1
    unfold lmV lmB; rw [h9]; rfl
   have h9 : J4 sites clients = false := by simpa using b1
   unfold lmB; rw [h9]; rfl
  intro b2
  try simp only [nrmT] at b2
  refine ⟨J3d (lfO sites clients) (lfD sites clients) k, ?_, ?_⟩
  ·have h9 : J4 sites clients = true := by simpa using b2
   exact (J7F sites clients k h9).1
  have h9 : J4 sites clients = true := by simpa using b2
  exact (J7F sites clients k h9).2
theorem J5A (sites : ZI) (clients : ZI) (k : Int)  : PC Try.prog 69 [.sl (.ints sites), .sl (.ints clients), .int .i64 k] (.tup [.d (.int .i64 (lmV sites clients k)), .d (.bool (lmB sites clients k))]) :=
  pc_wf @Try.call69 fun hw => pc_by (by kernel_rfl) Try.func69 @Try.call69 (by kernel_rfl) J6w (J6m sites clients k) (by kernel_rfl) (J68 sites clients k hw.1 hw.2.1) (by kernel_rfl)
def J55 : List D → Orc := orcN [some .ints, some .ints, none] fun ds => match ds with
  | [.sl (.ints sites), .sl (.ints clients), .int .i64 k] => some (.tup [.d (.int .i64 (lmV sites clients k)), .d (.bool (lmB sites clients k))])
  | _ => none
def J6F (f : FuncId) (ds : List D) : Orc := bif Nat.beq f 39 then J24 ds else bif Nat.beq f 141 then J2B ds else bif Nat.beq f 143 then J2z ds else bif Nat.beq f 142 then J5t ds else .no
def J6t (sites : ZI) (clients : ZI) (k : Int) : Ann := .none
def J3C (sites : ZI) (clients : ZI) (k : Int) : Prop :=
  (PC Try.prog 39 [.sl (.ints sites), .sl (.ints clients)] (.tup [.d (.agg [.sl (.ints (lfO sites clients)), .sl (.rows (lfD sites clients))]), .d (.bool (J4 sites clients))])) ∧ ((!(!(J4 sites clients))) = true → (!(!(J4 sites clients))) = true) ∧ ((!(!(J4 sites clients))) = true → (!(!(J4 sites clients))) = true) ∧ ((!(!(J4 sites clients))) = true → PC Try.prog 141 [.agg [.sl (.ints (lfO sites clients)), .sl (.rows (lfD sites clients))], .int .i64 k] (.one (.d (.bool (J0 (lfO sites clients) (lfD sites clients) && inB k 1 ((lfO sites clients).length : Int)))))) ∧ ((!(!(J4 sites clients))) = true → (!(!(J4 sites clients))) = true) ∧ (true = true) ∧ (((!(J4 sites clients)) = true → true = true)) ∧ (((!(J4 sites clients)) = false → (!(!(J4 sites clients))) = true)) ∧ (((cond (!(J4 sites clients)) true (!(J0 (lfO sites clients) (lfD sites clients) && inB k 1 ((lfO sites clients).length : Int)))) = true → (((lgL sites clients k).length = 0) ∧ (false = (lmB sites clients k)))) ∧ ((cond (!(J4 sites clients)) true (!(J0 (lfO sites clients) (lfD sites clients) && inB k 1 ((lfO sites clients).length : Int)))) = false → (true = true) ∧ (PC Try.prog 143 [.agg [.sl (.ints (lfO sites clients)), .sl (.rows (lfD sites clients))], .int .i64 k] (.one (.d (.sl (.ints (Jj (lfO sites clients) (lfD sites clients) k)))))) ∧ (PC Try.prog 142 [.agg [.sl (.ints (lfO sites clients)), .sl (.rows (lfD sites clients))], .sl (.ints (Jj (lfO sites clients) (lfD sites clients) k))] (.tup [.mat 3 26 (coL (lfO sites clients) (lfD sites clients) (Jj (lfO sites clients) (lfD sites clients) k)), .d (.bool (J0 (lfO sites clients) (lfD sites clients) && J3 (Jj (lfO sites clients) (lfD sites clients) k) 0 (((lfO sites clients).length : Int) - 1) && decide (0 < (Jj (lfO sites clients) (lfD sites clients) k).length)))])) ∧ (((coL (lfO sites clients) (lfD sites clients) (Jj (lfO sites clients) (lfD sites clients) k)).length = (coL (lfO sites clients) (lfD sites clients) (Jj (lfO sites clients) (lfD sites clients) k)).length) ∧ ((coL (lfO sites clients) (lfD sites clients) (Jj (lfO sites clients) (lfD sites clients) k) : ZR) = lgL sites clients k) ∧ ((J0 (lfO sites clients) (lfD sites clients) && J3 (Jj (lfO sites clients) (lfD sites clients) k) 0 (((lfO sites clients).length : Int) - 1) && decide (0 < (Jj (lfO sites clients) (lfD sites clients) k).length)) = (lmB sites clients k)))))
theorem J5r (sites : ZI) (clients : ZI) (k : Int)  (w_sites : (sites.length : Int) ≤ 9223372036854775807) (w_clients : (clients.length : Int) ≤ 9223372036854775807) : J3C sites clients k := by
  unfold J3C
  refine ⟨J2k sites clients, id, id, fun _ => J2P (lfO sites clients) (lfD sites clients) k, id, rfl, fun _ => rfl, ?_, ?_, ?_⟩
  ·intro h; rw [h]; rfl
  ·intro b1
   refine ⟨?_, ?_⟩
   ·have hq : lmB sites clients k = false := by
      unfold lmB
      rcases J3H sites clients with ⟨a1, a2, a3⟩ | ⟨a1, a2, a3⟩
      · have hg9 := J1F a1
        rw [a1] at b1 ⊢
        rw [a2, a3] at b1
        rw [hg9, List.length_replicate] at b1
        revert b1; cases inB k 1 (sites.length : Int) <;> simp
      rw [a1]; rfl
    unfold lgL; rw [hq]; rfl
   have hq : lmB sites clients k = false := by
     unfold lmB
     rcases J3H sites clients with ⟨a1, a2, a3⟩ | ⟨a1, a2, a3⟩
     · have hg9 := J1F a1
       rw [a1] at b1 ⊢
       rw [a2, a3] at b1
       rw [hg9, List.length_replicate] at b1
       revert b1; cases inB k 1 (sites.length : Int) <;> simp
     rw [a1]; rfl
   exact hq.symm
  intro b2
  refine ⟨rfl, ?_, J6V (lfO sites clients) (lfD sites clients) (Jj (lfO sites clients) (lfD sites clients) k), rfl, ?_, ?_⟩
  ·refine J2N (lfO sites clients) (lfD sites clients) k ?_ ?_
   ·have hq : lmB sites clients k = true := by
      unfold lmB
      rcases J3H sites clients with ⟨a1, a2, a3⟩ | ⟨a1, a2, a3⟩
      · have hg9 := J1F a1
        rw [a1] at b2 ⊢
        rw [a2, a3] at b2
        rw [hg9, List.length_replicate] at b2
        revert b2; cases inB k 1 (sites.length : Int) <;> simp
      rw [a1] at b2; simp at b2
    obtain ⟨m1, m2, m3, m4, m5⟩ := J2 hq
    rw [J1c m1, J1H m1]
    exact m4
   ·have hq : lmB sites clients k = true := by
      unfold lmB
      rcases J3H sites clients with ⟨a1, a2, a3⟩ | ⟨a1, a2, a3⟩
      · have hg9 := J1F a1
        rw [a1] at b2 ⊢
        rw [a2, a3] at b2
        rw [hg9, List.length_replicate] at b2
        revert b2; cases inB k 1 (sites.length : Int) <;> simp
      rw [a1] at b2; simp at b2
    obtain ⟨m1, m2, m3, m4, m5⟩ := J2 hq
    rw [J1c m1]
    rw [List.length_replicate]; exact m3
  ·have hq : lmB sites clients k = true := by
     unfold lmB
     rcases J3H sites clients with ⟨a1, a2, a3⟩ | ⟨a1, a2, a3⟩
     · have hg9 := J1F a1
       rw [a1] at b2 ⊢
       rw [a2, a3] at b2
       rw [hg9, List.length_replicate] at b2
       revert b2; cases inB k 1 (sites.length : Int) <;> simp
     rw [a1] at b2; simp at b2
   obtain ⟨m1, m2, m3, m4, m5⟩ := J2 hq
   rw [J1c m1, J1H m1]
   unfold lgL coL; rw [if_pos hq]; exact if_pos m5
  have hq : lmB sites clients k = true := by
    unfold lmB
    rcases J3H sites clients with ⟨a1, a2, a3⟩ | ⟨a1, a2, a3⟩
    · have hg9 := J1F a1
      rw [a1] at b2 ⊢
      rw [a2, a3] at b2
      rw [hg9, List.length_replicate] at b2
      revert b2; cases inB k 1 (sites.length : Int) <;> simp
    rw [a1] at b2; simp at b2
  obtain ⟨m1, m2, m3, m4, m5⟩ := J2 hq
  rw [J1c m1, J1H m1]
  rw [hq]; exact m5
theorem J5H (sites : ZI) (clients : ZI) (k : Int)  : PC Try.prog 45 [.sl (.ints sites), .sl (.ints clients), .int .i64 k] (.tup [.mat 3 26 (lgL sites clients k), .d (.bool (lmB sites clients k))]) :=
  pc_wf @Try.call45 fun hw => pc_by (by kernel_rfl) Try.func45 @Try.call45 (by kernel_rfl) J6F (J6t sites clients k) (by kernel_rfl) (J5r sites clients k hw.1 hw.2.1) (by kernel_rfl)
def J52 : List D → Orc := orcN [some .ints, some .ints, none] fun ds => match ds with
  | [.sl (.ints sites), .sl (.ints clients), .int .i64 k] => some (.tup [.mat 3 26 (lgL sites clients k), .d (.bool (lmB sites clients k))])
  | _ => none
/-- A table that tells a function. -/
def JY (t : ZR) (k m : Nat) (f : Nat → Nat → Int) : Prop := t.length = k + 1 ∧ ∀ c, c ≤ k → (t.getD c []).length = m + 1 ∧ ∀ i, i ≤ m → (t.getD c []).getD i 0 = f c i
theorem J0p {t : ZR} {k m : Nat} {f g : Nat → Nat → Int} (h : JY t k m f) (hg : ∀ c i, c ≤ k → i ≤ m → f c i = g c i) : JY t k m g :=
  ⟨h.1, fun c hc => ⟨(h.2 c hc).1, fun i hi => by rw [(h.2 c hc).2 i hi, hg c i hc hi]⟩⟩
theorem J6K {α : Type} {l : List α} {i k : Nat} {v d : α} (h : k ≠ i) : (l.set i v).getD k d = l.getD k d := by
  simp only [List.getD_eq_getElem?_getD, List.getElem?_set_ne (Ne.symm h)]
theorem J6j {α : Type} {l : List α} {i : Nat} {v d : α} (h : i < l.length) : (l.set i v).getD i d = v := by
  simp only [List.getD_eq_getElem?_getD, List.getElem?_set_self h, Option.getD_some]
theorem J9Y {t : ZR} {k m : Nat} {f : Nat → Nat → Int} (h : JY t k m f) {c i : Nat} (hc : c ≤ k) (hi : i ≤ m) (v : Int) : JY (t.set c ((t.getD c []).set i v)) k m (fun c' i' => if c' = c ∧ i' = i then v else f c' i') := by
  refine ⟨by rw [List.length_set]; exact h.1, fun c' hc' => ?_⟩
  by_cases e : c' = c
  · subst e
    rw [J6j (by have := h.1; omega)]
    obtain ⟨h1, h2⟩ := h.2 c' hc'
    refine ⟨by rw [List.length_set]; exact h1, fun i' hi' => ?_⟩
    by_cases e2 : i' = i
    · subst e2
      show _ = if c' = c' ∧ i' = i' then v else f c' i'
      rw [J6j (by omega), if_pos ⟨rfl, rfl⟩]
    show _ = if c' = c' ∧ i' = i then v else f c' i'
    rw [J6K e2, if_neg (fun q => e2 q.2), h2 i' hi']
  rw [J6K e]
  obtain ⟨h1, h2⟩ := h.2 c' hc'
  exact ⟨h1, fun i' hi' => by
    show _ = if c' = c ∧ i' = i then v else f c' i'
    rw [if_neg (fun q => e q.1), h2 i' hi']⟩
theorem J9I {ss cs : ZI} (h : J4 ss cs = true) : J2G ss.length (J6 ss cs) = true := by
  unfold J2G
  refine allTo_iff.2 fun i hi => allTo_iff.2 fun j hj => allTo_iff.2 fun a ha => allTo_iff.2 fun b hb => ?_
  rw [J3k] at hi hj
  unfold J5E
  rw [J0a hi ha, J0a hi hb, J0a hj hb, J0a hj ha, decide_eq_false]
  · rfl
  unfold ldl
  omega
/-- What the table holds while sites, rows and places are gone through. -/
def tbF (ss cs : ZI) (s c i : Nat) (e : Int) (c' i' : Nat) : Int := if c' = c ∧ i' = i then e else if c < c' ∨ (c' = c ∧ i < i') then dpT ss cs (s + 1) c' i' else dpT ss cs s c' i'
def tbR (ss cs : ZI) (s c : Nat) (i : Int) (c' i' : Nat) : Int := if c < c' ∨ (c' = c ∧ i < (i' : Int)) then dpT ss cs (s + 1) c' i' else dpT ss cs s c' i'
def tbC (ss cs : ZI) (s : Nat) (c : Int) (c' i' : Nat) : Int := if c < (c' : Int) then dpT ss cs (s + 1) c' i' else dpT ss cs s c' i'
theorem Jap (ss cs : ZI) (s i : Nat) : JN ss cs s i i = 0 := by unfold JN; omega
theorem Jag (ss cs : ZI) (s i : Nat) {j : Nat} (hj : 0 < j) : JN ss cs s (j - 1) i = JN ss cs s j i + ldl ss cs s (j - 1) := by
  obtain ⟨q, rfl⟩ : ∃ q, j = q + 1 := ⟨j - 1, by omega⟩
  unfold JN
  rw [Nat.add_sub_cancel, J0x]
  omega
/-- One candidate more. -/
theorem Jae (T : Nat → Int) (ss cs : ZI) (s : Nat) {i j : Nat} (hj : j ≤ i) (e : Int) : dpR T ss cs s i e (i - j + 1) = if 0 ≤ T j ∧ (dpR T ss cs s i e (i - j) < 0 ∨ T j + JN ss cs s j i < dpR T ss cs s i e (i - j)) then T j + JN ss cs s j i else dpR T ss cs s i e (i - j) := by
  rw [J80]
  unfold dpF
  rw [show i - (i - j) = j by omega]
theorem J8L {A B S : Int} : (cond (decide (A ≥ 0)) (cond (decide (B < 0)) true (decide (A + S < B))) false) = true ↔ 0 ≤ A ∧ (B < 0 ∨ A + S < B) := by
  by_cases p1 : A ≥ 0 <;> by_cases p2 : B < 0 <;> by_cases p3 : A + S < B <;> simp [p1, p2, p3] <;> omega
theorem J96 (code : List Nat) : (J0t code J04).length ≤ 8 := by
  have h := (J4u code (c := J04) J7H (lnN code J04).toNat).2
  have hn := J7N code J04
  unfold J0t lnE
  split
  · rw [List.length_append, List.length_cons, List.length_nil]; omega
  split
  · simp
  · omega
/-- The table while a number of it is told: places, what stands there. -/
def J2I (ss cs : ZI) (k s c i j : Int) (t : ZR) : Prop := JY t k.toNat cs.length (tbF ss cs s.toNat c.toNat i.toNat (dpR (dpT ss cs s.toNat (c.toNat - 1)) ss cs s.toNat i.toNat (dpT ss cs s.toNat c.toNat i.toNat) (i - j).toNat))
theorem Jf {ss cs : ZI} {k s c i j : Int} {t : ZR} (hg : J4 ss cs = true) (h : J2I ss cs k s c i j t) (hc : 1 ≤ c ∧ c ≤ k) (hi : 0 ≤ i ∧ i ≤ (cs.length : Int)) (hj : 0 ≤ j ∧ j ≤ i) (hs : 0 ≤ s ∧ s < (ss.length : Int)) :
    (t.length = k.toNat + 1 ∧ (t.getD (c - 1).toNat []).length = cs.length + 1 ∧ (t.getD c.toNat []).length = cs.length + 1) ∧ (t.getD (c - 1).toNat []).getD j.toNat 0 = dpT ss cs s.toNat (c.toNat - 1) j.toNat ∧
    (t.getD c.toNat []).getD i.toNat 0 = dpR (dpT ss cs s.toNat (c.toNat - 1)) ss cs s.toNat i.toNat (dpT ss cs s.toNat c.toNat i.toNat) (i.toNat - j.toNat) ∧ (-1 ≤ dpT ss cs s.toNat (c.toNat - 1) j.toNat ∧ dpT ss cs s.toNat (c.toNat - 1) j.toNat ≤ 693) ∧ (0 ≤ JN ss cs s.toNat j.toNat i.toNat ∧ JN ss cs s.toNat j.toNat i.toNat ≤ 693) := by
  obtain ⟨y1, y2, y3, y4, y5⟩ := J1 hg
  obtain ⟨tl, tr⟩ := h
  have r1 := tr (c.toNat - 1) (by omega)
  have r2 := tr c.toNat (by omega)
  have e1 := r1.2 j.toNat (by omega)
  have e2 := r2.2 i.toNat (by omega)
  unfold tbF at e1 e2
  rw [if_neg (show ¬ (c.toNat - 1 = c.toNat ∧ j.toNat = i.toNat) by omega), if_neg (show ¬ (c.toNat < c.toNat - 1 ∨ c.toNat - 1 = c.toNat ∧ i.toNat < j.toNat) by omega)] at e1
  rw [if_pos ⟨rfl, rfl⟩, show (i - j).toNat = i.toNat - j.toNat by omega] at e2
  have d1 := J5N hg s.toNat (by omega) (c.toNat - 1) j.toNat (by omega)
  have d2 := J8O hg (s := s.toNat) (j := j.toNat) (i := i.toNat) (by omega) (by omega) (by omega)
  have d3 := J5e (ss := ss) (cs := cs) (s := s.toNat) (j := j.toNat) (i := i.toNat) (by omega)
  rw [show (c - 1).toNat = c.toNat - 1 by omega]
  exact ⟨⟨tl, r1.1, r2.1⟩, e1, e2, by omega, by omega⟩
theorem JaA {ss cs : ZI} {k s c i j : Int} {t : ZR} (hg : J4 ss cs = true) (h : J2I ss cs k s c i j t) (hc : 1 ≤ c ∧ c ≤ k) (hi : 0 ≤ i ∧ i ≤ (cs.length : Int)) (hj : 0 ≤ j ∧ j ≤ i) (hs : 0 ≤ s ∧ s < (ss.length : Int)) :
    dpR (dpT ss cs s.toNat (c.toNat - 1)) ss cs s.toNat i.toNat (dpT ss cs s.toNat c.toNat i.toNat) (i - (j - 1)).toNat = if 0 ≤ (t.getD (c - 1).toNat []).getD j.toNat 0 ∧ ((t.getD c.toNat []).getD i.toNat 0 < 0 ∨ (t.getD (c - 1).toNat []).getD j.toNat 0 + JN ss cs s.toNat j.toNat i.toNat < (t.getD c.toNat []).getD i.toNat 0) then (t.getD (c - 1).toNat []).getD j.toNat 0 + JN ss cs s.toNat j.toNat i.toNat else (t.getD c.toNat []).getD i.toNat 0 := by
  obtain ⟨_, e1, e2, _⟩ := Jf hg h hc hi hj hs
  rw [e1, e2, show (i - (j - 1)).toNat = i.toNat - j.toNat + 1 by omega]
  exact Jae (dpT ss cs s.toNat (c.toNat - 1)) ss cs s.toNat (i := i.toNat) (j := j.toNat) (by omega) (dpT ss cs s.toNat c.toNat i.toNat)
theorem J87 {ss cs : ZI} {k s c i j sum : Int} {t : ZR} (hg : J4 ss cs = true) (h : J2I ss cs k s c i j t) (hc : 1 ≤ c ∧ c ≤ k) (hi : 0 ≤ i ∧ i ≤ (cs.length : Int)) (hj : 0 ≤ j ∧ j ≤ i) (hs : 0 ≤ s ∧ s < (ss.length : Int)) (hsum : sum = JN ss cs s.toNat j.toNat i.toNat)
    (hb : (cond (decide ((t.getD (c - 1).toNat []).getD j.toNat 0 ≥ 0)) (cond (decide ((t.getD c.toNat []).getD i.toNat 0 < 0)) true (decide ((t.getD (c - 1).toNat []).getD j.toNat 0 + sum < (t.getD c.toNat []).getD i.toNat 0))) false) = true) :
    J2I ss cs k s c i (j - 1) (t.set c.toNat ((t.getD c.toNat []).set i.toNat ((t.getD (c - 1).toNat []).getD j.toNat 0 + sum))) := by
  have st := JaA hg h hc hi hj hs
  rw [← hsum, if_pos (J8L.1 hb)] at st
  unfold J2I
  rw [st]
  refine J0p (J9Y h (by omega) (by omega) _) fun c9 i9 _ _ => ?_
  unfold tbF
  by_cases q : c9 = c.toNat ∧ i9 = i.toNat
  · rw [if_pos q, if_pos q]
  rw [if_neg q, if_neg q, if_neg q]
theorem J9k {ss cs : ZI} {k s c i j sum : Int} {t : ZR} (hg : J4 ss cs = true) (h : J2I ss cs k s c i j t) (hc : 1 ≤ c ∧ c ≤ k) (hi : 0 ≤ i ∧ i ≤ (cs.length : Int)) (hj : 0 ≤ j ∧ j ≤ i) (hs : 0 ≤ s ∧ s < (ss.length : Int)) (hsum : sum = JN ss cs s.toNat j.toNat i.toNat)
    (hb : (cond (decide ((t.getD (c - 1).toNat []).getD j.toNat 0 ≥ 0)) (cond (decide ((t.getD c.toNat []).getD i.toNat 0 < 0)) true (decide ((t.getD (c - 1).toNat []).getD j.toNat 0 + sum < (t.getD c.toNat []).getD i.toNat 0))) false) = false) :
    J2I ss cs k s c i (j - 1) t := by
  have st := JaA hg h hc hi hj hs
  have e2 := (Jf hg h hc hi hj hs).2.2.1
  rw [← hsum, if_neg (fun hh => absurd (J8L.2 hh) (by rw [hb]; decide)), e2] at st
  unfold J2I
  rw [st]
  unfold J2I at h
  rw [show (i - j).toNat = i.toNat - j.toNat by omega] at h
  exact h
theorem Ja8 {ss cs : ZI} {k s c i : Int} {t : ZR} (h : JY t k.toNat cs.length (tbR ss cs s.toNat c.toNat i)) (hi : 0 ≤ i) : J2I ss cs k s c i i t := by
  refine J0p h fun c9 i9 _ _ => ?_
  unfold tbR tbF
  rw [show (i - i).toNat = 0 by omega]
  by_cases q : c9 = c.toNat ∧ i9 = i.toNat
  · rw [if_pos q, if_neg (by omega), q.1, q.2]; rfl
  rw [if_neg q]
  by_cases q2 : c.toNat < c9 ∨ (c9 = c.toNat ∧ i < (i9 : Int))
  · rw [if_pos q2, if_pos (by omega)]
  rw [if_neg q2, if_neg (by omega)]
theorem JaJ {ss cs : ZI} {k s c i j : Int} {t : ZR} (h : J2I ss cs k s c i j t) (hc : 1 ≤ c) (hi : 0 ≤ i) (hj : j = -1) : JY t k.toNat cs.length (tbR ss cs s.toNat c.toNat (i - 1)) := by
  subst hj
  refine J0p h fun c9 i9 _ _ => ?_
  unfold tbF tbR
  have hrow := J4s ss cs s.toNat (c.toNat - 1) i.toNat
  rw [show c.toNat - 1 + 1 = c.toNat by omega] at hrow
  rw [show (i - -1).toNat = i.toNat + 1 by omega, ← hrow]
  by_cases q : c9 = c.toNat ∧ i9 = i.toNat
  · rw [if_pos q, if_pos (by omega), q.1, q.2]
  rw [if_neg q]
  by_cases q2 : c.toNat < c9 ∨ (c9 = c.toNat ∧ i.toNat < i9)
  · rw [if_pos q2, if_pos (by omega)]
  rw [if_neg q2, if_neg (by omega)]
theorem JaI {ss cs : ZI} {k s c : Int} {t : ZR} (h : JY t k.toNat cs.length (tbC ss cs s.toNat c)) (hc : 0 ≤ c) : JY t k.toNat cs.length (tbR ss cs s.toNat c.toNat (cs.length : Int)) := by
  refine J0p h fun c9 i9 _ _ => ?_
  unfold tbC tbR
  by_cases q : c < (c9 : Int)
  · rw [if_pos q, if_pos (by omega)]
  rw [if_neg q, if_neg (by omega)]
theorem JaF {ss cs : ZI} {k s c i : Int} {t : ZR} (h : JY t k.toNat cs.length (tbR ss cs s.toNat c.toNat i)) (hc : 1 ≤ c) (hi : i = -1) : JY t k.toNat cs.length (tbC ss cs s.toNat (c - 1)) := by
  refine J0p h fun c9 i9 _ _ => ?_
  unfold tbR tbC
  by_cases q : c.toNat < c9 ∨ (c9 = c.toNat ∧ i < (i9 : Int))
  · rw [if_pos q, if_pos (by omega)]
  rw [if_neg q, if_neg (by omega)]
theorem Jal {ss cs : ZI} {k s : Int} {t : ZR} (h : JY t k.toNat cs.length (dpT ss cs s.toNat)) (hk : 0 ≤ k) : JY t k.toNat cs.length (tbC ss cs s.toNat k) := by
  refine J0p h fun c9 i9 _ _ => ?_
  unfold tbC
  rw [if_neg (by omega)]
theorem Jad {ss cs : ZI} {k s c : Int} {t : ZR} (h : JY t k.toNat cs.length (tbC ss cs s.toNat c)) (hc : c = 0) (hs : 0 ≤ s) : JY t k.toNat cs.length (dpT ss cs (s + 1).toNat) := by
  rw [show (s + 1).toNat = s.toNat + 1 by omega]
  refine J0p h fun c9 i9 _ _ => ?_
  unfold tbC
  by_cases q : c < (c9 : Int)
  · rw [if_pos q]
  rw [if_neg q, show c9 = 0 by omega]; rfl
theorem J4t {ss cs : ZI} {s i j : Int} (hj : 0 < j) {sum f : Int} (hs : sum = JN ss cs s.toNat j.toNat i.toNat) (hf : f = cs.getD (j - 1).toNat 0 - ss.getD s.toNat 0) : (f < 0 → sum + (-f) = JN ss cs s.toNat (j - 1).toNat i.toNat) ∧ (¬ f < 0 → sum + f = JN ss cs s.toNat (j - 1).toNat i.toNat) := by
  have sd := Jag ss cs s.toNat i.toNat (j := j.toNat) (by omega)
  rw [show (j - 1).toNat = j.toNat - 1 by omega] at hf ⊢
  rw [sd, ← hs]
  unfold ldl
  constructor <;> intro h <;> omega
abbrev J0y (code : List Nat) (ss : ZI) (cs : ZI) (c1 : Cur) : Prop := (okC c1 2000000) ∧ (ss.length ≤ 8)
abbrev J0f (code : List Nat) (P : ZI) (L : ZI) (kk : Int) : Prop := (P.length ≤ 8)
def J0W (code : List Nat) : Ex := ex3 0 (fun (P : ZI) (L : ZI) (kk : Int) => J0f code P L kk) (fun (P : ZI) (L : ZI) (kk : Int) => []) (fun (P : ZI) (L : ZI) (kk : Int) => .tup [.d (.sl (.ints P)), .d (.sl (.ints L)), .d (.int .i64 kk)])
def J4b (f : FuncId) (ds : List D) : Orc := .no
def J4j (code : List Nat) : Ann := .two (.none) (.two (.none) (.cut (.mark [] [(1, .cell [.int .i64 ((JC code J04).pos), .int .u64 ((JC code J04).seed)] (.tup [.own 3 (.ints (J0t code J04)), .own 3 (.ints (J0H code J04))]))]) (cut3 (fun (ss : ZI) (cs : ZI) (c1 : Cur) => J0y code ss cs c1) (fun (ss : ZI) (cs : ZI) (c1 : Cur) => [(5, .ptr 10 0), (6, .own 1500200 ss.length), (7, .own 1500201 cs.length)]) (fun (ss : ZI) (cs : ZI) (c1 : Cur) => [(1500200, .arr true 3 (.ints ss)), (1500201, .arr true 3 (.ints cs)), (10, .box 98 [.d false (.sl (.bytes code)), .d true (.int .i64 c1.pos), .d true (.int .u64 c1.seed)])])) (fun g => (fun (ss : ZI) (cs : ZI) (c1 : Cur) => .two (.mark [] [(6, .cell [.int .i64 ((J5 code c1 ((ss.length : Int) + 2)).pos), .int .u64 ((J5 code c1 ((ss.length : Int) + 2)).seed)] (.one (.d (.int .i64 (J7 code c1 ((ss.length : Int) + 2)))))), (9, .cell [.int .i64 ((J5 code (J5 code c1 ((ss.length : Int) + 2)) 2).pos), .int .u64 ((J5 code (J5 code c1 ((ss.length : Int) + 2)) 2).seed)] (.one (.d (.int .i64 (J7 code (J5 code c1 ((ss.length : Int) + 2)) 2)))))]) (.none)) (g.1) (g.2.1) (g.2.2))))
def J2w (code : List Nat) : Prop :=
  (((PK Try.prog 125 98 (.sl (.bytes code)) [.int .i64 0, .int .u64 0] [.int .i64 ((JC code J04).pos), .int .u64 ((JC code J04).seed)] [] (.tup [.own 3 (.ints (J0t code J04)), .own 3 (.ints (J0H code J04))])) ∧ (∃ ss' : ZI, ∃ cs' : ZI, ∃ c1' : Cur, (J0y code ss' cs' c1') ∧ ((J0t code J04).length = ss'.length) ∧ ((J0H code J04).length = cs'.length) ∧ (J0t code J04 = ss') ∧ (J0H code J04 = cs') ∧ (code = code) ∧ ((JC code J04).pos = c1'.pos) ∧ ((JC code J04).seed = c1'.seed))) ∧ (∀ ss : ZI, ∀ cs : ZI, ∀ c1 : Cur, (J0y code ss cs c1) → (I6 ((ss.length : Int) + 2)) ∧ (PK Try.prog 107 98 (.sl (.bytes code)) [.int .i64 c1.pos, .int .u64 c1.seed] [.int .i64 ((J5 code c1 ((ss.length : Int) + 2)).pos), .int .u64 ((J5 code c1 ((ss.length : Int) + 2)).seed)] [.int .i64 ((ss.length : Int) + 2)] (.one (.d (.int .i64 (J7 code c1 ((ss.length : Int) + 2)))))) ∧ (I6 ((J7 code c1 ((ss.length : Int) + 2)) + 1)) ∧ (PK Try.prog 107 98 (.sl (.bytes code)) [.int .i64 ((J5 code c1 ((ss.length : Int) + 2)).pos), .int .u64 ((J5 code c1 ((ss.length : Int) + 2)).seed)] [.int .i64 ((J5 code (J5 code c1 ((ss.length : Int) + 2)) 2).pos), .int .u64 ((J5 code (J5 code c1 ((ss.length : Int) + 2)) 2).seed)] [.int .i64 2] (.one (.d (.int .i64 (J7 code (J5 code c1 ((ss.length : Int) + 2)) 2))))) ∧ (I6 (((J7 code c1 ((ss.length : Int) + 2)) + 1) - (J7 code (J5 code c1 ((ss.length : Int) + 2)) 2))) ∧ (∃ P' : ZI, ∃ L' : ZI, ∃ kk' : Int, (J0f code P' L' kk') ∧ (ss.length = ss.length) ∧ ((ss : ZI) = P') ∧ (cs.length = cs.length) ∧ ((cs : ZI) = L') ∧ ((((J7 code c1 ((ss.length : Int) + 2)) + 1) - (J7 code (J5 code c1 ((ss.length : Int) + 2)) 2)) = kk'))))
theorem J42 (code : List Nat) (hb : ∀ x9 ∈ code, x9 < 256) (w_code : (code.length : Int) ≤ 9223372036854775807) : J2w code := by
  unfold J2w
  refine ⟨?_, ?_⟩
  ·refine ⟨?_, ?_⟩
   ·refine J5G code J04 ?_ ?_
    ·exact hb
    ·exact Js J7H (by omega)
   ·refine ⟨(J0t code J04), (J0H code J04), (JC code J04), ?_⟩
    refine ⟨?_, rfl, rfl, ?_, ?_, rfl, rfl, rfl⟩
    ·refine ⟨?_, ?_⟩
     ·exact Js (by repeat (first | assumption | apply J0u | apply J6i | apply J0v | exact J7H)) (by omega)
     ·exact J96 code
    ·first | omega | rfl | (intro hg; simp only [nrmT] at hg; omega) | (intro g1 g2; simp [g1, g2]; done) | (intro g1; simp at g1 ⊢; simp [g1]; done) | (simp only [nrmT] at *; omega) | (simp at * <;> omega) | (simp_all <;> omega) | (simp_all; done)
    first | omega | rfl | (intro hg; simp only [nrmT] at hg; omega) | (intro g1 g2; simp [g1, g2]; done) | (intro g1; simp at g1 ⊢; simp [g1]; done) | (simp only [nrmT] at *; omega) | (simp at * <;> omega) | (simp_all <;> omega) | (simp_all; done)
  intro ss cs c1 hJ
  obtain ⟨q1, q2⟩ := hJ
  refine ⟨?_, ?_, ?_, ?_, ?_, ?_⟩
  ·first | omega | rfl | (intro hg; simp only [nrmT] at hg; omega) | (intro g1 g2; simp [g1, g2]; done) | (intro g1; simp at g1 ⊢; simp [g1]; done) | (simp only [nrmT] at *; omega) | (simp at * <;> omega) | (simp_all <;> omega) | (simp_all; done)
  ·refine JD code c1 ((ss.length : Int) + 2) ?_ ?_
   ·exact hb
   ·exact Js (by repeat (first | assumption | apply J0u | apply J6i | apply J0v | exact J7H)) (by omega)
  ·have v1 := JK code c1 (n := (ss.length : Int) + 2) (by omega)
   have v2 := JK code (J5 code c1 ((ss.length : Int) + 2)) (n := 2) (by omega)
   omega
  ·refine JD code (J5 code c1 ((ss.length : Int) + 2)) 2 ?_ ?_
   ·exact hb
   ·exact Js (by repeat (first | assumption | apply J0u | apply J6i | apply J0v | exact J7H)) (by omega)
  ·have v1 := JK code c1 (n := (ss.length : Int) + 2) (by omega)
   have v2 := JK code (J5 code c1 ((ss.length : Int) + 2)) (n := 2) (by omega)
   omega
  refine ⟨ss, cs, (((J7 code c1 ((ss.length : Int) + 2)) + 1) - (J7 code (J5 code c1 ((ss.length : Int) + 2)) 2)), ?_⟩
  refine ⟨?_, rfl, rfl, rfl, rfl, rfl⟩
  ·unfold J0f
   assumption
theorem J44 (code : List Nat) (hb : ∀ x9 ∈ code, x9 < 256) : PE Try.prog 68 [.sl (.bytes code)] (J0W code) :=
  pe_wf @Try.call68 fun hw => pe_by (by kernel_rfl) Try.func68 @Try.call68 (by kernel_rfl) J4b (J4j code) (by kernel_rfl) (J42 code hb hw.1) (by kernel_rfl)
abbrev l_FnLines_JJ0 (code : List Nat) (ss : ZI) (cs : ZI) (k : Int) (next : Int) (i : Int) : Prop := (0 ≤ i ∧ i ≤ ((lgL ss cs k).length : Int)) ∧ (next = ((clC (J6 ss cs) (lmS ss cs k) i.toNat : Nat) : Int))
abbrev l_FnLines_mJ0 (code : List Nat) (ss : ZI) (cs : ZI) (k : Int) (next : Int) (i : Int) : Nat := ((lgL ss cs k).length - i).toNat
abbrev l_FnLines_JA0 (code : List Nat) (ss : ZI) (cs : ZI) (k : Int) : Prop := True
abbrev l_FnLines_JJ1 (code : List Nat) (ss : ZI) (cs : ZI) (k : Int) (next : Int) (i : Int) (next2 : Int) (j : Int) : Prop := (0 ≤ j ∧ j ≤ (((lgL ss cs k).getD i.toNat []).length : Int)) ∧ (next2 = next + j)
abbrev l_FnLines_mJ1 (code : List Nat) (ss : ZI) (cs : ZI) (k : Int) (next : Int) (i : Int) (next2 : Int) (j : Int) : Nat := (((lgL ss cs k).getD i.toNat []).length - j).toNat
abbrev l_FnLines_JJ2 (code : List Nat) (ss : ZI) (cs : ZI) (k : Int) (table : ZR) (c : Int) : Prop := (0 ≤ c ∧ c ≤ k + 1) ∧ (table.length = c.toNat) ∧ (∀ c9, c9 < c.toNat → (table.getD c9 []).length = cs.length + 1 ∧ ∀ i9, i9 ≤ cs.length → (table.getD c9 []).getD i9 0 = if i9 = 0 then 0 else -1)
abbrev l_FnLines_mJ2 (code : List Nat) (ss : ZI) (cs : ZI) (k : Int) (table : ZR) (c : Int) : Nat := (k + 1 - c).toNat
abbrev l_FnLines_JA2 (code : List Nat) (ss : ZI) (cs : ZI) (k : Int) (table1 : ZR) : Prop := (JY table1 k.toNat cs.length (dpT ss cs 0))
abbrev l_FnLines_JJ3 (code : List Nat) (ss : ZI) (cs : ZI) (k : Int) (table : ZR) (c : Int) (row : ZI) (i2 : Int) : Prop := (1 ≤ i2 ∧ i2 ≤ (cs.length : Int) + 1) ∧ (row.length = cs.length + 1) ∧ (∀ i9, i9 ≤ cs.length → row.getD i9 0 = if 0 < i9 ∧ (i9 : Int) < i2 then -1 else 0)
abbrev l_FnLines_mJ3 (code : List Nat) (ss : ZI) (cs : ZI) (k : Int) (table : ZR) (c : Int) (row : ZI) (i2 : Int) : Nat := ((cs.length : Int) + 1 - i2).toNat
abbrev l_FnLines_JJ4 (code : List Nat) (ss : ZI) (cs : ZI) (k : Int) (table1 : ZR) (table2 : ZR) (s : Int) : Prop := (0 ≤ s ∧ s ≤ (ss.length : Int)) ∧ (JY table2 k.toNat cs.length (dpT ss cs s.toNat))
abbrev l_FnLines_mJ4 (code : List Nat) (ss : ZI) (cs : ZI) (k : Int) (table1 : ZR) (table2 : ZR) (s : Int) : Nat := ((ss.length : Int) - s).toNat
abbrev l_FnLines_JJ5 (code : List Nat) (ss : ZI) (cs : ZI) (k : Int) (table1 : ZR) (table2 : ZR) (s : Int) (table3 : ZR) (c3 : Int) : Prop := (0 ≤ c3 ∧ c3 ≤ k) ∧ (JY table3 k.toNat cs.length (tbC ss cs s.toNat c3))
abbrev l_FnLines_mJ5 (code : List Nat) (ss : ZI) (cs : ZI) (k : Int) (table1 : ZR) (table2 : ZR) (s : Int) (table3 : ZR) (c3 : Int) : Nat := c3.toNat
abbrev l_FnLines_JJ6 (code : List Nat) (ss : ZI) (cs : ZI) (k : Int) (table1 : ZR) (table2 : ZR) (s : Int) (table3 : ZR) (c3 : Int) (table4 : ZR) (i4 : Int) : Prop := (-1 ≤ i4 ∧ i4 ≤ (cs.length : Int)) ∧ (JY table4 k.toNat cs.length (tbR ss cs s.toNat c3.toNat i4))
abbrev l_FnLines_mJ6 (code : List Nat) (ss : ZI) (cs : ZI) (k : Int) (table1 : ZR) (table2 : ZR) (s : Int) (table3 : ZR) (c3 : Int) (table4 : ZR) (i4 : Int) : Nat := (i4 + 1).toNat
abbrev l_FnLines_JJ7 (code : List Nat) (ss : ZI) (cs : ZI) (k : Int) (table1 : ZR) (table2 : ZR) (s : Int) (table3 : ZR) (c3 : Int) (table4 : ZR) (i4 : Int) (table5 : ZR) (sum : Int) (j5 : Int) : Prop := (-1 ≤ j5 ∧ j5 ≤ i4) ∧ (sum = JN ss cs s.toNat j5.toNat i4.toNat) ∧ (J2I ss cs k s c3 i4 j5 table5)
abbrev l_FnLines_mJ7 (code : List Nat) (ss : ZI) (cs : ZI) (k : Int) (table1 : ZR) (table2 : ZR) (s : Int) (table3 : ZR) (c3 : Int) (table4 : ZR) (i4 : Int) (table5 : ZR) (sum : Int) (j5 : Int) : Nat := (j5 + 1).toNat
abbrev l_FnLines_JR3 (code : List Nat) (ss : ZI) (cs : ZI) (k : Int) : Prop := (ss.length ≤ 8)
def l_FnLines_C (f : FuncId) (ds : List D) : Orc := bif Nat.beq f 14 then J8U ds else bif Nat.beq f 69 then J55 ds else bif Nat.beq f 70 then J58 ds else bif Nat.beq f 45 then J52 ds else bif Nat.beq f 43 then J4U ds else bif Nat.beq f 71 then J4p ds else bif Nat.beq f 39 then J24 ds else bif Nat.beq f 72 then J5X ds else bif Nat.beq f 54 then J7P ds else bif Nat.beq f 58 then J6H ds else bif Nat.beq f 59 then J2Q ds else .no
def l_FnLines_A (code : List Nat) : Ann := .two (.none) (.two (.none) (.cut (.exr (.ex [] 1 (J0W code) (fun g => (fun (Pr3 : ZI) (Lr3 : ZI) (kkr3 : Int) => .ms [] []) (g.1) (g.2.1) (g.2.2)))) (cut3 (fun (ss : ZI) (cs : ZI) (k : Int) => l_FnLines_JR3 code ss cs k) (fun (ss : ZI) (cs : ZI) (k : Int) => [(3, .d true (.sl (.ints ss))), (4, .d true (.sl (.ints cs))), (5, .d true (.int .i64 k))]) (fun (ss : ZI) (cs : ZI) (k : Int) => [])) (fun g => (fun (ss : ZI) (cs : ZI) (k : Int) => .two (.none) (.two (.none) (.two (.none) (.two (.none) (.two (.none) (.two (.none) (.two (.none) (.two (.none) (.two (.none) (.two (.none) (.two (.none) (.cut (.two (.none) (.loop (cut2 (fun (next : Int) (i : Int) => l_FnLines_JJ0 code ss cs k next i) (fun (next : Int) (i : Int) => [(3, .d true (.sl (.ints ss))), (4, .d true (.sl (.ints cs))), (5, .d true (.int .i64 k)), (6, .d true (.int .i64 (lmV ss cs k))), (10, .own 71 ((lgL ss cs k).length)), (22, .d true (.int .i64 next)), (23, .d true (.int .i64 i))]) (fun (next : Int) (i : Int) => [(71, .mat 3 26 (lgL ss cs k) none)])) (fun g => l_FnLines_mJ0 code ss cs k g.1 g.2) (fun g => (fun (next : Int) (i : Int) => .two (.none) (.two (.two (.none) (.loop (cut2 (fun (next2 : Int) (j : Int) => l_FnLines_JJ1 code ss cs k next i next2 j) (fun (next2 : Int) (j : Int) => [(3, .d true (.sl (.ints ss))), (4, .d true (.sl (.ints cs))), (5, .d true (.int .i64 k)), (6, .d true (.int .i64 (lmV ss cs k))), (10, .own 71 ((lgL ss cs k).length)), (22, .d true (.int .i64 next2)), (23, .d true (.int .i64 i)), (24, .d true (.int .i64 j))]) (fun (next2 : Int) (j : Int) => [(71, .mat 3 26 (lgL ss cs k) none)])) (fun g => l_FnLines_mJ1 code ss cs k next i g.1 g.2) (fun _ => .none))) (.none))) (g.1) (g.2)))) (cut0 (l_FnLines_JA0 code ss cs k ) ([(3, .d true (.sl (.ints ss))), (4, .d true (.sl (.ints cs))), (5, .d true (.int .i64 k)), (6, .d true (.int .i64 (lmV ss cs k)))]) ([])) (fun _ => .two (.none) (.two (.none) (.cut (.two (.none) (.loop (cut2 (fun (table : ZR) (c : Int) => l_FnLines_JJ2 code ss cs k table c) (fun (table : ZR) (c : Int) => [(3, .d true (.sl (.ints ss))), (4, .d true (.sl (.ints cs))), (5, .d true (.int .i64 k)), (6, .d true (.int .i64 (lmV ss cs k))), (25, .d true (.int .i64 (ss.length : Int))), (26, .d true (.int .i64 (cs.length : Int))), (27, .own 1000200 table.length), (28, .d true (.int .i64 c))]) (fun (table : ZR) (c : Int) => [(1000200, .mat 3 26 table none)])) (fun g => l_FnLines_mJ2 code ss cs k g.1 g.2) (fun g => (fun (table : ZR) (c : Int) => .two (.none) (.two (.two (.none) (.two (.two (.none) (.loop (cut2 (fun (row : ZI) (i2 : Int) => l_FnLines_JJ3 code ss cs k table c row i2) (fun (row : ZI) (i2 : Int) => [(3, .d true (.sl (.ints ss))), (4, .d true (.sl (.ints cs))), (5, .d true (.int .i64 k)), (6, .d true (.int .i64 (lmV ss cs k))), (25, .d true (.int .i64 (ss.length : Int))), (26, .d true (.int .i64 (cs.length : Int))), (27, .own 1000200 table.length), (28, .d true (.int .i64 c)), (29, .own 189 row.length), (30, .d true (.int .i64 i2))]) (fun (row : ZI) (i2 : Int) => [(189, .arr true 3 (.ints row)), (1000200, .mat 3 26 table none)])) (fun g => l_FnLines_mJ3 code ss cs k table c g.1 g.2) (fun _ => .none))) (.none))) (.none))) (g.1) (g.2)))) (cut1 (fun (table1 : ZR) => l_FnLines_JA2 code ss cs k table1) (fun (table1 : ZR) => [(3, .d true (.sl (.ints ss))), (4, .d true (.sl (.ints cs))), (5, .d true (.int .i64 k)), (6, .d true (.int .i64 (lmV ss cs k))), (25, .d true (.int .i64 (ss.length : Int))), (26, .d true (.int .i64 (cs.length : Int))), (27, .own 1000250 table1.length)]) (fun (table1 : ZR) => [(1000250, .mat 3 26 table1 none)])) (fun g => (fun (table1 : ZR) => .two (.two (.none) (.loop (cut2 (fun (table2 : ZR) (s : Int) => l_FnLines_JJ4 code ss cs k table1 table2 s) (fun (table2 : ZR) (s : Int) => [(3, .d true (.sl (.ints ss))), (4, .d true (.sl (.ints cs))), (5, .d true (.int .i64 k)), (6, .d true (.int .i64 (lmV ss cs k))), (25, .d true (.int .i64 (ss.length : Int))), (26, .d true (.int .i64 (cs.length : Int))), (27, .own 1000250 table2.length), (31, .d true (.int .i64 s))]) (fun (table2 : ZR) (s : Int) => [(1000250, .mat 3 26 table2 none)])) (fun g => l_FnLines_mJ4 code ss cs k table1 g.1 g.2) (fun g => (fun (table2 : ZR) (s : Int) => .two (.none) (.two (.two (.none) (.loop (cut2 (fun (table3 : ZR) (c3 : Int) => l_FnLines_JJ5 code ss cs k table1 table2 s table3 c3) (fun (table3 : ZR) (c3 : Int) => [(3, .d true (.sl (.ints ss))), (4, .d true (.sl (.ints cs))), (5, .d true (.int .i64 k)), (6, .d true (.int .i64 (lmV ss cs k))), (25, .d true (.int .i64 (ss.length : Int))), (26, .d true (.int .i64 (cs.length : Int))), (27, .own 1000250 table3.length), (31, .d true (.int .i64 s)), (32, .d true (.int .i64 c3))]) (fun (table3 : ZR) (c3 : Int) => [(1000250, .mat 3 26 table3 none)])) (fun g => l_FnLines_mJ5 code ss cs k table1 table2 s g.1 g.2) (fun g => (fun (table3 : ZR) (c3 : Int) => .two (.none) (.two (.two (.none) (.loop (cut2 (fun (table4 : ZR) (i4 : Int) => l_FnLines_JJ6 code ss cs k table1 table2 s table3 c3 table4 i4) (fun (table4 : ZR) (i4 : Int) => [(3, .d true (.sl (.ints ss))), (4, .d true (.sl (.ints cs))), (5, .d true (.int .i64 k)), (6, .d true (.int .i64 (lmV ss cs k))), (25, .d true (.int .i64 (ss.length : Int))), (26, .d true (.int .i64 (cs.length : Int))), (27, .own 1000250 table4.length), (31, .d true (.int .i64 s)), (32, .d true (.int .i64 c3)), (33, .d true (.int .i64 i4))]) (fun (table4 : ZR) (i4 : Int) => [(1000250, .mat 3 26 table4 none)])) (fun g => l_FnLines_mJ6 code ss cs k table1 table2 s table3 c3 g.1 g.2) (fun g => (fun (table4 : ZR) (i4 : Int) => .two (.none) (.two (.two (.none) (.two (.none) (.loop (cut3 (fun (table5 : ZR) (sum : Int) (j5 : Int) => l_FnLines_JJ7 code ss cs k table1 table2 s table3 c3 table4 i4 table5 sum j5) (fun (table5 : ZR) (sum : Int) (j5 : Int) => [(3, .d true (.sl (.ints ss))), (4, .d true (.sl (.ints cs))), (5, .d true (.int .i64 k)), (6, .d true (.int .i64 (lmV ss cs k))), (25, .d true (.int .i64 (ss.length : Int))), (26, .d true (.int .i64 (cs.length : Int))), (27, .own 1000250 table5.length), (31, .d true (.int .i64 s)), (32, .d true (.int .i64 c3)), (33, .d true (.int .i64 i4)), (34, .d true (.int .i64 sum)), (35, .d true (.int .i64 j5))]) (fun (table5 : ZR) (sum : Int) (j5 : Int) => [(1000250, .mat 3 26 table5 none)])) (fun g => l_FnLines_mJ7 code ss cs k table1 table2 s table3 c3 table4 i4 g.1 g.2.1 g.2.2) (fun _ => .none)))) (.none))) (g.1) (g.2)))) (.none))) (g.1) (g.2)))) (.none))) (g.1) (g.2)))) (.none)) g)))))))))))))))) (g.1) (g.2.1) (g.2.2))))
def l_FnLines_e2 (ss : ZI) (cs : ZI) (k : Int) : Bool := (cond ((J4 ss cs) != (J4 ss cs)) true (cond (lmB ss cs k) (!(J4 ss cs)) false))
def l_FnLines_e3 (ss : ZI) (cs : ZI) (k : Int) : Bool := (cond (!(J0 (lfO ss cs) (lfD ss cs))) true (!(J0 (lfO ss cs) (lfD ss cs) && inB k 1 ((lfO ss cs).length : Int))))
def l_FnLines_e1 (ss : ZI) (cs : ZI) (k : Int) : Bool := (cond (l_FnLines_e3 ss cs k) true (!(J0 (lfO ss cs) (lfD ss cs) && J2G (lfO ss cs).length (lfD ss cs))))
def l_FnLines_e4 (c3 : Int) (i4 : Int) (table5 : ZR) (sum : Int) (j5 : Int) : Bool := (cond (decide (((table5.getD ((c3 - 1).toNat) []).getD j5.toNat 0) ≥ 0)) (cond (decide (((table5.getD c3.toNat []).getD i4.toNat 0) < 0)) true (decide ((((table5.getD ((c3 - 1).toNat) []).getD j5.toNat 0) + sum) < ((table5.getD c3.toNat []).getD i4.toNat 0)))) false)
set_option maxRecDepth 100000 in
def l_FnLines_P (code : List Nat) : Prop :=
  (PC Try.prog 14 [.sl (.bytes code)] (.one (.d (.bool (decide ((code.length : Int) > 65536)))))) ∧ (((decide ((code.length : Int) > 65536)) = true → ((true = true))) ∧ ((decide ((code.length : Int) > 65536)) = false → (((PE Try.prog 68 [.sl (.bytes code)] (J0W code)) ∧ (∀ Pr3 : ZI, ∀ Lr3 : ZI, ∀ kkr3 : Int, J0f code Pr3 Lr3 kkr3 → ((true = true) ∧ (∃ ss' : ZI, ∃ cs' : ZI, ∃ k' : Int, (l_FnLines_JR3 code ss' cs' k') ∧ (Pr3 = ss') ∧ (Lr3 = cs') ∧ (kkr3 = k'))))) ∧ (∀ ss : ZI, ∀ cs : ZI, ∀ k : Int, (l_FnLines_JR3 code ss cs k) → (PC Try.prog 69 [.sl (.ints ss), .sl (.ints cs), .int .i64 k] (.tup [.d (.int .i64 (lmV ss cs k)), .d (.bool (lmB ss cs k))])) ∧ (PC Try.prog 70 [.sl (.ints ss), .sl (.ints cs), .int .i64 k] (.tup [.d (.int .i64 (lmV ss cs k)), .d (.bool (lmB ss cs k))])) ∧ ((!((lmV ss cs k) != (lmV ss cs k))) = true → (!((lmV ss cs k) != (lmV ss cs k))) = true) ∧ ((!((lmV ss cs k) != (lmV ss cs k))) = true → (!((lmV ss cs k) != (lmV ss cs k))) = true) ∧ (true = true) ∧ ((((lmV ss cs k) != (lmV ss cs k)) = true → true = true)) ∧ ((((lmV ss cs k) != (lmV ss cs k)) = false → (!((lmV ss cs k) != (lmV ss cs k))) = true)) ∧ (((cond ((lmV ss cs k) != (lmV ss cs k)) true ((lmB ss cs k) != (lmB ss cs k))) = true → ((false = true))) ∧ ((cond ((lmV ss cs k) != (lmV ss cs k)) true ((lmB ss cs k) != (lmB ss cs k))) = false → (PC Try.prog 45 [.sl (.ints ss), .sl (.ints cs), .int .i64 k] (.tup [.mat 3 26 (lgL ss cs k), .d (.bool (lmB ss cs k))])) ∧ (PC Try.prog 43 [.sl (.ints ss), .sl (.ints cs), .int .i64 k] (.tup [.d (.sl (.rows (lgL ss cs k))), .d (.bool (lmB ss cs k))])) ∧ ((!((lmB ss cs k) != (lmB ss cs k))) = true → (!((lmB ss cs k) != (lmB ss cs k))) = true) ∧ ((!((lmB ss cs k) != (lmB ss cs k))) = true → (!((lmB ss cs k) != (lmB ss cs k))) = true) ∧ (true = true) ∧ ((((lmB ss cs k) != (lmB ss cs k)) = true → true = true)) ∧ ((((lmB ss cs k) != (lmB ss cs k)) = false → (!((lmB ss cs k) != (lmB ss cs k))) = true)) ∧ ((!(cond ((lmB ss cs k) != (lmB ss cs k)) true ((lmB ss cs k) != (lmB ss cs k)))) = true → (!(cond ((lmB ss cs k) != (lmB ss cs k)) true ((lmB ss cs k) != (lmB ss cs k)))) = true) ∧ ((!(cond ((lmB ss cs k) != (lmB ss cs k)) true ((lmB ss cs k) != (lmB ss cs k)))) = true → (!(cond ((lmB ss cs k) != (lmB ss cs k)) true ((lmB ss cs k) != (lmB ss cs k)))) = true) ∧ (((!(cond ((lmB ss cs k) != (lmB ss cs k)) true ((lmB ss cs k) != (lmB ss cs k)))) = true → (lgL ss cs k).length = (lgL ss cs k).length)) ∧ ((!(cond ((lmB ss cs k) != (lmB ss cs k)) true ((lmB ss cs k) != (lmB ss cs k)))) = true → PC Try.prog 71 [.sl (.rows (lgL ss cs k)), .sl (.rows (lgL ss cs k))] (.one (.d (.bool ((lgL ss cs k) == (lgL ss cs k)))))) ∧ ((!(cond ((lmB ss cs k) != (lmB ss cs k)) true ((lmB ss cs k) != (lmB ss cs k)))) = true → (!(cond ((lmB ss cs k) != (lmB ss cs k)) true ((lmB ss cs k) != (lmB ss cs k)))) = true) ∧ (true = true) ∧ (((cond ((lmB ss cs k) != (lmB ss cs k)) true ((lmB ss cs k) != (lmB ss cs k))) = true → true = true)) ∧ (((cond ((lmB ss cs k) != (lmB ss cs k)) true ((lmB ss cs k) != (lmB ss cs k))) = false → (!(cond ((lmB ss cs k) != (lmB ss cs k)) true ((lmB ss cs k) != (lmB ss cs k)))) = true)) ∧ (((cond (cond ((lmB ss cs k) != (lmB ss cs k)) true ((lmB ss cs k) != (lmB ss cs k))) true (!((lgL ss cs k) == (lgL ss cs k)))) = true → ((false = true))) ∧ ((cond (cond ((lmB ss cs k) != (lmB ss cs k)) true ((lmB ss cs k) != (lmB ss cs k))) true (!((lgL ss cs k) == (lgL ss cs k)))) = false → (PC Try.prog 39 [.sl (.ints ss), .sl (.ints cs)] (.tup [.d (.agg [.sl (.ints (lfO ss cs)), .sl (.rows (lfD ss cs))]), .d (.bool (J4 ss cs))])) ∧ (PC Try.prog 72 [.sl (.ints ss), .sl (.ints cs)] (.tup [.d (.agg [.sl (.ints (lfO ss cs)), .sl (.rows (lfD ss cs))]), .d (.bool (J4 ss cs))])) ∧ ((!((J4 ss cs) != (J4 ss cs))) = true → (!((J4 ss cs) != (J4 ss cs))) = true) ∧ (((!((J4 ss cs) != (J4 ss cs))) && (lmB ss cs k)) = true → ((!((J4 ss cs) != (J4 ss cs))) && (lmB ss cs k)) = true) ∧ (((!((J4 ss cs) != (J4 ss cs))) = true → (!((J4 ss cs) != (J4 ss cs))) = true)) ∧ (((!((J4 ss cs) != (J4 ss cs))) = true → (lmB ss cs k) = true → ((!((J4 ss cs) != (J4 ss cs))) && (lmB ss cs k)) = true)) ∧ (((!((J4 ss cs) != (J4 ss cs))) = true → (lmB ss cs k) = false → true = true)) ∧ (true = true) ∧ ((((J4 ss cs) != (J4 ss cs)) = true → true = true)) ∧ ((((J4 ss cs) != (J4 ss cs)) = false → (!((J4 ss cs) != (J4 ss cs))) = true)) ∧ ((!(l_FnLines_e2 ss cs k)) = true → (!(l_FnLines_e2 ss cs k)) = true) ∧ ((!(l_FnLines_e2 ss cs k)) = true → (!(l_FnLines_e2 ss cs k)) = true) ∧ ((!(l_FnLines_e2 ss cs k)) = true → PC Try.prog 54 [.agg [.sl (.ints (lfO ss cs)), .sl (.rows (lfD ss cs))], .agg [.sl (.ints (lfO ss cs)), .sl (.rows (lfD ss cs))]] (.one (.d (.bool (((lfO ss cs) == (lfO ss cs)) && ((lfD ss cs) == (lfD ss cs))))))) ∧ ((!(l_FnLines_e2 ss cs k)) = true → (!(l_FnLines_e2 ss cs k)) = true) ∧ (true = true) ∧ (((l_FnLines_e2 ss cs k) = true → true = true)) ∧ (((l_FnLines_e2 ss cs k) = false → (!(l_FnLines_e2 ss cs k)) = true)) ∧ (((cond (l_FnLines_e2 ss cs k) true (!(((lfO ss cs) == (lfO ss cs)) && ((lfD ss cs) == (lfD ss cs))))) = true → ((false = true))) ∧ ((cond (l_FnLines_e2 ss cs k) true (!(((lfO ss cs) == (lfO ss cs)) && ((lfD ss cs) == (lfD ss cs))))) = false → (((!(lmB ss cs k)) = true → ((true = true))) ∧ ((!(lmB ss cs k)) = false → (PC Try.prog 58 [.agg [.sl (.ints (lfO ss cs)), .sl (.rows (lfD ss cs))]] (.tup [.d (.bool (J0 (lfO ss cs) (lfD ss cs) && J2G (lfO ss cs).length (lfD ss cs))), .d (.bool (J0 (lfO ss cs) (lfD ss cs)))])) ∧ (PC Try.prog 59 [.agg [.sl (.ints (lfO ss cs)), .sl (.rows (lfD ss cs))], .int .i64 k] (.tup [.d (.int .i64 (J2j (lfO ss cs) (lfD ss cs) k)), .d (.bool (J0 (lfO ss cs) (lfD ss cs) && inB k 1 ((lfO ss cs).length : Int)))])) ∧ ((!(!(J0 (lfO ss cs) (lfD ss cs)))) = true → (!(!(J0 (lfO ss cs) (lfD ss cs)))) = true) ∧ (true = true) ∧ (((!(J0 (lfO ss cs) (lfD ss cs))) = true → true = true)) ∧ (((!(J0 (lfO ss cs) (lfD ss cs))) = false → (!(!(J0 (lfO ss cs) (lfD ss cs)))) = true)) ∧ ((!(l_FnLines_e3 ss cs k)) = true → (!(l_FnLines_e3 ss cs k)) = true) ∧ (true = true) ∧ (((l_FnLines_e3 ss cs k) = true → true = true)) ∧ (((l_FnLines_e3 ss cs k) = false → (!(l_FnLines_e3 ss cs k)) = true)) ∧ ((!(l_FnLines_e1 ss cs k)) = true → (!(l_FnLines_e1 ss cs k)) = true) ∧ ((!(l_FnLines_e1 ss cs k)) = true → (!(l_FnLines_e1 ss cs k)) = true) ∧ (true = true) ∧ (((l_FnLines_e1 ss cs k) = true → true = true)) ∧ (((l_FnLines_e1 ss cs k) = false → (!(l_FnLines_e1 ss cs k)) = true)) ∧ (((cond (l_FnLines_e1 ss cs k) true ((J2j (lfO ss cs) (lfD ss cs) k) != (lmV ss cs k))) = true → ((false = true))) ∧ ((cond (l_FnLines_e1 ss cs k) true ((J2j (lfO ss cs) (lfD ss cs) k) != (lmV ss cs k))) = false → ((((∃ next' : Int, ∃ i' : Int, (l_FnLines_JJ0 code ss cs k next' i') ∧ (ss = ss) ∧ (cs = cs) ∧ (k = k) ∧ ((lmV ss cs k) = (lmV ss cs k)) ∧ ((lgL ss cs k).length = (lgL ss cs k).length) ∧ ((0 : Int) = next') ∧ ((0 : Int) = i') ∧ (lgL ss cs k = lgL ss cs k)) ∧ (∀ next : Int, ∀ i : Int, (l_FnLines_JJ0 code ss cs k next i) → (((decide (i < (((lgL ss cs k).length) : Int))) = true → ((∃ next2' : Int, ∃ j' : Int, (l_FnLines_JJ1 code ss cs k next i next2' j') ∧ (ss = ss) ∧ (cs = cs) ∧ (k = k) ∧ ((lmV ss cs k) = (lmV ss cs k)) ∧ ((lgL ss cs k).length = (lgL ss cs k).length) ∧ (next = next2') ∧ (i = i) ∧ ((0 : Int) = j') ∧ (lgL ss cs k = lgL ss cs k)) ∧ (∀ next2 : Int, ∀ j : Int, (l_FnLines_JJ1 code ss cs k next i next2 j) → ((0 : Int) ≤ i) ∧ ((i : Int) < (((lgL ss cs k).length) : Int)) ∧ (i.toNat < (lgL ss cs k).length) ∧ (((decide (j < (((lgL ss cs k).getD i.toNat []).length : Int))) = true → ((0 : Int) ≤ i) ∧ ((i : Int) < (((lgL ss cs k).length) : Int)) ∧ (i.toNat < (lgL ss cs k).length) ∧ ((0 : Int) ≤ j) ∧ ((j : Int) < (((lgL ss cs k).getD i.toNat []).length : Int)) ∧ (i.toNat < (lgL ss cs k).length) ∧ (j.toNat < ((lgL ss cs k).getD i.toNat []).length) ∧ ((((((lgL ss cs k).getD i.toNat []).getD j.toNat 0) != next2) = true → ((false = true))) ∧ (((((lgL ss cs k).getD i.toNat []).getD j.toNat 0) != next2) = false → (-9223372036854775808 ≤ (next2 + 1) ∧ (next2 + 1) ≤ 9223372036854775807) ∧ (-9223372036854775808 ≤ (j + 1) ∧ (j + 1) ≤ 9223372036854775807) ∧ (∃ next2' : Int, ∃ j' : Int, (l_FnLines_JJ1 code ss cs k next i next2' j') ∧ (l_FnLines_mJ1 code ss cs k next i next2' j' < l_FnLines_mJ1 code ss cs k next i next2 j) ∧ (ss = ss) ∧ (cs = cs) ∧ (k = k) ∧ ((lmV ss cs k) = (lmV ss cs k)) ∧ ((lgL ss cs k).length = (lgL ss cs k).length) ∧ ((next2 + 1) = next2') ∧ (i = i) ∧ ((j + 1) = j') ∧ (lgL ss cs k = lgL ss cs k))))) ∧ ((decide (j < (((lgL ss cs k).getD i.toNat []).length : Int))) = false → (-9223372036854775808 ≤ (i + 1) ∧ (i + 1) ≤ 9223372036854775807) ∧ (∃ next' : Int, ∃ i' : Int, (l_FnLines_JJ0 code ss cs k next' i') ∧ (l_FnLines_mJ0 code ss cs k next' i' < l_FnLines_mJ0 code ss cs k next i) ∧ (ss = ss) ∧ (cs = cs) ∧ (k = k) ∧ ((lmV ss cs k) = (lmV ss cs k)) ∧ ((lgL ss cs k).length = (lgL ss cs k).length) ∧ (next2 = next') ∧ ((i + 1) = i') ∧ (lgL ss cs k = lgL ss cs k))))))) ∧ ((decide (i < (((lgL ss cs k).length) : Int))) = false → ((l_FnLines_JA0 code ss cs k) ∧ (ss = ss) ∧ (cs = cs) ∧ (k = k) ∧ ((lmV ss cs k) = (lmV ss cs k)))))))) ∧ ((l_FnLines_JA0 code ss cs k) → ((((∃ table' : ZR, ∃ c' : Int, (l_FnLines_JJ2 code ss cs k table' c') ∧ (ss = ss) ∧ (cs = cs) ∧ (k = k) ∧ ((lmV ss cs k) = (lmV ss cs k)) ∧ ((ss.length : Int) = (ss.length : Int)) ∧ ((cs.length : Int) = (cs.length : Int)) ∧ ((0 : Nat) = table'.length) ∧ ((0 : Int) = c') ∧ ((0 : Nat) = 0) ∧ ((table').length = 0)) ∧ (∀ table : ZR, ∀ c : Int, (l_FnLines_JJ2 code ss cs k table c) → (((decide (c ≤ k)) = true → (-9223372036854775808 ≤ ((cs.length : Int) + 1) ∧ ((cs.length : Int) + 1) ≤ 9223372036854775807) ∧ (((cs.length : Int) + 1) = ((cs.length : Int) + 1)) ∧ ((0 : Int) ≤ ((cs.length : Int) + 1)) ∧ ((((cs.length : Int) + 1) : Int) * ((8 : Nat) : Int) ≤ 140737488355328) ∧ ((∃ row' : ZI, ∃ i2' : Int, (l_FnLines_JJ3 code ss cs k table c row' i2') ∧ (ss = ss) ∧ (cs = cs) ∧ (k = k) ∧ ((lmV ss cs k) = (lmV ss cs k)) ∧ ((ss.length : Int) = (ss.length : Int)) ∧ ((cs.length : Int) = (cs.length : Int)) ∧ (table.length = table.length) ∧ (c = c) ∧ (((cs.length : Int) + 1).toNat = row'.length) ∧ ((1 : Int) = i2') ∧ ((List.replicate (((cs.length : Int) + 1).toNat) (0 : Int)) = row') ∧ (table = table)) ∧ (∀ row : ZI, ∀ i2 : Int, (l_FnLines_JJ3 code ss cs k table c row i2) → (((decide (i2 ≤ (cs.length : Int))) = true → ((0 : Int) ≤ i2) ∧ ((i2 : Int) < (row.length : Int)) ∧ (i2.toNat < row.length) ∧ (-9223372036854775808 ≤ (i2 + 1) ∧ (i2 + 1) ≤ 9223372036854775807) ∧ (∃ row' : ZI, ∃ i2' : Int, (l_FnLines_JJ3 code ss cs k table c row' i2') ∧ (l_FnLines_mJ3 code ss cs k table c row' i2' < l_FnLines_mJ3 code ss cs k table c row i2) ∧ (ss = ss) ∧ (cs = cs) ∧ (k = k) ∧ ((lmV ss cs k) = (lmV ss cs k)) ∧ ((ss.length : Int) = (ss.length : Int)) ∧ ((cs.length : Int) = (cs.length : Int)) ∧ (table.length = table.length) ∧ (c = c) ∧ (row.length = row'.length) ∧ ((i2 + 1) = i2') ∧ ((row.set i2.toNat (-1)) = row') ∧ (table = table))) ∧ ((decide (i2 ≤ (cs.length : Int))) = false → (row.length = row.length) ∧ (table.length = table.length) ∧ ((1 : Nat) = 1) ∧ (0 < 1) ∧ ((table.length + 1) * 24 ≤ 140737488355328) ∧ (-9223372036854775808 ≤ (c + 1) ∧ (c + 1) ≤ 9223372036854775807) ∧ (∃ table' : ZR, ∃ c' : Int, (l_FnLines_JJ2 code ss cs k table' c') ∧ (l_FnLines_mJ2 code ss cs k table' c' < l_FnLines_mJ2 code ss cs k table c) ∧ (ss = ss) ∧ (cs = cs) ∧ (k = k) ∧ ((lmV ss cs k) = (lmV ss cs k)) ∧ ((ss.length : Int) = (ss.length : Int)) ∧ ((cs.length : Int) = (cs.length : Int)) ∧ ((table.length + 1) = table'.length) ∧ ((c + 1) = c') ∧ ((table ++ [row]) = table'))))))) ∧ ((decide (c ≤ k)) = false → (∃ table1' : ZR, (l_FnLines_JA2 code ss cs k table1') ∧ (ss = ss) ∧ (cs = cs) ∧ (k = k) ∧ ((lmV ss cs k) = (lmV ss cs k)) ∧ ((ss.length : Int) = (ss.length : Int)) ∧ ((cs.length : Int) = (cs.length : Int)) ∧ (table.length = table1'.length) ∧ (table = table1'))))))) ∧ (∀ table1 : ZR, (l_FnLines_JA2 code ss cs k table1) → ((∃ table2' : ZR, ∃ s' : Int, (l_FnLines_JJ4 code ss cs k table1 table2' s') ∧ (ss = ss) ∧ (cs = cs) ∧ (k = k) ∧ ((lmV ss cs k) = (lmV ss cs k)) ∧ ((ss.length : Int) = (ss.length : Int)) ∧ ((cs.length : Int) = (cs.length : Int)) ∧ (table1.length = table2'.length) ∧ ((0 : Int) = s') ∧ (table1 = table2')) ∧ (∀ table2 : ZR, ∀ s : Int, (l_FnLines_JJ4 code ss cs k table1 table2 s) → (((decide (s < (ss.length : Int))) = true → ((∃ table3' : ZR, ∃ c3' : Int, (l_FnLines_JJ5 code ss cs k table1 table2 s table3' c3') ∧ (ss = ss) ∧ (cs = cs) ∧ (k = k) ∧ ((lmV ss cs k) = (lmV ss cs k)) ∧ ((ss.length : Int) = (ss.length : Int)) ∧ ((cs.length : Int) = (cs.length : Int)) ∧ (table2.length = table3'.length) ∧ (s = s) ∧ (k = c3') ∧ (table2 = table3')) ∧ (∀ table3 : ZR, ∀ c3 : Int, (l_FnLines_JJ5 code ss cs k table1 table2 s table3 c3) → (((decide (c3 ≥ 1)) = true → ((∃ table4' : ZR, ∃ i4' : Int, (l_FnLines_JJ6 code ss cs k table1 table2 s table3 c3 table4' i4') ∧ (ss = ss) ∧ (cs = cs) ∧ (k = k) ∧ ((lmV ss cs k) = (lmV ss cs k)) ∧ ((ss.length : Int) = (ss.length : Int)) ∧ ((cs.length : Int) = (cs.length : Int)) ∧ (table3.length = table4'.length) ∧ (s = s) ∧ (c3 = c3) ∧ ((cs.length : Int) = i4') ∧ (table3 = table4')) ∧ (∀ table4 : ZR, ∀ i4 : Int, (l_FnLines_JJ6 code ss cs k table1 table2 s table3 c3 table4 i4) → (((decide (i4 ≥ 0)) = true → ((∃ table5' : ZR, ∃ sum' : Int, ∃ j5' : Int, (l_FnLines_JJ7 code ss cs k table1 table2 s table3 c3 table4 i4 table5' sum' j5') ∧ (ss = ss) ∧ (cs = cs) ∧ (k = k) ∧ ((lmV ss cs k) = (lmV ss cs k)) ∧ ((ss.length : Int) = (ss.length : Int)) ∧ ((cs.length : Int) = (cs.length : Int)) ∧ (table4.length = table5'.length) ∧ (s = s) ∧ (c3 = c3) ∧ (i4 = i4) ∧ ((0 : Int) = sum') ∧ (i4 = j5') ∧ (table4 = table5')) ∧ (∀ table5 : ZR, ∀ sum : Int, ∀ j5 : Int, (l_FnLines_JJ7 code ss cs k table1 table2 s table3 c3 table4 i4 table5 sum j5) → (((decide (j5 ≥ 0)) = true → (true = true) ∧ (-9223372036854775808 ≤ (c3 - 1) ∧ (c3 - 1) ≤ 9223372036854775807) ∧ ((0 : Int) ≤ (c3 - 1)) ∧ (((c3 - 1) : Int) < (table5.length : Int)) ∧ ((c3 - 1).toNat < table5.length) ∧ ((0 : Int) ≤ j5) ∧ ((j5 : Int) < (((table5.getD ((c3 - 1).toNat) []).length) : Int)) ∧ ((c3 - 1).toNat < table5.length) ∧ (j5.toNat < (table5.getD ((c3 - 1).toNat) []).length) ∧ ((decide (((table5.getD ((c3 - 1).toNat) []).getD j5.toNat 0) ≥ 0)) = true → (decide (((table5.getD ((c3 - 1).toNat) []).getD j5.toNat 0) ≥ 0)) = true) ∧ ((decide (((table5.getD ((c3 - 1).toNat) []).getD j5.toNat 0) ≥ 0)) = true → (decide (((table5.getD ((c3 - 1).toNat) []).getD j5.toNat 0) ≥ 0)) = true) ∧ (((decide (((table5.getD ((c3 - 1).toNat) []).getD j5.toNat 0) ≥ 0)) = true → (0 : Int) ≤ c3)) ∧ (((decide (((table5.getD ((c3 - 1).toNat) []).getD j5.toNat 0) ≥ 0)) = true → (c3 : Int) < (table5.length : Int))) ∧ ((decide (((table5.getD ((c3 - 1).toNat) []).getD j5.toNat 0) ≥ 0)) = true → (decide (((table5.getD ((c3 - 1).toNat) []).getD j5.toNat 0) ≥ 0)) = true) ∧ (((decide (((table5.getD ((c3 - 1).toNat) []).getD j5.toNat 0) ≥ 0)) = true → c3.toNat < table5.length)) ∧ ((decide (((table5.getD ((c3 - 1).toNat) []).getD j5.toNat 0) ≥ 0)) = true → (decide (((table5.getD ((c3 - 1).toNat) []).getD j5.toNat 0) ≥ 0)) = true) ∧ ((decide (((table5.getD ((c3 - 1).toNat) []).getD j5.toNat 0) ≥ 0)) = true → (decide (((table5.getD ((c3 - 1).toNat) []).getD j5.toNat 0) ≥ 0)) = true) ∧ (((decide (((table5.getD ((c3 - 1).toNat) []).getD j5.toNat 0) ≥ 0)) = true → (0 : Int) ≤ i4)) ∧ (((decide (((table5.getD ((c3 - 1).toNat) []).getD j5.toNat 0) ≥ 0)) = true → (i4 : Int) < (((table5.getD c3.toNat []).length) : Int))) ∧ ((decide (((table5.getD ((c3 - 1).toNat) []).getD j5.toNat 0) ≥ 0)) = true → (decide (((table5.getD ((c3 - 1).toNat) []).getD j5.toNat 0) ≥ 0)) = true) ∧ (((decide (((table5.getD ((c3 - 1).toNat) []).getD j5.toNat 0) ≥ 0)) = true → c3.toNat < table5.length)) ∧ (((decide (((table5.getD ((c3 - 1).toNat) []).getD j5.toNat 0) ≥ 0)) = true → i4.toNat < (table5.getD c3.toNat []).length)) ∧ ((decide (((table5.getD ((c3 - 1).toNat) []).getD j5.toNat 0) ≥ 0)) = true → (decide (((table5.getD ((c3 - 1).toNat) []).getD j5.toNat 0) ≥ 0)) = true) ∧ ((decide (((table5.getD ((c3 - 1).toNat) []).getD j5.toNat 0) ≥ 0)) = true → (decide (((table5.getD ((c3 - 1).toNat) []).getD j5.toNat 0) ≥ 0)) = true) ∧ (((decide (((table5.getD ((c3 - 1).toNat) []).getD j5.toNat 0) ≥ 0)) && (!(decide (((table5.getD c3.toNat []).getD i4.toNat 0) < 0)))) = true → ((decide (((table5.getD ((c3 - 1).toNat) []).getD j5.toNat 0) ≥ 0)) && (!(decide (((table5.getD c3.toNat []).getD i4.toNat 0) < 0)))) = true) ∧ ((((decide (((table5.getD ((c3 - 1).toNat) []).getD j5.toNat 0) ≥ 0)) && (!(decide (((table5.getD c3.toNat []).getD i4.toNat 0) < 0)))) = true → -9223372036854775808 ≤ (c3 - 1) ∧ (c3 - 1) ≤ 9223372036854775807)) ∧ (((decide (((table5.getD ((c3 - 1).toNat) []).getD j5.toNat 0) ≥ 0)) && (!(decide (((table5.getD c3.toNat []).getD i4.toNat 0) < 0)))) = true → ((decide (((table5.getD ((c3 - 1).toNat) []).getD j5.toNat 0) ≥ 0)) && (!(decide (((table5.getD c3.toNat []).getD i4.toNat 0) < 0)))) = true) ∧ (((decide (((table5.getD ((c3 - 1).toNat) []).getD j5.toNat 0) ≥ 0)) && (!(decide (((table5.getD c3.toNat []).getD i4.toNat 0) < 0)))) = true → ((decide (((table5.getD ((c3 - 1).toNat) []).getD j5.toNat 0) ≥ 0)) && (!(decide (((table5.getD c3.toNat []).getD i4.toNat 0) < 0)))) = true) ∧ ((((decide (((table5.getD ((c3 - 1).toNat) []).getD j5.toNat 0) ≥ 0)) && (!(decide (((table5.getD c3.toNat []).getD i4.toNat 0) < 0)))) = true → (0 : Int) ≤ (c3 - 1))) ∧ ((((decide (((table5.getD ((c3 - 1).toNat) []).getD j5.toNat 0) ≥ 0)) && (!(decide (((table5.getD c3.toNat []).getD i4.toNat 0) < 0)))) = true → ((c3 - 1) : Int) < (table5.length : Int))) ∧ (((decide (((table5.getD ((c3 - 1).toNat) []).getD j5.toNat 0) ≥ 0)) && (!(decide (((table5.getD c3.toNat []).getD i4.toNat 0) < 0)))) = true → ((decide (((table5.getD ((c3 - 1).toNat) []).getD j5.toNat 0) ≥ 0)) && (!(decide (((table5.getD c3.toNat []).getD i4.toNat 0) < 0)))) = true) ∧ ((((decide (((table5.getD ((c3 - 1).toNat) []).getD j5.toNat 0) ≥ 0)) && (!(decide (((table5.getD c3.toNat []).getD i4.toNat 0) < 0)))) = true → (c3 - 1).toNat < table5.length)) ∧ (((decide (((table5.getD ((c3 - 1).toNat) []).getD j5.toNat 0) ≥ 0)) && (!(decide (((table5.getD c3.toNat []).getD i4.toNat 0) < 0)))) = true → ((decide (((table5.getD ((c3 - 1).toNat) []).getD j5.toNat 0) ≥ 0)) && (!(decide (((table5.getD c3.toNat []).getD i4.toNat 0) < 0)))) = true) ∧ (((decide (((table5.getD ((c3 - 1).toNat) []).getD j5.toNat 0) ≥ 0)) && (!(decide (((table5.getD c3.toNat []).getD i4.toNat 0) < 0)))) = true → ((decide (((table5.getD ((c3 - 1).toNat) []).getD j5.toNat 0) ≥ 0)) && (!(decide (((table5.getD c3.toNat []).getD i4.toNat 0) < 0)))) = true) ∧ ((((decide (((table5.getD ((c3 - 1).toNat) []).getD j5.toNat 0) ≥ 0)) && (!(decide (((table5.getD c3.toNat []).getD i4.toNat 0) < 0)))) = true → (0 : Int) ≤ j5)) ∧ ((((decide (((table5.getD ((c3 - 1).toNat) []).getD j5.toNat 0) ≥ 0)) && (!(decide (((table5.getD c3.toNat []).getD i4.toNat 0) < 0)))) = true → (j5 : Int) < (((table5.getD ((c3 - 1).toNat) []).length) : Int))) ∧ (((decide (((table5.getD ((c3 - 1).toNat) []).getD j5.toNat 0) ≥ 0)) && (!(decide (((table5.getD c3.toNat []).getD i4.toNat 0) < 0)))) = true → ((decide (((table5.getD ((c3 - 1).toNat) []).getD j5.toNat 0) ≥ 0)) && (!(decide (((table5.getD c3.toNat []).getD i4.toNat 0) < 0)))) = true) ∧ ((((decide (((table5.getD ((c3 - 1).toNat) []).getD j5.toNat 0) ≥ 0)) && (!(decide (((table5.getD c3.toNat []).getD i4.toNat 0) < 0)))) = true → (c3 - 1).toNat < table5.length)) ∧ ((((decide (((table5.getD ((c3 - 1).toNat) []).getD j5.toNat 0) ≥ 0)) && (!(decide (((table5.getD c3.toNat []).getD i4.toNat 0) < 0)))) = true → j5.toNat < (table5.getD ((c3 - 1).toNat) []).length)) ∧ (((decide (((table5.getD ((c3 - 1).toNat) []).getD j5.toNat 0) ≥ 0)) && (!(decide (((table5.getD c3.toNat []).getD i4.toNat 0) < 0)))) = true → ((decide (((table5.getD ((c3 - 1).toNat) []).getD j5.toNat 0) ≥ 0)) && (!(decide (((table5.getD c3.toNat []).getD i4.toNat 0) < 0)))) = true) ∧ (((decide (((table5.getD ((c3 - 1).toNat) []).getD j5.toNat 0) ≥ 0)) && (!(decide (((table5.getD c3.toNat []).getD i4.toNat 0) < 0)))) = true → ((decide (((table5.getD ((c3 - 1).toNat) []).getD j5.toNat 0) ≥ 0)) && (!(decide (((table5.getD c3.toNat []).getD i4.toNat 0) < 0)))) = true) ∧ ((((decide (((table5.getD ((c3 - 1).toNat) []).getD j5.toNat 0) ≥ 0)) && (!(decide (((table5.getD c3.toNat []).getD i4.toNat 0) < 0)))) = true → -9223372036854775808 ≤ (((table5.getD ((c3 - 1).toNat) []).getD j5.toNat 0) + sum) ∧ (((table5.getD ((c3 - 1).toNat) []).getD j5.toNat 0) + sum) ≤ 9223372036854775807)) ∧ (((decide (((table5.getD ((c3 - 1).toNat) []).getD j5.toNat 0) ≥ 0)) && (!(decide (((table5.getD c3.toNat []).getD i4.toNat 0) < 0)))) = true → ((decide (((table5.getD ((c3 - 1).toNat) []).getD j5.toNat 0) ≥ 0)) && (!(decide (((table5.getD c3.toNat []).getD i4.toNat 0) < 0)))) = true) ∧ (((decide (((table5.getD ((c3 - 1).toNat) []).getD j5.toNat 0) ≥ 0)) && (!(decide (((table5.getD c3.toNat []).getD i4.toNat 0) < 0)))) = true → ((decide (((table5.getD ((c3 - 1).toNat) []).getD j5.toNat 0) ≥ 0)) && (!(decide (((table5.getD c3.toNat []).getD i4.toNat 0) < 0)))) = true) ∧ ((((decide (((table5.getD ((c3 - 1).toNat) []).getD j5.toNat 0) ≥ 0)) && (!(decide (((table5.getD c3.toNat []).getD i4.toNat 0) < 0)))) = true → (0 : Int) ≤ c3)) ∧ ((((decide (((table5.getD ((c3 - 1).toNat) []).getD j5.toNat 0) ≥ 0)) && (!(decide (((table5.getD c3.toNat []).getD i4.toNat 0) < 0)))) = true → (c3 : Int) < (table5.length : Int))) ∧ (((decide (((table5.getD ((c3 - 1).toNat) []).getD j5.toNat 0) ≥ 0)) && (!(decide (((table5.getD c3.toNat []).getD i4.toNat 0) < 0)))) = true → ((decide (((table5.getD ((c3 - 1).toNat) []).getD j5.toNat 0) ≥ 0)) && (!(decide (((table5.getD c3.toNat []).getD i4.toNat 0) < 0)))) = true) ∧ ((((decide (((table5.getD ((c3 - 1).toNat) []).getD j5.toNat 0) ≥ 0)) && (!(decide (((table5.getD c3.toNat []).getD i4.toNat 0) < 0)))) = true → c3.toNat < table5.length)) ∧ (((decide (((table5.getD ((c3 - 1).toNat) []).getD j5.toNat 0) ≥ 0)) && (!(decide (((table5.getD c3.toNat []).getD i4.toNat 0) < 0)))) = true → ((decide (((table5.getD ((c3 - 1).toNat) []).getD j5.toNat 0) ≥ 0)) && (!(decide (((table5.getD c3.toNat []).getD i4.toNat 0) < 0)))) = true) ∧ (((decide (((table5.getD ((c3 - 1).toNat) []).getD j5.toNat 0) ≥ 0)) && (!(decide (((table5.getD c3.toNat []).getD i4.toNat 0) < 0)))) = true → ((decide (((table5.getD ((c3 - 1).toNat) []).getD j5.toNat 0) ≥ 0)) && (!(decide (((table5.getD c3.toNat []).getD i4.toNat 0) < 0)))) = true) ∧ ((((decide (((table5.getD ((c3 - 1).toNat) []).getD j5.toNat 0) ≥ 0)) && (!(decide (((table5.getD c3.toNat []).getD i4.toNat 0) < 0)))) = true → (0 : Int) ≤ i4)) ∧ ((((decide (((table5.getD ((c3 - 1).toNat) []).getD j5.toNat 0) ≥ 0)) && (!(decide (((table5.getD c3.toNat []).getD i4.toNat 0) < 0)))) = true → (i4 : Int) < (((table5.getD c3.toNat []).length) : Int))) ∧ (((decide (((table5.getD ((c3 - 1).toNat) []).getD j5.toNat 0) ≥ 0)) && (!(decide (((table5.getD c3.toNat []).getD i4.toNat 0) < 0)))) = true → ((decide (((table5.getD ((c3 - 1).toNat) []).getD j5.toNat 0) ≥ 0)) && (!(decide (((table5.getD c3.toNat []).getD i4.toNat 0) < 0)))) = true) ∧ ((((decide (((table5.getD ((c3 - 1).toNat) []).getD j5.toNat 0) ≥ 0)) && (!(decide (((table5.getD c3.toNat []).getD i4.toNat 0) < 0)))) = true → c3.toNat < table5.length)) ∧ ((((decide (((table5.getD ((c3 - 1).toNat) []).getD j5.toNat 0) ≥ 0)) && (!(decide (((table5.getD c3.toNat []).getD i4.toNat 0) < 0)))) = true → i4.toNat < (table5.getD c3.toNat []).length)) ∧ (((decide (((table5.getD ((c3 - 1).toNat) []).getD j5.toNat 0) ≥ 0)) && (!(decide (((table5.getD c3.toNat []).getD i4.toNat 0) < 0)))) = true → ((decide (((table5.getD ((c3 - 1).toNat) []).getD j5.toNat 0) ≥ 0)) && (!(decide (((table5.getD c3.toNat []).getD i4.toNat 0) < 0)))) = true) ∧ (((decide (((table5.getD ((c3 - 1).toNat) []).getD j5.toNat 0) ≥ 0)) && (!(decide (((table5.getD c3.toNat []).getD i4.toNat 0) < 0)))) = true → ((decide (((table5.getD ((c3 - 1).toNat) []).getD j5.toNat 0) ≥ 0)) && (!(decide (((table5.getD c3.toNat []).getD i4.toNat 0) < 0)))) = true) ∧ (((decide (((table5.getD ((c3 - 1).toNat) []).getD j5.toNat 0) ≥ 0)) = true → (decide (((table5.getD ((c3 - 1).toNat) []).getD j5.toNat 0) ≥ 0)) = true)) ∧ (((decide (((table5.getD ((c3 - 1).toNat) []).getD j5.toNat 0) ≥ 0)) = true → (decide (((table5.getD c3.toNat []).getD i4.toNat 0) < 0)) = true → true = true)) ∧ (((decide (((table5.getD ((c3 - 1).toNat) []).getD j5.toNat 0) ≥ 0)) = true → (decide (((table5.getD c3.toNat []).getD i4.toNat 0) < 0)) = false → ((decide (((table5.getD ((c3 - 1).toNat) []).getD j5.toNat 0) ≥ 0)) && (!(decide (((table5.getD c3.toNat []).getD i4.toNat 0) < 0)))) = true)) ∧ (true = true) ∧ (((decide (((table5.getD ((c3 - 1).toNat) []).getD j5.toNat 0) ≥ 0)) = true → (decide (((table5.getD ((c3 - 1).toNat) []).getD j5.toNat 0) ≥ 0)) = true)) ∧ (((decide (((table5.getD ((c3 - 1).toNat) []).getD j5.toNat 0) ≥ 0)) = false → true = true)) ∧ (((l_FnLines_e4 c3 i4 table5 sum j5) = true → (true = true) ∧ ((0 : Int) ≤ c3) ∧ ((c3 : Int) < (table5.length : Int)) ∧ (c3.toNat < table5.length) ∧ (-9223372036854775808 ≤ (c3 - 1) ∧ (c3 - 1) ≤ 9223372036854775807) ∧ ((0 : Int) ≤ (c3 - 1)) ∧ (((c3 - 1) : Int) < (table5.length : Int)) ∧ ((c3 - 1).toNat < table5.length) ∧ ((0 : Int) ≤ j5) ∧ ((j5 : Int) < (((table5.getD ((c3 - 1).toNat) []).length) : Int)) ∧ ((c3 - 1).toNat < table5.length) ∧ (j5.toNat < (table5.getD ((c3 - 1).toNat) []).length) ∧ (-9223372036854775808 ≤ (((table5.getD ((c3 - 1).toNat) []).getD j5.toNat 0) + sum) ∧ (((table5.getD ((c3 - 1).toNat) []).getD j5.toNat 0) + sum) ≤ 9223372036854775807) ∧ ((0 : Int) ≤ i4) ∧ ((i4 : Int) < (((table5.getD c3.toNat []).length) : Int)) ∧ (c3.toNat < table5.length) ∧ (i4.toNat < (table5.getD c3.toNat []).length) ∧ (((decide (j5 > 0)) = true → (true = true) ∧ (-9223372036854775808 ≤ (j5 - 1) ∧ (j5 - 1) ≤ 9223372036854775807) ∧ ((0 : Int) ≤ (j5 - 1)) ∧ (((j5 - 1) : Int) < cs.length) ∧ ((j5 - 1).toNat < cs.length) ∧ ((0 : Int) ≤ s) ∧ ((s : Int) < ss.length) ∧ (s.toNat < ss.length) ∧ (-9223372036854775808 ≤ ((cs.getD ((j5 - 1).toNat) 0) - (ss.getD s.toNat 0)) ∧ ((cs.getD ((j5 - 1).toNat) 0) - (ss.getD s.toNat 0)) ≤ 9223372036854775807) ∧ (((decide (((cs.getD ((j5 - 1).toNat) 0) - (ss.getD s.toNat 0)) < 0)) = true → (-9223372036854775808 ≤ (-((cs.getD ((j5 - 1).toNat) 0) - (ss.getD s.toNat 0))) ∧ (-((cs.getD ((j5 - 1).toNat) 0) - (ss.getD s.toNat 0))) ≤ 9223372036854775807) ∧ (-9223372036854775808 ≤ (sum + (-((cs.getD ((j5 - 1).toNat) 0) - (ss.getD s.toNat 0)))) ∧ (sum + (-((cs.getD ((j5 - 1).toNat) 0) - (ss.getD s.toNat 0)))) ≤ 9223372036854775807) ∧ (-9223372036854775808 ≤ (j5 - 1) ∧ (j5 - 1) ≤ 9223372036854775807) ∧ (∃ table5' : ZR, ∃ sum' : Int, ∃ j5' : Int, (l_FnLines_JJ7 code ss cs k table1 table2 s table3 c3 table4 i4 table5' sum' j5') ∧ (l_FnLines_mJ7 code ss cs k table1 table2 s table3 c3 table4 i4 table5' sum' j5' < l_FnLines_mJ7 code ss cs k table1 table2 s table3 c3 table4 i4 table5 sum j5) ∧ (ss = ss) ∧ (cs = cs) ∧ (k = k) ∧ ((lmV ss cs k) = (lmV ss cs k)) ∧ ((ss.length : Int) = (ss.length : Int)) ∧ ((cs.length : Int) = (cs.length : Int)) ∧ (table5.length = table5'.length) ∧ (s = s) ∧ (c3 = c3) ∧ (i4 = i4) ∧ ((sum + (-((cs.getD ((j5 - 1).toNat) 0) - (ss.getD s.toNat 0)))) = sum') ∧ ((j5 - 1) = j5') ∧ ((table5.set c3.toNat ((table5.getD c3.toNat []).set i4.toNat (((table5.getD ((c3 - 1).toNat) []).getD j5.toNat 0) + sum))) = table5'))) ∧ ((decide (((cs.getD ((j5 - 1).toNat) 0) - (ss.getD s.toNat 0)) < 0)) = false → (-9223372036854775808 ≤ (sum + ((cs.getD ((j5 - 1).toNat) 0) - (ss.getD s.toNat 0))) ∧ (sum + ((cs.getD ((j5 - 1).toNat) 0) - (ss.getD s.toNat 0))) ≤ 9223372036854775807) ∧ (-9223372036854775808 ≤ (j5 - 1) ∧ (j5 - 1) ≤ 9223372036854775807) ∧ (∃ table5' : ZR, ∃ sum' : Int, ∃ j5' : Int, (l_FnLines_JJ7 code ss cs k table1 table2 s table3 c3 table4 i4 table5' sum' j5') ∧ (l_FnLines_mJ7 code ss cs k table1 table2 s table3 c3 table4 i4 table5' sum' j5' < l_FnLines_mJ7 code ss cs k table1 table2 s table3 c3 table4 i4 table5 sum j5) ∧ (ss = ss) ∧ (cs = cs) ∧ (k = k) ∧ ((lmV ss cs k) = (lmV ss cs k)) ∧ ((ss.length : Int) = (ss.length : Int)) ∧ ((cs.length : Int) = (cs.length : Int)) ∧ (table5.length = table5'.length) ∧ (s = s) ∧ (c3 = c3) ∧ (i4 = i4) ∧ ((sum + ((cs.getD ((j5 - 1).toNat) 0) - (ss.getD s.toNat 0))) = sum') ∧ ((j5 - 1) = j5') ∧ ((table5.set c3.toNat ((table5.getD c3.toNat []).set i4.toNat (((table5.getD ((c3 - 1).toNat) []).getD j5.toNat 0) + sum))) = table5'))))) ∧ ((decide (j5 > 0)) = false → (-9223372036854775808 ≤ (j5 - 1) ∧ (j5 - 1) ≤ 9223372036854775807) ∧ (∃ table5' : ZR, ∃ sum' : Int, ∃ j5' : Int, (l_FnLines_JJ7 code ss cs k table1 table2 s table3 c3 table4 i4 table5' sum' j5') ∧ (l_FnLines_mJ7 code ss cs k table1 table2 s table3 c3 table4 i4 table5' sum' j5' < l_FnLines_mJ7 code ss cs k table1 table2 s table3 c3 table4 i4 table5 sum j5) ∧ (ss = ss) ∧ (cs = cs) ∧ (k = k) ∧ ((lmV ss cs k) = (lmV ss cs k)) ∧ ((ss.length : Int) = (ss.length : Int)) ∧ ((cs.length : Int) = (cs.length : Int)) ∧ (table5.length = table5'.length) ∧ (s = s) ∧ (c3 = c3) ∧ (i4 = i4) ∧ (sum = sum') ∧ ((j5 - 1) = j5') ∧ ((table5.set c3.toNat ((table5.getD c3.toNat []).set i4.toNat (((table5.getD ((c3 - 1).toNat) []).getD j5.toNat 0) + sum))) = table5'))))) ∧ ((l_FnLines_e4 c3 i4 table5 sum j5) = false → (((decide (j5 > 0)) = true → (true = true) ∧ (-9223372036854775808 ≤ (j5 - 1) ∧ (j5 - 1) ≤ 9223372036854775807) ∧ ((0 : Int) ≤ (j5 - 1)) ∧ (((j5 - 1) : Int) < cs.length) ∧ ((j5 - 1).toNat < cs.length) ∧ ((0 : Int) ≤ s) ∧ ((s : Int) < ss.length) ∧ (s.toNat < ss.length) ∧ (-9223372036854775808 ≤ ((cs.getD ((j5 - 1).toNat) 0) - (ss.getD s.toNat 0)) ∧ ((cs.getD ((j5 - 1).toNat) 0) - (ss.getD s.toNat 0)) ≤ 9223372036854775807) ∧ (((decide (((cs.getD ((j5 - 1).toNat) 0) - (ss.getD s.toNat 0)) < 0)) = true → (-9223372036854775808 ≤ (-((cs.getD ((j5 - 1).toNat) 0) - (ss.getD s.toNat 0))) ∧ (-((cs.getD ((j5 - 1).toNat) 0) - (ss.getD s.toNat 0))) ≤ 9223372036854775807) ∧ (-9223372036854775808 ≤ (sum + (-((cs.getD ((j5 - 1).toNat) 0) - (ss.getD s.toNat 0)))) ∧ (sum + (-((cs.getD ((j5 - 1).toNat) 0) - (ss.getD s.toNat 0)))) ≤ 9223372036854775807) ∧ (-9223372036854775808 ≤ (j5 - 1) ∧ (j5 - 1) ≤ 9223372036854775807) ∧ (∃ table5' : ZR, ∃ sum' : Int, ∃ j5' : Int, (l_FnLines_JJ7 code ss cs k table1 table2 s table3 c3 table4 i4 table5' sum' j5') ∧ (l_FnLines_mJ7 code ss cs k table1 table2 s table3 c3 table4 i4 table5' sum' j5' < l_FnLines_mJ7 code ss cs k table1 table2 s table3 c3 table4 i4 table5 sum j5) ∧ (ss = ss) ∧ (cs = cs) ∧ (k = k) ∧ ((lmV ss cs k) = (lmV ss cs k)) ∧ ((ss.length : Int) = (ss.length : Int)) ∧ ((cs.length : Int) = (cs.length : Int)) ∧ (table5.length = table5'.length) ∧ (s = s) ∧ (c3 = c3) ∧ (i4 = i4) ∧ ((sum + (-((cs.getD ((j5 - 1).toNat) 0) - (ss.getD s.toNat 0)))) = sum') ∧ ((j5 - 1) = j5') ∧ (table5 = table5'))) ∧ ((decide (((cs.getD ((j5 - 1).toNat) 0) - (ss.getD s.toNat 0)) < 0)) = false → (-9223372036854775808 ≤ (sum + ((cs.getD ((j5 - 1).toNat) 0) - (ss.getD s.toNat 0))) ∧ (sum + ((cs.getD ((j5 - 1).toNat) 0) - (ss.getD s.toNat 0))) ≤ 9223372036854775807) ∧ (-9223372036854775808 ≤ (j5 - 1) ∧ (j5 - 1) ≤ 9223372036854775807) ∧ (∃ table5' : ZR, ∃ sum' : Int, ∃ j5' : Int, (l_FnLines_JJ7 code ss cs k table1 table2 s table3 c3 table4 i4 table5' sum' j5') ∧ (l_FnLines_mJ7 code ss cs k table1 table2 s table3 c3 table4 i4 table5' sum' j5' < l_FnLines_mJ7 code ss cs k table1 table2 s table3 c3 table4 i4 table5 sum j5) ∧ (ss = ss) ∧ (cs = cs) ∧ (k = k) ∧ ((lmV ss cs k) = (lmV ss cs k)) ∧ ((ss.length : Int) = (ss.length : Int)) ∧ ((cs.length : Int) = (cs.length : Int)) ∧ (table5.length = table5'.length) ∧ (s = s) ∧ (c3 = c3) ∧ (i4 = i4) ∧ ((sum + ((cs.getD ((j5 - 1).toNat) 0) - (ss.getD s.toNat 0))) = sum') ∧ ((j5 - 1) = j5') ∧ (table5 = table5'))))) ∧ ((decide (j5 > 0)) = false → (-9223372036854775808 ≤ (j5 - 1) ∧ (j5 - 1) ≤ 9223372036854775807) ∧ (∃ table5' : ZR, ∃ sum' : Int, ∃ j5' : Int, (l_FnLines_JJ7 code ss cs k table1 table2 s table3 c3 table4 i4 table5' sum' j5') ∧ (l_FnLines_mJ7 code ss cs k table1 table2 s table3 c3 table4 i4 table5' sum' j5' < l_FnLines_mJ7 code ss cs k table1 table2 s table3 c3 table4 i4 table5 sum j5) ∧ (ss = ss) ∧ (cs = cs) ∧ (k = k) ∧ ((lmV ss cs k) = (lmV ss cs k)) ∧ ((ss.length : Int) = (ss.length : Int)) ∧ ((cs.length : Int) = (cs.length : Int)) ∧ (table5.length = table5'.length) ∧ (s = s) ∧ (c3 = c3) ∧ (i4 = i4) ∧ (sum = sum') ∧ ((j5 - 1) = j5') ∧ (table5 = table5'))))))) ∧ ((decide (j5 ≥ 0)) = false → (-9223372036854775808 ≤ (i4 - 1) ∧ (i4 - 1) ≤ 9223372036854775807) ∧ (∃ table4' : ZR, ∃ i4' : Int, (l_FnLines_JJ6 code ss cs k table1 table2 s table3 c3 table4' i4') ∧ (l_FnLines_mJ6 code ss cs k table1 table2 s table3 c3 table4' i4' < l_FnLines_mJ6 code ss cs k table1 table2 s table3 c3 table4 i4) ∧ (ss = ss) ∧ (cs = cs) ∧ (k = k) ∧ ((lmV ss cs k) = (lmV ss cs k)) ∧ ((ss.length : Int) = (ss.length : Int)) ∧ ((cs.length : Int) = (cs.length : Int)) ∧ (table5.length = table4'.length) ∧ (s = s) ∧ (c3 = c3) ∧ ((i4 - 1) = i4') ∧ (table5 = table4'))))))) ∧ ((decide (i4 ≥ 0)) = false → (-9223372036854775808 ≤ (c3 - 1) ∧ (c3 - 1) ≤ 9223372036854775807) ∧ (∃ table3' : ZR, ∃ c3' : Int, (l_FnLines_JJ5 code ss cs k table1 table2 s table3' c3') ∧ (l_FnLines_mJ5 code ss cs k table1 table2 s table3' c3' < l_FnLines_mJ5 code ss cs k table1 table2 s table3 c3) ∧ (ss = ss) ∧ (cs = cs) ∧ (k = k) ∧ ((lmV ss cs k) = (lmV ss cs k)) ∧ ((ss.length : Int) = (ss.length : Int)) ∧ ((cs.length : Int) = (cs.length : Int)) ∧ (table4.length = table3'.length) ∧ (s = s) ∧ ((c3 - 1) = c3') ∧ (table4 = table3'))))))) ∧ ((decide (c3 ≥ 1)) = false → (-9223372036854775808 ≤ (s + 1) ∧ (s + 1) ≤ 9223372036854775807) ∧ (∃ table2' : ZR, ∃ s' : Int, (l_FnLines_JJ4 code ss cs k table1 table2' s') ∧ (l_FnLines_mJ4 code ss cs k table1 table2' s' < l_FnLines_mJ4 code ss cs k table1 table2 s) ∧ (ss = ss) ∧ (cs = cs) ∧ (k = k) ∧ ((lmV ss cs k) = (lmV ss cs k)) ∧ ((ss.length : Int) = (ss.length : Int)) ∧ ((cs.length : Int) = (cs.length : Int)) ∧ (table3.length = table2'.length) ∧ ((s + 1) = s') ∧ (table3 = table2'))))))) ∧ ((decide (s < (ss.length : Int))) = false → ((0 : Int) ≤ k) ∧ ((k : Int) < (table2.length : Int)) ∧ (k.toNat < table2.length) ∧ ((0 : Int) ≤ (cs.length : Int)) ∧ (((cs.length : Int) : Int) < (((table2.getD k.toNat []).length) : Int)) ∧ (k.toNat < table2.length) ∧ ((cs.length : Int).toNat < (table2.getD k.toNat []).length) ∧ (((((table2.getD k.toNat []).getD ((cs.length : Int).toNat) 0) == (lmV ss cs k)) = true))))))))))))))))))))))))
set_option maxRecDepth 100000 in
theorem l_FnLines_vc (code : List Nat) (hb : ∀ x9 ∈ code, x9 < 256) (w_code : (code.length : Int) ≤ 9223372036854775807) : l_FnLines_P code := by
  unfold l_FnLines_P l_FnLines_e4 l_FnLines_e1 l_FnLines_e3 l_FnLines_e2
  refine ⟨J9O code, ?_, ?_⟩
  ·intro b1
   try simp only [nrmT] at b1
   exact rfl
  intro b2
  try simp only [nrmT] at b2
  refine ⟨?_, ?_⟩
  ·refine ⟨?_, ?_⟩
   ·refine J44 code ?_
    ·exact hb
   ·intro Pr3 Lr3 kkr3 hQ9
    have f1r3 := hQ9
    refine ⟨rfl, ?_⟩
    ·refine ⟨Pr3, Lr3, kkr3, ?_⟩
     refine ⟨?_, rfl, rfl, rfl⟩
     ·unfold l_FnLines_JR3
      assumption
  intro ss cs k hJ
  have p1 := hJ
  refine ⟨J5A ss cs k, J5B ss cs k, id, id, rfl, fun _ => rfl, ?_, ?_, ?_⟩
  ·intro h; rw [h]; rfl
  ·intro b3
   exfalso; simp at b3
  intro b4
  refine ⟨J5H ss cs k, J5Q ss cs k, id, id, rfl, fun _ => rfl, ?_, id, id, fun _ => rfl, fun _ => J4J (lgL ss cs k) (lgL ss cs k), id, rfl, fun _ => rfl, ?_, ?_, ?_⟩
  ·intro h; rw [h]; rfl
  ·intro h; rw [h]; rfl
  ·intro b5
   exfalso; simp at b5
  intro b6
  refine ⟨J2k ss cs, J6R ss cs, id, id, id, ?_, fun _ _ => rfl, rfl, fun _ => rfl, ?_, id, id, fun _ => J8z (lfO ss cs) (lfD ss cs) (lfO ss cs) (lfD ss cs), id, rfl, fun _ => rfl, ?_, ?_, ?_⟩
  ·intro h1 h2; rw [h1, h2]; rfl
  ·intro h; rw [h]; rfl
  ·intro h; rw [h]; rfl
  ·intro b7
   exfalso
   cases hL : lmB ss cs k
   · rw [hL] at b7; simp at b7
   have hg := (J2 hL).1
   rw [hL, hg] at b7; simp at b7
  intro b8
  refine ⟨?_, ?_⟩
  ·intro b9
   try simp only [nrmT] at b9
   exact rfl
  intro b10
  try simp only [nrmT] at b10
  refine ⟨J7h (lfO ss cs) (lfD ss cs), J3d (lfO ss cs) (lfD ss cs) k, id, rfl, fun _ => rfl, ?_, id, rfl, fun _ => rfl, ?_, id, id, rfl, fun _ => rfl, ?_, ?_, ?_⟩
  ·intro h; rw [h]; rfl
  ·intro h; rw [h]; rfl
  ·intro h; rw [h]; rfl
  ·intro b11
   have hq : lmB ss cs k = true := (by simpa using b10)
   obtain ⟨m1, m2, m3, m4, m5⟩ := J2 hq
   obtain ⟨y1, y2, y3, y4, y5⟩ := J1 m1
   exfalso
   obtain ⟨e1, e2⟩ := J7F ss cs k m1
   rw [e2, hq, e1] at b11
   rw [J1c m1, J1H m1, m4, List.length_replicate, J9I m1] at b11
   simp at b11
  intro b12
  refine ⟨?_, ?_⟩
  ·refine ⟨?_, ?_⟩
   ·refine ⟨0, 0, ?_⟩
    refine ⟨?_, rfl, rfl, rfl, rfl, rfl, rfl, rfl, rfl⟩
    ·refine ⟨?_, ?_⟩
     ·have hq : lmB ss cs k = true := (by simpa using b10)
      obtain ⟨m1, m2, m3, m4, m5⟩ := J2 hq
      obtain ⟨y1, y2, y3, y4, y5⟩ := J1 m1
      omega
     ·have hq : lmB ss cs k = true := (by simpa using b10)
      obtain ⟨m1, m2, m3, m4, m5⟩ := J2 hq
      obtain ⟨y1, y2, y3, y4, y5⟩ := J1 m1
      have eg : lgL ss cs k = clL (J6 ss cs) (lmS ss cs k) := (by unfold lgL; rw [if_pos hq])
      obtain ⟨_, hs, hp⟩ := Jb m5
      rw [List.length_replicate] at hs
      obtain ⟨z0, zc⟩ := J2Z m1 hs hp
      have el : (lgL ss cs k).length = (lmS ss cs k).length := (by rw [eg]; exact tabTo_len _ _)
      have sl := Jh hs (by omega)
      rw [show (0 : Int).toNat = 0 from rfl, z0]; rfl
   ·intro next i hJ
    obtain ⟨h1, h2⟩ := hJ
    refine ⟨?_, ?_⟩
    ·intro b13
     try simp only [nrmT] at b13
     refine ⟨?_, ?_⟩
     ·refine ⟨next, 0, ?_⟩
      refine ⟨?_, rfl, rfl, rfl, rfl, rfl, rfl, rfl, rfl, rfl⟩
      ·refine ⟨?_, ?_⟩
       ·have hq : lmB ss cs k = true := (by simpa using b10)
        obtain ⟨m1, m2, m3, m4, m5⟩ := J2 hq
        obtain ⟨y1, y2, y3, y4, y5⟩ := J1 m1
        omega
       ·have hq : lmB ss cs k = true := (by simpa using b10)
        obtain ⟨m1, m2, m3, m4, m5⟩ := J2 hq
        obtain ⟨y1, y2, y3, y4, y5⟩ := J1 m1
        omega
     intro next2 j hJ
     obtain ⟨h3, h4⟩ := hJ
     refine ⟨?_, ?_, ?_, ?_, ?_⟩
     ·have hq : lmB ss cs k = true := (by simpa using b10)
      obtain ⟨m1, m2, m3, m4, m5⟩ := J2 hq
      obtain ⟨y1, y2, y3, y4, y5⟩ := J1 m1
      omega
     ·have hq : lmB ss cs k = true := (by simpa using b10)
      obtain ⟨m1, m2, m3, m4, m5⟩ := J2 hq
      obtain ⟨y1, y2, y3, y4, y5⟩ := J1 m1
      omega
     ·have hq : lmB ss cs k = true := (by simpa using b10)
      obtain ⟨m1, m2, m3, m4, m5⟩ := J2 hq
      obtain ⟨y1, y2, y3, y4, y5⟩ := J1 m1
      omega
     ·intro b14
      try simp only [nrmT] at b14
      refine ⟨?_, ?_, ?_, ?_, ?_, ?_, ?_, ?_, ?_⟩
      ·have hq : lmB ss cs k = true := (by simpa using b10)
       obtain ⟨m1, m2, m3, m4, m5⟩ := J2 hq
       obtain ⟨y1, y2, y3, y4, y5⟩ := J1 m1
       omega
      ·have hq : lmB ss cs k = true := (by simpa using b10)
       obtain ⟨m1, m2, m3, m4, m5⟩ := J2 hq
       obtain ⟨y1, y2, y3, y4, y5⟩ := J1 m1
       omega
      ·have hq : lmB ss cs k = true := (by simpa using b10)
       obtain ⟨m1, m2, m3, m4, m5⟩ := J2 hq
       obtain ⟨y1, y2, y3, y4, y5⟩ := J1 m1
       omega
      ·have hq : lmB ss cs k = true := (by simpa using b10)
       obtain ⟨m1, m2, m3, m4, m5⟩ := J2 hq
       obtain ⟨y1, y2, y3, y4, y5⟩ := J1 m1
       omega
      ·have hq : lmB ss cs k = true := (by simpa using b10)
       obtain ⟨m1, m2, m3, m4, m5⟩ := J2 hq
       obtain ⟨y1, y2, y3, y4, y5⟩ := J1 m1
       omega
      ·have hq : lmB ss cs k = true := (by simpa using b10)
       obtain ⟨m1, m2, m3, m4, m5⟩ := J2 hq
       obtain ⟨y1, y2, y3, y4, y5⟩ := J1 m1
       omega
      ·have hq : lmB ss cs k = true := (by simpa using b10)
       obtain ⟨m1, m2, m3, m4, m5⟩ := J2 hq
       obtain ⟨y1, y2, y3, y4, y5⟩ := J1 m1
       omega
      ·intro b15
       try simp only [nrmT] at b15
       have hq : lmB ss cs k = true := (by simpa using b10)
       obtain ⟨m1, m2, m3, m4, m5⟩ := J2 hq
       obtain ⟨y1, y2, y3, y4, y5⟩ := J1 m1
       have eg : lgL ss cs k = clL (J6 ss cs) (lmS ss cs k) := (by unfold lgL; rw [if_pos hq])
       obtain ⟨_, hs, hp⟩ := Jb m5
       rw [List.length_replicate] at hs
       obtain ⟨z0, zc⟩ := J2Z m1 hs hp
       have el : (lgL ss cs k).length = (lmS ss cs k).length := (by rw [eg]; exact tabTo_len _ _)
       have sl := Jh hs (by omega)
       obtain ⟨q1, q2, q3, q4⟩ := zc i.toNat (by omega)
       rw [← eg] at q1 q4
       exfalso
       have := q4 j.toNat (by omega)
       rw [this] at b15
       omega
      intro b16
      try simp only [nrmT] at b16
      refine ⟨?_, ?_, ?_⟩
      ·have hq : lmB ss cs k = true := (by simpa using b10)
       obtain ⟨m1, m2, m3, m4, m5⟩ := J2 hq
       obtain ⟨y1, y2, y3, y4, y5⟩ := J1 m1
       have eg : lgL ss cs k = clL (J6 ss cs) (lmS ss cs k) := (by unfold lgL; rw [if_pos hq])
       obtain ⟨_, hs, hp⟩ := Jb m5
       rw [List.length_replicate] at hs
       obtain ⟨z0, zc⟩ := J2Z m1 hs hp
       have el : (lgL ss cs k).length = (lmS ss cs k).length := (by rw [eg]; exact tabTo_len _ _)
       have sl := Jh hs (by omega)
       obtain ⟨q1, q2, q3, q4⟩ := zc i.toNat (by omega)
       rw [← eg] at q1 q4
       omega
      ·have hq : lmB ss cs k = true := (by simpa using b10)
       obtain ⟨m1, m2, m3, m4, m5⟩ := J2 hq
       obtain ⟨y1, y2, y3, y4, y5⟩ := J1 m1
       have eg : lgL ss cs k = clL (J6 ss cs) (lmS ss cs k) := (by unfold lgL; rw [if_pos hq])
       obtain ⟨_, hs, hp⟩ := Jb m5
       rw [List.length_replicate] at hs
       obtain ⟨z0, zc⟩ := J2Z m1 hs hp
       have el : (lgL ss cs k).length = (lmS ss cs k).length := (by rw [eg]; exact tabTo_len _ _)
       have sl := Jh hs (by omega)
       obtain ⟨q1, q2, q3, q4⟩ := zc i.toNat (by omega)
       rw [← eg] at q1 q4
       omega
      refine ⟨(next2 + 1), (j + 1), ?_⟩
      refine ⟨?_, ?_, rfl, rfl, rfl, rfl, rfl, rfl, rfl, rfl, rfl⟩
      ·refine ⟨?_, ?_⟩
       ·have hq : lmB ss cs k = true := (by simpa using b10)
        obtain ⟨m1, m2, m3, m4, m5⟩ := J2 hq
        obtain ⟨y1, y2, y3, y4, y5⟩ := J1 m1
        omega
       ·have hq : lmB ss cs k = true := (by simpa using b10)
        obtain ⟨m1, m2, m3, m4, m5⟩ := J2 hq
        obtain ⟨y1, y2, y3, y4, y5⟩ := J1 m1
        omega
      first | (show _ < _; omega) | (simp only [l_FnLines_mJ1]; omega) | (simp only [l_FnLines_mJ1] at *; simp at *; omega)
     intro b17
     try simp only [nrmT] at b17
     refine ⟨?_, ?_⟩
     ·have hq : lmB ss cs k = true := (by simpa using b10)
      obtain ⟨m1, m2, m3, m4, m5⟩ := J2 hq
      obtain ⟨y1, y2, y3, y4, y5⟩ := J1 m1
      have eg : lgL ss cs k = clL (J6 ss cs) (lmS ss cs k) := (by unfold lgL; rw [if_pos hq])
      obtain ⟨_, hs, hp⟩ := Jb m5
      rw [List.length_replicate] at hs
      obtain ⟨z0, zc⟩ := J2Z m1 hs hp
      have el : (lgL ss cs k).length = (lmS ss cs k).length := (by rw [eg]; exact tabTo_len _ _)
      have sl := Jh hs (by omega)
      omega
     refine ⟨next2, (i + 1), ?_⟩
     refine ⟨?_, ?_, rfl, rfl, rfl, rfl, rfl, rfl, rfl, rfl⟩
     ·refine ⟨?_, ?_⟩
      ·have hq : lmB ss cs k = true := (by simpa using b10)
       obtain ⟨m1, m2, m3, m4, m5⟩ := J2 hq
       obtain ⟨y1, y2, y3, y4, y5⟩ := J1 m1
       omega
      ·have hq : lmB ss cs k = true := (by simpa using b10)
       obtain ⟨m1, m2, m3, m4, m5⟩ := J2 hq
       obtain ⟨y1, y2, y3, y4, y5⟩ := J1 m1
       have eg : lgL ss cs k = clL (J6 ss cs) (lmS ss cs k) := (by unfold lgL; rw [if_pos hq])
       obtain ⟨_, hs, hp⟩ := Jb m5
       rw [List.length_replicate] at hs
       obtain ⟨z0, zc⟩ := J2Z m1 hs hp
       have el : (lgL ss cs k).length = (lmS ss cs k).length := (by rw [eg]; exact tabTo_len _ _)
       have sl := Jh hs (by omega)
       obtain ⟨q1, q2, q3, q4⟩ := zc i.toNat (by omega)
       rw [← eg] at q1 q4
       rw [show (i + 1).toNat = i.toNat + 1 by omega]
       omega
     first | (show _ < _; omega) | (simp only [l_FnLines_mJ0]; omega) | (simp only [l_FnLines_mJ0] at *; simp at *; omega)
    intro b18
    try simp only [nrmT] at b18
    refine ⟨?_, rfl, rfl, rfl, rfl⟩
    ·trivial
  intro  hJ
  refine ⟨?_, ?_⟩
  ·refine ⟨?_, ?_⟩
   ·refine ⟨([]), 0, ?_⟩
    refine ⟨?_, rfl, rfl, rfl, rfl, rfl, rfl, rfl, rfl, rfl, ?_⟩
    ·refine ⟨?_, ?_, ?_⟩
     ·have hq : lmB ss cs k = true := (by simpa using b10)
      obtain ⟨m1, m2, m3, m4, m5⟩ := J2 hq
      obtain ⟨y1, y2, y3, y4, y5⟩ := J1 m1
      omega
     ·rfl
     ·intro c9 h9; exact absurd h9 (by simp)
    rfl
   ·intro table c hJ
    obtain ⟨h5, h6, h7⟩ := hJ
    refine ⟨?_, ?_⟩
    ·intro b19
     try simp only [nrmT] at b19
     refine ⟨?_, rfl, ?_, ?_, ?_, ?_⟩
     ·have hq : lmB ss cs k = true := (by simpa using b10)
      obtain ⟨m1, m2, m3, m4, m5⟩ := J2 hq
      obtain ⟨y1, y2, y3, y4, y5⟩ := J1 m1
      omega
     ·have hq : lmB ss cs k = true := (by simpa using b10)
      obtain ⟨m1, m2, m3, m4, m5⟩ := J2 hq
      obtain ⟨y1, y2, y3, y4, y5⟩ := J1 m1
      omega
     ·have hq : lmB ss cs k = true := (by simpa using b10)
      obtain ⟨m1, m2, m3, m4, m5⟩ := J2 hq
      obtain ⟨y1, y2, y3, y4, y5⟩ := J1 m1
      omega
     ·refine ⟨(List.replicate (((cs.length : Int) + 1).toNat) (0 : Int)), 1, ?_⟩
      refine ⟨?_, rfl, rfl, rfl, rfl, rfl, rfl, rfl, rfl, ?_, rfl, rfl, rfl⟩
      ·refine ⟨?_, ?_, ?_⟩
       ·have hq : lmB ss cs k = true := (by simpa using b10)
        obtain ⟨m1, m2, m3, m4, m5⟩ := J2 hq
        obtain ⟨y1, y2, y3, y4, y5⟩ := J1 m1
        omega
       ·rw [List.length_replicate]; omega
       ·intro i9 h9
        rw [JaM, if_neg (by omega)]
      simp
     intro row i2 hJ
     obtain ⟨h8, h9, h10⟩ := hJ
     refine ⟨?_, ?_⟩
     ·intro b20
      try simp only [nrmT] at b20
      refine ⟨?_, ?_, ?_, ?_, ?_⟩
      ·have hq : lmB ss cs k = true := (by simpa using b10)
       obtain ⟨m1, m2, m3, m4, m5⟩ := J2 hq
       obtain ⟨y1, y2, y3, y4, y5⟩ := J1 m1
       omega
      ·have hq : lmB ss cs k = true := (by simpa using b10)
       obtain ⟨m1, m2, m3, m4, m5⟩ := J2 hq
       obtain ⟨y1, y2, y3, y4, y5⟩ := J1 m1
       omega
      ·have hq : lmB ss cs k = true := (by simpa using b10)
       obtain ⟨m1, m2, m3, m4, m5⟩ := J2 hq
       obtain ⟨y1, y2, y3, y4, y5⟩ := J1 m1
       omega
      ·have hq : lmB ss cs k = true := (by simpa using b10)
       obtain ⟨m1, m2, m3, m4, m5⟩ := J2 hq
       obtain ⟨y1, y2, y3, y4, y5⟩ := J1 m1
       omega
      refine ⟨(row.set i2.toNat (-1)), (i2 + 1), ?_⟩
      refine ⟨?_, ?_, rfl, rfl, rfl, rfl, rfl, rfl, rfl, rfl, ?_, rfl, rfl, rfl⟩
      ·refine ⟨?_, ?_, ?_⟩
       ·have hq : lmB ss cs k = true := (by simpa using b10)
        obtain ⟨m1, m2, m3, m4, m5⟩ := J2 hq
        obtain ⟨y1, y2, y3, y4, y5⟩ := J1 m1
        omega
       ·rw [List.length_set]; exact h9
       ·intro i9 hi9
        by_cases e : i9 = i2.toNat
        · rw [e, J6j (by omega), if_pos (by omega)]
        rw [J6K e, h10 i9 hi9]
        by_cases q : 0 < i9 ∧ (i9 : Int) < i2
        · rw [if_pos q, if_pos (by omega)]
        rw [if_neg q, if_neg (by omega)]
      ·first | (show _ < _; omega) | (simp only [l_FnLines_mJ3]; omega) | (simp only [l_FnLines_mJ3] at *; simp at *; omega)
      simp
     intro b21
     try simp only [nrmT] at b21
     refine ⟨rfl, rfl, rfl, by decide, ?_, ?_, ?_⟩
     ·have hq : lmB ss cs k = true := (by simpa using b10)
      obtain ⟨m1, m2, m3, m4, m5⟩ := J2 hq
      obtain ⟨y1, y2, y3, y4, y5⟩ := J1 m1
      omega
     ·have hq : lmB ss cs k = true := (by simpa using b10)
      obtain ⟨m1, m2, m3, m4, m5⟩ := J2 hq
      obtain ⟨y1, y2, y3, y4, y5⟩ := J1 m1
      omega
     refine ⟨(table ++ [row]), (c + 1), ?_⟩
     refine ⟨?_, ?_, rfl, rfl, rfl, rfl, rfl, rfl, ?_, rfl, rfl⟩
     ·refine ⟨?_, ?_, ?_⟩
      ·have hq : lmB ss cs k = true := (by simpa using b10)
       obtain ⟨m1, m2, m3, m4, m5⟩ := J2 hq
       obtain ⟨y1, y2, y3, y4, y5⟩ := J1 m1
       omega
      ·rw [List.length_append, List.length_cons, List.length_nil]; omega
      ·intro c9 hc9
       rw [J75 (by simp; omega)]
       by_cases e : c9 < table.length
       · rw [if_pos e]; exact h7 c9 (by omega)
       rw [if_neg e]
       refine ⟨h9, fun i9 hi9 => ?_⟩
       rw [h10 i9 hi9]
       by_cases q : i9 = 0
       · rw [if_pos q, if_neg (by omega)]
       rw [if_neg q, if_pos (by omega)]
     ·first | (show _ < _; omega) | (simp only [l_FnLines_mJ2]; omega) | (simp only [l_FnLines_mJ2] at *; simp at *; omega)
     simp
    intro b22
    try simp only [nrmT] at b22
    refine ⟨table, ?_⟩
    refine ⟨?_, rfl, rfl, rfl, rfl, rfl, rfl, rfl, rfl⟩
    ·unfold l_FnLines_JA2
     have hq : lmB ss cs k = true := (by simpa using b10)
     obtain ⟨m1, m2, m3, m4, m5⟩ := J2 hq
     obtain ⟨y1, y2, y3, y4, y5⟩ := J1 m1
     exact ⟨by omega, fun c hc => ⟨(h7 c (by omega)).1, fun i hi => by rw [(h7 c (by omega)).2 i hi]; rfl⟩⟩
  intro table1 hJ
  have a1 := hJ
  refine ⟨?_, ?_⟩
  ·refine ⟨table1, 0, ?_⟩
   refine ⟨?_, rfl, rfl, rfl, rfl, rfl, rfl, rfl, rfl, rfl⟩
   ·refine ⟨?_, ?_⟩
    ·have hq : lmB ss cs k = true := (by simpa using b10)
     obtain ⟨m1, m2, m3, m4, m5⟩ := J2 hq
     obtain ⟨y1, y2, y3, y4, y5⟩ := J1 m1
     omega
    ·exact a1
  intro table2 s hJ
  obtain ⟨g1, g2⟩ := hJ
  refine ⟨?_, ?_⟩
  ·intro b23
   try simp only [nrmT] at b23
   refine ⟨?_, ?_⟩
   ·refine ⟨table2, k, ?_⟩
    refine ⟨?_, rfl, rfl, rfl, rfl, rfl, rfl, rfl, rfl, rfl, rfl⟩
    ·refine ⟨?_, ?_⟩
     ·have hq : lmB ss cs k = true := (by simpa using b10)
      obtain ⟨m1, m2, m3, m4, m5⟩ := J2 hq
      obtain ⟨y1, y2, y3, y4, y5⟩ := J1 m1
      omega
     ·have hq : lmB ss cs k = true := (by simpa using b10)
      obtain ⟨m1, m2, m3, m4, m5⟩ := J2 hq
      obtain ⟨y1, y2, y3, y4, y5⟩ := J1 m1
      exact Jal g2 (by omega)
   intro table3 c3 hJ
   obtain ⟨g3, g4⟩ := hJ
   refine ⟨?_, ?_⟩
   ·intro b24
    try simp only [nrmT] at b24
    refine ⟨?_, ?_⟩
    ·refine ⟨table3, (cs.length : Int), ?_⟩
     refine ⟨?_, rfl, rfl, rfl, rfl, rfl, rfl, rfl, rfl, rfl, rfl, rfl⟩
     ·refine ⟨?_, ?_⟩
      ·have hq : lmB ss cs k = true := (by simpa using b10)
       obtain ⟨m1, m2, m3, m4, m5⟩ := J2 hq
       obtain ⟨y1, y2, y3, y4, y5⟩ := J1 m1
       omega
      ·exact JaI g4 (by omega)
    intro table4 i4 hJ
    obtain ⟨g5, g6⟩ := hJ
    refine ⟨?_, ?_⟩
    ·intro b25
     try simp only [nrmT] at b25
     refine ⟨?_, ?_⟩
     ·refine ⟨table4, 0, i4, ?_⟩
      refine ⟨?_, rfl, rfl, rfl, rfl, rfl, rfl, rfl, rfl, rfl, rfl, rfl, rfl, rfl⟩
      ·refine ⟨?_, ?_, ?_⟩
       ·have hq : lmB ss cs k = true := (by simpa using b10)
        obtain ⟨m1, m2, m3, m4, m5⟩ := J2 hq
        obtain ⟨y1, y2, y3, y4, y5⟩ := J1 m1
        omega
       ·exact (Jap _ _ _ _).symm
       ·exact Ja8 g6 (by omega)
     intro table5 sum j5 hJ
     obtain ⟨g7, g8, g9⟩ := hJ
     refine ⟨?_, ?_⟩
     ·intro b26
      try simp only [nrmT] at b26
      refine ⟨rfl, ?_, ?_, ?_, ?_, ?_, ?_, ?_, ?_, id, id, ?_, ?_, id, ?_, id, id, ?_, ?_, id, ?_, ?_, id, id, id, ?_, id, id, ?_, ?_, id, ?_, id, id, ?_, ?_, id, ?_, ?_, id, id, ?_, id, id, ?_, ?_, id, ?_, id, id, ?_, ?_, id, ?_, ?_, id, id, id, fun _ _ => rfl, ?_, rfl, id, fun _ => rfl, ?_, ?_⟩
      ·have hq : lmB ss cs k = true := (by simpa using b10)
       obtain ⟨m1, m2, m3, m4, m5⟩ := J2 hq
       obtain ⟨y1, y2, y3, y4, y5⟩ := J1 m1
       omega
      ·have hq : lmB ss cs k = true := (by simpa using b10)
       obtain ⟨m1, m2, m3, m4, m5⟩ := J2 hq
       obtain ⟨y1, y2, y3, y4, y5⟩ := J1 m1
       omega
      ·have hq : lmB ss cs k = true := (by simpa using b10)
       obtain ⟨m1, m2, m3, m4, m5⟩ := J2 hq
       obtain ⟨y1, y2, y3, y4, y5⟩ := J1 m1
       obtain ⟨⟨tl, tr1, tr2⟩, te1, te2, te3, te4⟩ := Jf m1 g9 (by omega) (by omega) (by omega) (by omega)
       omega
      ·have hq : lmB ss cs k = true := (by simpa using b10)
       obtain ⟨m1, m2, m3, m4, m5⟩ := J2 hq
       obtain ⟨y1, y2, y3, y4, y5⟩ := J1 m1
       obtain ⟨⟨tl, tr1, tr2⟩, te1, te2, te3, te4⟩ := Jf m1 g9 (by omega) (by omega) (by omega) (by omega)
       omega
      ·have hq : lmB ss cs k = true := (by simpa using b10)
       obtain ⟨m1, m2, m3, m4, m5⟩ := J2 hq
       obtain ⟨y1, y2, y3, y4, y5⟩ := J1 m1
       omega
      ·have hq : lmB ss cs k = true := (by simpa using b10)
       obtain ⟨m1, m2, m3, m4, m5⟩ := J2 hq
       obtain ⟨y1, y2, y3, y4, y5⟩ := J1 m1
       obtain ⟨⟨tl, tr1, tr2⟩, te1, te2, te3, te4⟩ := Jf m1 g9 (by omega) (by omega) (by omega) (by omega)
       omega
      ·have hq : lmB ss cs k = true := (by simpa using b10)
       obtain ⟨m1, m2, m3, m4, m5⟩ := J2 hq
       obtain ⟨y1, y2, y3, y4, y5⟩ := J1 m1
       obtain ⟨⟨tl, tr1, tr2⟩, te1, te2, te3, te4⟩ := Jf m1 g9 (by omega) (by omega) (by omega) (by omega)
       omega
      ·have hq : lmB ss cs k = true := (by simpa using b10)
       obtain ⟨m1, m2, m3, m4, m5⟩ := J2 hq
       obtain ⟨y1, y2, y3, y4, y5⟩ := J1 m1
       obtain ⟨⟨tl, tr1, tr2⟩, te1, te2, te3, te4⟩ := Jf m1 g9 (by omega) (by omega) (by omega) (by omega)
       omega
      ·intro _
       have hq : lmB ss cs k = true := (by simpa using b10)
       obtain ⟨m1, m2, m3, m4, m5⟩ := J2 hq
       obtain ⟨y1, y2, y3, y4, y5⟩ := J1 m1
       obtain ⟨⟨tl, tr1, tr2⟩, te1, te2, te3, te4⟩ := Jf m1 g9 (by omega) (by omega) (by omega) (by omega)
       omega
      ·intro _
       have hq : lmB ss cs k = true := (by simpa using b10)
       obtain ⟨m1, m2, m3, m4, m5⟩ := J2 hq
       obtain ⟨y1, y2, y3, y4, y5⟩ := J1 m1
       obtain ⟨⟨tl, tr1, tr2⟩, te1, te2, te3, te4⟩ := Jf m1 g9 (by omega) (by omega) (by omega) (by omega)
       omega
      ·intro _
       have hq : lmB ss cs k = true := (by simpa using b10)
       obtain ⟨m1, m2, m3, m4, m5⟩ := J2 hq
       obtain ⟨y1, y2, y3, y4, y5⟩ := J1 m1
       obtain ⟨⟨tl, tr1, tr2⟩, te1, te2, te3, te4⟩ := Jf m1 g9 (by omega) (by omega) (by omega) (by omega)
       omega
      ·intro _
       have hq : lmB ss cs k = true := (by simpa using b10)
       obtain ⟨m1, m2, m3, m4, m5⟩ := J2 hq
       obtain ⟨y1, y2, y3, y4, y5⟩ := J1 m1
       obtain ⟨⟨tl, tr1, tr2⟩, te1, te2, te3, te4⟩ := Jf m1 g9 (by omega) (by omega) (by omega) (by omega)
       omega
      ·intro _
       have hq : lmB ss cs k = true := (by simpa using b10)
       obtain ⟨m1, m2, m3, m4, m5⟩ := J2 hq
       obtain ⟨y1, y2, y3, y4, y5⟩ := J1 m1
       obtain ⟨⟨tl, tr1, tr2⟩, te1, te2, te3, te4⟩ := Jf m1 g9 (by omega) (by omega) (by omega) (by omega)
       omega
      ·intro _
       have hq : lmB ss cs k = true := (by simpa using b10)
       obtain ⟨m1, m2, m3, m4, m5⟩ := J2 hq
       obtain ⟨y1, y2, y3, y4, y5⟩ := J1 m1
       obtain ⟨⟨tl, tr1, tr2⟩, te1, te2, te3, te4⟩ := Jf m1 g9 (by omega) (by omega) (by omega) (by omega)
       omega
      ·intro _
       have hq : lmB ss cs k = true := (by simpa using b10)
       obtain ⟨m1, m2, m3, m4, m5⟩ := J2 hq
       obtain ⟨y1, y2, y3, y4, y5⟩ := J1 m1
       obtain ⟨⟨tl, tr1, tr2⟩, te1, te2, te3, te4⟩ := Jf m1 g9 (by omega) (by omega) (by omega) (by omega)
       omega
      ·intro _
       have hq : lmB ss cs k = true := (by simpa using b10)
       obtain ⟨m1, m2, m3, m4, m5⟩ := J2 hq
       obtain ⟨y1, y2, y3, y4, y5⟩ := J1 m1
       obtain ⟨⟨tl, tr1, tr2⟩, te1, te2, te3, te4⟩ := Jf m1 g9 (by omega) (by omega) (by omega) (by omega)
       omega
      ·intro _
       have hq : lmB ss cs k = true := (by simpa using b10)
       obtain ⟨m1, m2, m3, m4, m5⟩ := J2 hq
       obtain ⟨y1, y2, y3, y4, y5⟩ := J1 m1
       obtain ⟨⟨tl, tr1, tr2⟩, te1, te2, te3, te4⟩ := Jf m1 g9 (by omega) (by omega) (by omega) (by omega)
       omega
      ·intro _
       have hq : lmB ss cs k = true := (by simpa using b10)
       obtain ⟨m1, m2, m3, m4, m5⟩ := J2 hq
       obtain ⟨y1, y2, y3, y4, y5⟩ := J1 m1
       obtain ⟨⟨tl, tr1, tr2⟩, te1, te2, te3, te4⟩ := Jf m1 g9 (by omega) (by omega) (by omega) (by omega)
       omega
      ·intro _
       have hq : lmB ss cs k = true := (by simpa using b10)
       obtain ⟨m1, m2, m3, m4, m5⟩ := J2 hq
       obtain ⟨y1, y2, y3, y4, y5⟩ := J1 m1
       obtain ⟨⟨tl, tr1, tr2⟩, te1, te2, te3, te4⟩ := Jf m1 g9 (by omega) (by omega) (by omega) (by omega)
       omega
      ·intro _
       have hq : lmB ss cs k = true := (by simpa using b10)
       obtain ⟨m1, m2, m3, m4, m5⟩ := J2 hq
       obtain ⟨y1, y2, y3, y4, y5⟩ := J1 m1
       obtain ⟨⟨tl, tr1, tr2⟩, te1, te2, te3, te4⟩ := Jf m1 g9 (by omega) (by omega) (by omega) (by omega)
       omega
      ·intro _
       have hq : lmB ss cs k = true := (by simpa using b10)
       obtain ⟨m1, m2, m3, m4, m5⟩ := J2 hq
       obtain ⟨y1, y2, y3, y4, y5⟩ := J1 m1
       obtain ⟨⟨tl, tr1, tr2⟩, te1, te2, te3, te4⟩ := Jf m1 g9 (by omega) (by omega) (by omega) (by omega)
       omega
      ·intro _
       have hq : lmB ss cs k = true := (by simpa using b10)
       obtain ⟨m1, m2, m3, m4, m5⟩ := J2 hq
       obtain ⟨y1, y2, y3, y4, y5⟩ := J1 m1
       obtain ⟨⟨tl, tr1, tr2⟩, te1, te2, te3, te4⟩ := Jf m1 g9 (by omega) (by omega) (by omega) (by omega)
       omega
      ·intro _
       have hq : lmB ss cs k = true := (by simpa using b10)
       obtain ⟨m1, m2, m3, m4, m5⟩ := J2 hq
       obtain ⟨y1, y2, y3, y4, y5⟩ := J1 m1
       obtain ⟨⟨tl, tr1, tr2⟩, te1, te2, te3, te4⟩ := Jf m1 g9 (by omega) (by omega) (by omega) (by omega)
       omega
      ·intro _
       have hq : lmB ss cs k = true := (by simpa using b10)
       obtain ⟨m1, m2, m3, m4, m5⟩ := J2 hq
       obtain ⟨y1, y2, y3, y4, y5⟩ := J1 m1
       obtain ⟨⟨tl, tr1, tr2⟩, te1, te2, te3, te4⟩ := Jf m1 g9 (by omega) (by omega) (by omega) (by omega)
       rw [te1, g8]
       omega
      ·intro _
       have hq : lmB ss cs k = true := (by simpa using b10)
       obtain ⟨m1, m2, m3, m4, m5⟩ := J2 hq
       obtain ⟨y1, y2, y3, y4, y5⟩ := J1 m1
       obtain ⟨⟨tl, tr1, tr2⟩, te1, te2, te3, te4⟩ := Jf m1 g9 (by omega) (by omega) (by omega) (by omega)
       omega
      ·intro _
       have hq : lmB ss cs k = true := (by simpa using b10)
       obtain ⟨m1, m2, m3, m4, m5⟩ := J2 hq
       obtain ⟨y1, y2, y3, y4, y5⟩ := J1 m1
       obtain ⟨⟨tl, tr1, tr2⟩, te1, te2, te3, te4⟩ := Jf m1 g9 (by omega) (by omega) (by omega) (by omega)
       omega
      ·intro _
       have hq : lmB ss cs k = true := (by simpa using b10)
       obtain ⟨m1, m2, m3, m4, m5⟩ := J2 hq
       obtain ⟨y1, y2, y3, y4, y5⟩ := J1 m1
       obtain ⟨⟨tl, tr1, tr2⟩, te1, te2, te3, te4⟩ := Jf m1 g9 (by omega) (by omega) (by omega) (by omega)
       omega
      ·intro _
       have hq : lmB ss cs k = true := (by simpa using b10)
       obtain ⟨m1, m2, m3, m4, m5⟩ := J2 hq
       obtain ⟨y1, y2, y3, y4, y5⟩ := J1 m1
       obtain ⟨⟨tl, tr1, tr2⟩, te1, te2, te3, te4⟩ := Jf m1 g9 (by omega) (by omega) (by omega) (by omega)
       omega
      ·intro _
       have hq : lmB ss cs k = true := (by simpa using b10)
       obtain ⟨m1, m2, m3, m4, m5⟩ := J2 hq
       obtain ⟨y1, y2, y3, y4, y5⟩ := J1 m1
       obtain ⟨⟨tl, tr1, tr2⟩, te1, te2, te3, te4⟩ := Jf m1 g9 (by omega) (by omega) (by omega) (by omega)
       omega
      ·intro _
       have hq : lmB ss cs k = true := (by simpa using b10)
       obtain ⟨m1, m2, m3, m4, m5⟩ := J2 hq
       obtain ⟨y1, y2, y3, y4, y5⟩ := J1 m1
       obtain ⟨⟨tl, tr1, tr2⟩, te1, te2, te3, te4⟩ := Jf m1 g9 (by omega) (by omega) (by omega) (by omega)
       omega
      ·intro _
       have hq : lmB ss cs k = true := (by simpa using b10)
       obtain ⟨m1, m2, m3, m4, m5⟩ := J2 hq
       obtain ⟨y1, y2, y3, y4, y5⟩ := J1 m1
       obtain ⟨⟨tl, tr1, tr2⟩, te1, te2, te3, te4⟩ := Jf m1 g9 (by omega) (by omega) (by omega) (by omega)
       omega
      ·intro h1 h2; rw [h1, h2]; rfl
      ·intro b27
       refine ⟨rfl, ?_, ?_, ?_, ?_, ?_, ?_, ?_, ?_, ?_, ?_, ?_, ?_, ?_, ?_, ?_, ?_, ?_, ?_⟩
       ·have hq : lmB ss cs k = true := (by simpa using b10)
        obtain ⟨m1, m2, m3, m4, m5⟩ := J2 hq
        obtain ⟨y1, y2, y3, y4, y5⟩ := J1 m1
        omega
       ·have hq : lmB ss cs k = true := (by simpa using b10)
        obtain ⟨m1, m2, m3, m4, m5⟩ := J2 hq
        obtain ⟨y1, y2, y3, y4, y5⟩ := J1 m1
        obtain ⟨⟨tl, tr1, tr2⟩, te1, te2, te3, te4⟩ := Jf m1 g9 (by omega) (by omega) (by omega) (by omega)
        omega
       ·have hq : lmB ss cs k = true := (by simpa using b10)
        obtain ⟨m1, m2, m3, m4, m5⟩ := J2 hq
        obtain ⟨y1, y2, y3, y4, y5⟩ := J1 m1
        obtain ⟨⟨tl, tr1, tr2⟩, te1, te2, te3, te4⟩ := Jf m1 g9 (by omega) (by omega) (by omega) (by omega)
        omega
       ·have hq : lmB ss cs k = true := (by simpa using b10)
        obtain ⟨m1, m2, m3, m4, m5⟩ := J2 hq
        obtain ⟨y1, y2, y3, y4, y5⟩ := J1 m1
        omega
       ·have hq : lmB ss cs k = true := (by simpa using b10)
        obtain ⟨m1, m2, m3, m4, m5⟩ := J2 hq
        obtain ⟨y1, y2, y3, y4, y5⟩ := J1 m1
        omega
       ·have hq : lmB ss cs k = true := (by simpa using b10)
        obtain ⟨m1, m2, m3, m4, m5⟩ := J2 hq
        obtain ⟨y1, y2, y3, y4, y5⟩ := J1 m1
        obtain ⟨⟨tl, tr1, tr2⟩, te1, te2, te3, te4⟩ := Jf m1 g9 (by omega) (by omega) (by omega) (by omega)
        omega
       ·have hq : lmB ss cs k = true := (by simpa using b10)
        obtain ⟨m1, m2, m3, m4, m5⟩ := J2 hq
        obtain ⟨y1, y2, y3, y4, y5⟩ := J1 m1
        obtain ⟨⟨tl, tr1, tr2⟩, te1, te2, te3, te4⟩ := Jf m1 g9 (by omega) (by omega) (by omega) (by omega)
        omega
       ·have hq : lmB ss cs k = true := (by simpa using b10)
        obtain ⟨m1, m2, m3, m4, m5⟩ := J2 hq
        obtain ⟨y1, y2, y3, y4, y5⟩ := J1 m1
        omega
       ·have hq : lmB ss cs k = true := (by simpa using b10)
        obtain ⟨m1, m2, m3, m4, m5⟩ := J2 hq
        obtain ⟨y1, y2, y3, y4, y5⟩ := J1 m1
        obtain ⟨⟨tl, tr1, tr2⟩, te1, te2, te3, te4⟩ := Jf m1 g9 (by omega) (by omega) (by omega) (by omega)
        omega
       ·have hq : lmB ss cs k = true := (by simpa using b10)
        obtain ⟨m1, m2, m3, m4, m5⟩ := J2 hq
        obtain ⟨y1, y2, y3, y4, y5⟩ := J1 m1
        obtain ⟨⟨tl, tr1, tr2⟩, te1, te2, te3, te4⟩ := Jf m1 g9 (by omega) (by omega) (by omega) (by omega)
        omega
       ·have hq : lmB ss cs k = true := (by simpa using b10)
        obtain ⟨m1, m2, m3, m4, m5⟩ := J2 hq
        obtain ⟨y1, y2, y3, y4, y5⟩ := J1 m1
        obtain ⟨⟨tl, tr1, tr2⟩, te1, te2, te3, te4⟩ := Jf m1 g9 (by omega) (by omega) (by omega) (by omega)
        omega
       ·have hq : lmB ss cs k = true := (by simpa using b10)
        obtain ⟨m1, m2, m3, m4, m5⟩ := J2 hq
        obtain ⟨y1, y2, y3, y4, y5⟩ := J1 m1
        obtain ⟨⟨tl, tr1, tr2⟩, te1, te2, te3, te4⟩ := Jf m1 g9 (by omega) (by omega) (by omega) (by omega)
        rw [te1, g8]
        omega
       ·have hq : lmB ss cs k = true := (by simpa using b10)
        obtain ⟨m1, m2, m3, m4, m5⟩ := J2 hq
        obtain ⟨y1, y2, y3, y4, y5⟩ := J1 m1
        omega
       ·have hq : lmB ss cs k = true := (by simpa using b10)
        obtain ⟨m1, m2, m3, m4, m5⟩ := J2 hq
        obtain ⟨y1, y2, y3, y4, y5⟩ := J1 m1
        obtain ⟨⟨tl, tr1, tr2⟩, te1, te2, te3, te4⟩ := Jf m1 g9 (by omega) (by omega) (by omega) (by omega)
        omega
       ·have hq : lmB ss cs k = true := (by simpa using b10)
        obtain ⟨m1, m2, m3, m4, m5⟩ := J2 hq
        obtain ⟨y1, y2, y3, y4, y5⟩ := J1 m1
        obtain ⟨⟨tl, tr1, tr2⟩, te1, te2, te3, te4⟩ := Jf m1 g9 (by omega) (by omega) (by omega) (by omega)
        omega
       ·have hq : lmB ss cs k = true := (by simpa using b10)
        obtain ⟨m1, m2, m3, m4, m5⟩ := J2 hq
        obtain ⟨y1, y2, y3, y4, y5⟩ := J1 m1
        obtain ⟨⟨tl, tr1, tr2⟩, te1, te2, te3, te4⟩ := Jf m1 g9 (by omega) (by omega) (by omega) (by omega)
        omega
       ·intro b28
        try simp only [nrmT] at b28
        refine ⟨rfl, ?_, ?_, ?_, ?_, ?_, ?_, ?_, ?_, ?_, ?_⟩
        ·have hq : lmB ss cs k = true := (by simpa using b10)
         obtain ⟨m1, m2, m3, m4, m5⟩ := J2 hq
         obtain ⟨y1, y2, y3, y4, y5⟩ := J1 m1
         omega
        ·have hq : lmB ss cs k = true := (by simpa using b10)
         obtain ⟨m1, m2, m3, m4, m5⟩ := J2 hq
         obtain ⟨y1, y2, y3, y4, y5⟩ := J1 m1
         omega
        ·have hq : lmB ss cs k = true := (by simpa using b10)
         obtain ⟨m1, m2, m3, m4, m5⟩ := J2 hq
         obtain ⟨y1, y2, y3, y4, y5⟩ := J1 m1
         omega
        ·have hq : lmB ss cs k = true := (by simpa using b10)
         obtain ⟨m1, m2, m3, m4, m5⟩ := J2 hq
         obtain ⟨y1, y2, y3, y4, y5⟩ := J1 m1
         omega
        ·have hq : lmB ss cs k = true := (by simpa using b10)
         obtain ⟨m1, m2, m3, m4, m5⟩ := J2 hq
         obtain ⟨y1, y2, y3, y4, y5⟩ := J1 m1
         omega
        ·have hq : lmB ss cs k = true := (by simpa using b10)
         obtain ⟨m1, m2, m3, m4, m5⟩ := J2 hq
         obtain ⟨y1, y2, y3, y4, y5⟩ := J1 m1
         omega
        ·have hq : lmB ss cs k = true := (by simpa using b10)
         obtain ⟨m1, m2, m3, m4, m5⟩ := J2 hq
         obtain ⟨y1, y2, y3, y4, y5⟩ := J1 m1
         omega
        ·have hq : lmB ss cs k = true := (by simpa using b10)
         obtain ⟨m1, m2, m3, m4, m5⟩ := J2 hq
         obtain ⟨y1, y2, y3, y4, y5⟩ := J1 m1
         obtain ⟨⟨tl, tr1, tr2⟩, te1, te2, te3, te4⟩ := Jf m1 g9 (by omega) (by omega) (by omega) (by omega)
         have u1 := y5 (j5 - 1).toNat (by omega)
         have u2 := Ji y4 s.toNat (by omega)
         omega
        ·intro b29
         try simp only [nrmT] at b29
         refine ⟨?_, ?_, ?_, ?_⟩
         ·have hq : lmB ss cs k = true := (by simpa using b10)
          obtain ⟨m1, m2, m3, m4, m5⟩ := J2 hq
          obtain ⟨y1, y2, y3, y4, y5⟩ := J1 m1
          obtain ⟨⟨tl, tr1, tr2⟩, te1, te2, te3, te4⟩ := Jf m1 g9 (by omega) (by omega) (by omega) (by omega)
          have u1 := y5 (j5 - 1).toNat (by omega)
          have u2 := Ji y4 s.toNat (by omega)
          omega
         ·have hq : lmB ss cs k = true := (by simpa using b10)
          obtain ⟨m1, m2, m3, m4, m5⟩ := J2 hq
          obtain ⟨y1, y2, y3, y4, y5⟩ := J1 m1
          obtain ⟨⟨tl, tr1, tr2⟩, te1, te2, te3, te4⟩ := Jf m1 g9 (by omega) (by omega) (by omega) (by omega)
          have u1 := y5 (j5 - 1).toNat (by omega)
          have u2 := Ji y4 s.toNat (by omega)
          omega
         ·have hq : lmB ss cs k = true := (by simpa using b10)
          obtain ⟨m1, m2, m3, m4, m5⟩ := J2 hq
          obtain ⟨y1, y2, y3, y4, y5⟩ := J1 m1
          omega
         refine ⟨(table5.set c3.toNat ((table5.getD c3.toNat []).set i4.toNat (((table5.getD ((c3 - 1).toNat) []).getD j5.toNat 0) + sum))), (sum + (-((cs.getD ((j5 - 1).toNat) 0) - (ss.getD s.toNat 0)))), (j5 - 1), ?_⟩
         refine ⟨?_, ?_, rfl, rfl, rfl, rfl, rfl, rfl, ?_, rfl, rfl, rfl, rfl, rfl, rfl⟩
         ·refine ⟨?_, ?_, ?_⟩
          ·have hq : lmB ss cs k = true := (by simpa using b10)
           obtain ⟨m1, m2, m3, m4, m5⟩ := J2 hq
           obtain ⟨y1, y2, y3, y4, y5⟩ := J1 m1
           omega
          ·have sa := J4t (s := s) (i := i4) (j := j5) (by omega) g8 rfl
           first | exact sa.1 (by assumption) | exact sa.2 (by omega) | exact sa.1 (by omega)
          ·have hq : lmB ss cs k = true := (by simpa using b10)
           obtain ⟨m1, m2, m3, m4, m5⟩ := J2 hq
           obtain ⟨y1, y2, y3, y4, y5⟩ := J1 m1
           exact J87 m1 g9 (by omega) (by omega) (by omega) (by omega) g8 b27
         ·first | (show _ < _; omega) | (simp only [l_FnLines_mJ7]; omega) | (simp only [l_FnLines_mJ7] at *; simp at *; omega)
         rw [List.length_set]
        intro b30
        try simp only [nrmT] at b30
        refine ⟨?_, ?_, ?_⟩
        ·have hq : lmB ss cs k = true := (by simpa using b10)
         obtain ⟨m1, m2, m3, m4, m5⟩ := J2 hq
         obtain ⟨y1, y2, y3, y4, y5⟩ := J1 m1
         obtain ⟨⟨tl, tr1, tr2⟩, te1, te2, te3, te4⟩ := Jf m1 g9 (by omega) (by omega) (by omega) (by omega)
         have u1 := y5 (j5 - 1).toNat (by omega)
         have u2 := Ji y4 s.toNat (by omega)
         omega
        ·have hq : lmB ss cs k = true := (by simpa using b10)
         obtain ⟨m1, m2, m3, m4, m5⟩ := J2 hq
         obtain ⟨y1, y2, y3, y4, y5⟩ := J1 m1
         omega
        refine ⟨(table5.set c3.toNat ((table5.getD c3.toNat []).set i4.toNat (((table5.getD ((c3 - 1).toNat) []).getD j5.toNat 0) + sum))), (sum + ((cs.getD ((j5 - 1).toNat) 0) - (ss.getD s.toNat 0))), (j5 - 1), ?_⟩
        refine ⟨?_, ?_, rfl, rfl, rfl, rfl, rfl, rfl, ?_, rfl, rfl, rfl, rfl, rfl, rfl⟩
        ·refine ⟨?_, ?_, ?_⟩
         ·have hq : lmB ss cs k = true := (by simpa using b10)
          obtain ⟨m1, m2, m3, m4, m5⟩ := J2 hq
          obtain ⟨y1, y2, y3, y4, y5⟩ := J1 m1
          omega
         ·have sa := J4t (s := s) (i := i4) (j := j5) (by omega) g8 rfl
          first | exact sa.1 (by assumption) | exact sa.2 (by omega) | exact sa.1 (by omega)
         ·have hq : lmB ss cs k = true := (by simpa using b10)
          obtain ⟨m1, m2, m3, m4, m5⟩ := J2 hq
          obtain ⟨y1, y2, y3, y4, y5⟩ := J1 m1
          exact J87 m1 g9 (by omega) (by omega) (by omega) (by omega) g8 b27
        ·first | (show _ < _; omega) | (simp only [l_FnLines_mJ7]; omega) | (simp only [l_FnLines_mJ7] at *; simp at *; omega)
        rw [List.length_set]
       intro b31
       try simp only [nrmT] at b31
       refine ⟨?_, ?_⟩
       ·have hq : lmB ss cs k = true := (by simpa using b10)
        obtain ⟨m1, m2, m3, m4, m5⟩ := J2 hq
        obtain ⟨y1, y2, y3, y4, y5⟩ := J1 m1
        omega
       refine ⟨(table5.set c3.toNat ((table5.getD c3.toNat []).set i4.toNat (((table5.getD ((c3 - 1).toNat) []).getD j5.toNat 0) + sum))), sum, (j5 - 1), ?_⟩
       refine ⟨?_, ?_, rfl, rfl, rfl, rfl, rfl, rfl, ?_, rfl, rfl, rfl, rfl, rfl, rfl⟩
       ·refine ⟨?_, ?_, ?_⟩
        ·have hq : lmB ss cs k = true := (by simpa using b10)
         obtain ⟨m1, m2, m3, m4, m5⟩ := J2 hq
         obtain ⟨y1, y2, y3, y4, y5⟩ := J1 m1
         omega
        ·rw [show (j5 - 1).toNat = j5.toNat by omega]; exact g8
        ·have hq : lmB ss cs k = true := (by simpa using b10)
         obtain ⟨m1, m2, m3, m4, m5⟩ := J2 hq
         obtain ⟨y1, y2, y3, y4, y5⟩ := J1 m1
         exact J87 m1 g9 (by omega) (by omega) (by omega) (by omega) g8 b27
       ·first | (show _ < _; omega) | (simp only [l_FnLines_mJ7]; omega) | (simp only [l_FnLines_mJ7] at *; simp at *; omega)
       rw [List.length_set]
      intro b32
      refine ⟨?_, ?_⟩
      ·intro b33
       try simp only [nrmT] at b33
       refine ⟨rfl, ?_, ?_, ?_, ?_, ?_, ?_, ?_, ?_, ?_, ?_⟩
       ·have hq : lmB ss cs k = true := (by simpa using b10)
        obtain ⟨m1, m2, m3, m4, m5⟩ := J2 hq
        obtain ⟨y1, y2, y3, y4, y5⟩ := J1 m1
        omega
       ·have hq : lmB ss cs k = true := (by simpa using b10)
        obtain ⟨m1, m2, m3, m4, m5⟩ := J2 hq
        obtain ⟨y1, y2, y3, y4, y5⟩ := J1 m1
        omega
       ·have hq : lmB ss cs k = true := (by simpa using b10)
        obtain ⟨m1, m2, m3, m4, m5⟩ := J2 hq
        obtain ⟨y1, y2, y3, y4, y5⟩ := J1 m1
        omega
       ·have hq : lmB ss cs k = true := (by simpa using b10)
        obtain ⟨m1, m2, m3, m4, m5⟩ := J2 hq
        obtain ⟨y1, y2, y3, y4, y5⟩ := J1 m1
        omega
       ·have hq : lmB ss cs k = true := (by simpa using b10)
        obtain ⟨m1, m2, m3, m4, m5⟩ := J2 hq
        obtain ⟨y1, y2, y3, y4, y5⟩ := J1 m1
        omega
       ·have hq : lmB ss cs k = true := (by simpa using b10)
        obtain ⟨m1, m2, m3, m4, m5⟩ := J2 hq
        obtain ⟨y1, y2, y3, y4, y5⟩ := J1 m1
        omega
       ·have hq : lmB ss cs k = true := (by simpa using b10)
        obtain ⟨m1, m2, m3, m4, m5⟩ := J2 hq
        obtain ⟨y1, y2, y3, y4, y5⟩ := J1 m1
        omega
       ·have hq : lmB ss cs k = true := (by simpa using b10)
        obtain ⟨m1, m2, m3, m4, m5⟩ := J2 hq
        obtain ⟨y1, y2, y3, y4, y5⟩ := J1 m1
        obtain ⟨⟨tl, tr1, tr2⟩, te1, te2, te3, te4⟩ := Jf m1 g9 (by omega) (by omega) (by omega) (by omega)
        have u1 := y5 (j5 - 1).toNat (by omega)
        have u2 := Ji y4 s.toNat (by omega)
        omega
       ·intro b34
        try simp only [nrmT] at b34
        refine ⟨?_, ?_, ?_, ?_⟩
        ·have hq : lmB ss cs k = true := (by simpa using b10)
         obtain ⟨m1, m2, m3, m4, m5⟩ := J2 hq
         obtain ⟨y1, y2, y3, y4, y5⟩ := J1 m1
         obtain ⟨⟨tl, tr1, tr2⟩, te1, te2, te3, te4⟩ := Jf m1 g9 (by omega) (by omega) (by omega) (by omega)
         have u1 := y5 (j5 - 1).toNat (by omega)
         have u2 := Ji y4 s.toNat (by omega)
         omega
        ·have hq : lmB ss cs k = true := (by simpa using b10)
         obtain ⟨m1, m2, m3, m4, m5⟩ := J2 hq
         obtain ⟨y1, y2, y3, y4, y5⟩ := J1 m1
         obtain ⟨⟨tl, tr1, tr2⟩, te1, te2, te3, te4⟩ := Jf m1 g9 (by omega) (by omega) (by omega) (by omega)
         have u1 := y5 (j5 - 1).toNat (by omega)
         have u2 := Ji y4 s.toNat (by omega)
         omega
        ·have hq : lmB ss cs k = true := (by simpa using b10)
         obtain ⟨m1, m2, m3, m4, m5⟩ := J2 hq
         obtain ⟨y1, y2, y3, y4, y5⟩ := J1 m1
         omega
        refine ⟨table5, (sum + (-((cs.getD ((j5 - 1).toNat) 0) - (ss.getD s.toNat 0)))), (j5 - 1), ?_⟩
        refine ⟨?_, ?_, rfl, rfl, rfl, rfl, rfl, rfl, rfl, rfl, rfl, rfl, rfl, rfl, rfl⟩
        ·refine ⟨?_, ?_, ?_⟩
         ·have hq : lmB ss cs k = true := (by simpa using b10)
          obtain ⟨m1, m2, m3, m4, m5⟩ := J2 hq
          obtain ⟨y1, y2, y3, y4, y5⟩ := J1 m1
          omega
         ·have sa := J4t (s := s) (i := i4) (j := j5) (by omega) g8 rfl
          first | exact sa.1 (by assumption) | exact sa.2 (by omega) | exact sa.1 (by omega)
         ·have hq : lmB ss cs k = true := (by simpa using b10)
          obtain ⟨m1, m2, m3, m4, m5⟩ := J2 hq
          obtain ⟨y1, y2, y3, y4, y5⟩ := J1 m1
          exact J9k m1 g9 (by omega) (by omega) (by omega) (by omega) g8 b32
        first | (show _ < _; omega) | (simp only [l_FnLines_mJ7]; omega) | (simp only [l_FnLines_mJ7] at *; simp at *; omega)
       intro b35
       try simp only [nrmT] at b35
       refine ⟨?_, ?_, ?_⟩
       ·have hq : lmB ss cs k = true := (by simpa using b10)
        obtain ⟨m1, m2, m3, m4, m5⟩ := J2 hq
        obtain ⟨y1, y2, y3, y4, y5⟩ := J1 m1
        obtain ⟨⟨tl, tr1, tr2⟩, te1, te2, te3, te4⟩ := Jf m1 g9 (by omega) (by omega) (by omega) (by omega)
        have u1 := y5 (j5 - 1).toNat (by omega)
        have u2 := Ji y4 s.toNat (by omega)
        omega
       ·have hq : lmB ss cs k = true := (by simpa using b10)
        obtain ⟨m1, m2, m3, m4, m5⟩ := J2 hq
        obtain ⟨y1, y2, y3, y4, y5⟩ := J1 m1
        omega
       refine ⟨table5, (sum + ((cs.getD ((j5 - 1).toNat) 0) - (ss.getD s.toNat 0))), (j5 - 1), ?_⟩
       refine ⟨?_, ?_, rfl, rfl, rfl, rfl, rfl, rfl, rfl, rfl, rfl, rfl, rfl, rfl, rfl⟩
       ·refine ⟨?_, ?_, ?_⟩
        ·have hq : lmB ss cs k = true := (by simpa using b10)
         obtain ⟨m1, m2, m3, m4, m5⟩ := J2 hq
         obtain ⟨y1, y2, y3, y4, y5⟩ := J1 m1
         omega
        ·have sa := J4t (s := s) (i := i4) (j := j5) (by omega) g8 rfl
         first | exact sa.1 (by assumption) | exact sa.2 (by omega) | exact sa.1 (by omega)
        ·have hq : lmB ss cs k = true := (by simpa using b10)
         obtain ⟨m1, m2, m3, m4, m5⟩ := J2 hq
         obtain ⟨y1, y2, y3, y4, y5⟩ := J1 m1
         exact J9k m1 g9 (by omega) (by omega) (by omega) (by omega) g8 b32
       first | (show _ < _; omega) | (simp only [l_FnLines_mJ7]; omega) | (simp only [l_FnLines_mJ7] at *; simp at *; omega)
      intro b36
      try simp only [nrmT] at b36
      refine ⟨?_, ?_⟩
      ·have hq : lmB ss cs k = true := (by simpa using b10)
       obtain ⟨m1, m2, m3, m4, m5⟩ := J2 hq
       obtain ⟨y1, y2, y3, y4, y5⟩ := J1 m1
       omega
      refine ⟨table5, sum, (j5 - 1), ?_⟩
      refine ⟨?_, ?_, rfl, rfl, rfl, rfl, rfl, rfl, rfl, rfl, rfl, rfl, rfl, rfl, rfl⟩
      ·refine ⟨?_, ?_, ?_⟩
       ·have hq : lmB ss cs k = true := (by simpa using b10)
        obtain ⟨m1, m2, m3, m4, m5⟩ := J2 hq
        obtain ⟨y1, y2, y3, y4, y5⟩ := J1 m1
        omega
       ·rw [show (j5 - 1).toNat = j5.toNat by omega]; exact g8
       ·have hq : lmB ss cs k = true := (by simpa using b10)
        obtain ⟨m1, m2, m3, m4, m5⟩ := J2 hq
        obtain ⟨y1, y2, y3, y4, y5⟩ := J1 m1
        exact J9k m1 g9 (by omega) (by omega) (by omega) (by omega) g8 b32
      first | (show _ < _; omega) | (simp only [l_FnLines_mJ7]; omega) | (simp only [l_FnLines_mJ7] at *; simp at *; omega)
     intro b37
     try simp only [nrmT] at b37
     refine ⟨?_, ?_⟩
     ·have hq : lmB ss cs k = true := (by simpa using b10)
      obtain ⟨m1, m2, m3, m4, m5⟩ := J2 hq
      obtain ⟨y1, y2, y3, y4, y5⟩ := J1 m1
      omega
     refine ⟨table5, (i4 - 1), ?_⟩
     refine ⟨?_, ?_, rfl, rfl, rfl, rfl, rfl, rfl, rfl, rfl, rfl, rfl, rfl⟩
     ·refine ⟨?_, ?_⟩
      ·have hq : lmB ss cs k = true := (by simpa using b10)
       obtain ⟨m1, m2, m3, m4, m5⟩ := J2 hq
       obtain ⟨y1, y2, y3, y4, y5⟩ := J1 m1
       omega
      ·exact JaJ g9 (by omega) (by omega) (by omega)
     first | (show _ < _; omega) | (simp only [l_FnLines_mJ6]; omega) | (simp only [l_FnLines_mJ6] at *; simp at *; omega)
    intro b38
    try simp only [nrmT] at b38
    refine ⟨?_, ?_⟩
    ·have hq : lmB ss cs k = true := (by simpa using b10)
     obtain ⟨m1, m2, m3, m4, m5⟩ := J2 hq
     obtain ⟨y1, y2, y3, y4, y5⟩ := J1 m1
     omega
    refine ⟨table4, (c3 - 1), ?_⟩
    refine ⟨?_, ?_, rfl, rfl, rfl, rfl, rfl, rfl, rfl, rfl, rfl, rfl⟩
    ·refine ⟨?_, ?_⟩
     ·have hq : lmB ss cs k = true := (by simpa using b10)
      obtain ⟨m1, m2, m3, m4, m5⟩ := J2 hq
      obtain ⟨y1, y2, y3, y4, y5⟩ := J1 m1
      omega
     ·exact JaF g6 (by omega) (by omega)
    first | (show _ < _; omega) | (simp only [l_FnLines_mJ5]; omega) | (simp only [l_FnLines_mJ5] at *; simp at *; omega)
   intro b39
   try simp only [nrmT] at b39
   refine ⟨?_, ?_⟩
   ·have hq : lmB ss cs k = true := (by simpa using b10)
    obtain ⟨m1, m2, m3, m4, m5⟩ := J2 hq
    obtain ⟨y1, y2, y3, y4, y5⟩ := J1 m1
    omega
   refine ⟨table3, (s + 1), ?_⟩
   refine ⟨?_, ?_, rfl, rfl, rfl, rfl, rfl, rfl, rfl, rfl, rfl⟩
   ·refine ⟨?_, ?_⟩
    ·have hq : lmB ss cs k = true := (by simpa using b10)
     obtain ⟨m1, m2, m3, m4, m5⟩ := J2 hq
     obtain ⟨y1, y2, y3, y4, y5⟩ := J1 m1
     omega
    ·exact Jad g4 (by omega) (by omega)
   first | (show _ < _; omega) | (simp only [l_FnLines_mJ4]; omega) | (simp only [l_FnLines_mJ4] at *; simp at *; omega)
  intro b40
  try simp only [nrmT] at b40
  refine ⟨?_, ?_, ?_, ?_, ?_, ?_, ?_, ?_⟩
  ·have hq : lmB ss cs k = true := (by simpa using b10)
   obtain ⟨m1, m2, m3, m4, m5⟩ := J2 hq
   obtain ⟨y1, y2, y3, y4, y5⟩ := J1 m1
   omega
  ·have hq : lmB ss cs k = true := (by simpa using b10)
   obtain ⟨m1, m2, m3, m4, m5⟩ := J2 hq
   obtain ⟨y1, y2, y3, y4, y5⟩ := J1 m1
   obtain ⟨tl, tr⟩ := g2
   have r9 := tr k.toNat (Nat.le_refl _)
   omega
  ·have hq : lmB ss cs k = true := (by simpa using b10)
   obtain ⟨m1, m2, m3, m4, m5⟩ := J2 hq
   obtain ⟨y1, y2, y3, y4, y5⟩ := J1 m1
   obtain ⟨tl, tr⟩ := g2
   have r9 := tr k.toNat (Nat.le_refl _)
   omega
  ·have hq : lmB ss cs k = true := (by simpa using b10)
   obtain ⟨m1, m2, m3, m4, m5⟩ := J2 hq
   obtain ⟨y1, y2, y3, y4, y5⟩ := J1 m1
   omega
  ·have hq : lmB ss cs k = true := (by simpa using b10)
   obtain ⟨m1, m2, m3, m4, m5⟩ := J2 hq
   obtain ⟨y1, y2, y3, y4, y5⟩ := J1 m1
   obtain ⟨tl, tr⟩ := g2
   have r9 := tr k.toNat (Nat.le_refl _)
   omega
  ·have hq : lmB ss cs k = true := (by simpa using b10)
   obtain ⟨m1, m2, m3, m4, m5⟩ := J2 hq
   obtain ⟨y1, y2, y3, y4, y5⟩ := J1 m1
   obtain ⟨tl, tr⟩ := g2
   have r9 := tr k.toNat (Nat.le_refl _)
   omega
  ·have hq : lmB ss cs k = true := (by simpa using b10)
   obtain ⟨m1, m2, m3, m4, m5⟩ := J2 hq
   obtain ⟨y1, y2, y3, y4, y5⟩ := J1 m1
   obtain ⟨tl, tr⟩ := g2
   have r9 := tr k.toNat (Nat.le_refl _)
   omega
  have hq : lmB ss cs k = true := (by simpa using b10)
  obtain ⟨m1, m2, m3, m4, m5⟩ := J2 hq
  obtain ⟨y1, y2, y3, y4, y5⟩ := J1 m1
  obtain ⟨tl, tr⟩ := g2
  have e1 := (tr k.toNat (Nat.le_refl _)).2 cs.length (Nat.le_refl _)
  rw [show s.toNat = ss.length by omega, JaV m1 m3 (O := List.replicate ss.length 0) (List.length_replicate) m4] at e1
  rw [beq_iff_eq, Int.toNat_natCast, e1]
  unfold lmV
  rw [if_pos hq]; rfl
theorem l_FnLines_pc (code : List Nat) (hb : ∀ x9 ∈ code, x9 < 256) : PC Try.prog 10 [.sl (.bytes code)] (.one (.d (.bool true))) :=
  pc_wf @Try.call10 fun hw => pc_by (by kernel_rfl) Try.func10 @Try.call10 (by kernel_rfl) l_FnLines_C (l_FnLines_A code) (by kernel_rfl) (l_FnLines_vc code hb hw.1) (by kernel_rfl)
end Go.Proofs.Ytomnmacmlhkceaa
