/- The pure layer, part Z: regions whose order is drawn, third part: a check that computes, and what it gives. No function of the program is named here. -/
import Derived.Test.YtomnmacmlhkceaaQy
set_option linter.unusedVariables false
set_option linter.unusedSimpArgs false
namespace Go.Proofs.Ytomnmacmlhkceaa
open Go
variable {S : Setting} {ρ : Nat → Nm} {a : Act} {w : World} {σ σ' : Env} {st st' : Store} {all : Array Oper}
def noneOf (k : Nat) (l : List Nat) : Bool := l.all fun j => !Nat.beq j k
theorem noneOf_ok {k : Nat} {l : List Nat} (h : noneOf k l = true) : k ∉ l := by
 intro hk
 have := (List.all_eq_true.1 h) k hk
 simp [beq_self] at this
def mentOut (k : Nat) (out : Out) : Bool := out.val.ment k || out.new.any (fun x => x.2.ment k) || (match out.up with
 | some x => x.2.ment k
 | none => false)
def rwfOut (k : Nat) (out : Out) : Bool := out.val.rwf k && out.new.all (fun x => rwfE k x.2) && (match out.up with
 | some x => rwfE k x.2
 | none => true)
def movesFree (x y : Out) : Bool :=
 match y.moves with
 | some k => rwfOut k x
 | none => true
def touchFree (x y : SD) : Bool := x.out.touch.all fun k => noneOf k y.out.touch
def unseenB (all : Array Oper) (x y : SD) : Bool :=
 (match x.o.dst with
  | some t => noneOf t (y.o.looksAt all)
  | none => true) &&
 (y.o.op.operands.toList.all fun z => (reachOp y.o.op y.st (evP y.σ z).ov).all fun k => noneOf k x.out.touch) &&
 (y.out.new.all fun z => !mentOut z.1 x.out) && movesFree x.out y.out
def slotB (x y : SD) : Bool :=
 match x.o.dst, y.o.dst with
 | some t, some u => !Nat.beq t u
 | _, _ => true
def apartB (all : Array Oper) (x y : SD) : Bool := slotB x y && touchFree x y && unseenB all x y && unseenB all y x
theorem slotB_ok {x y : SD} (h : slotB x y = true) (t : Nat) (hx : x.o.dst = some t) : y.o.dst ≠ some t := by
 intro hy
 unfold slotB at h
 rw [hx, hy] at h
 simp [beq_self] at h
theorem apartB_apart {x y : SD} (h : apartB all x y = true) : Apart x y ∧ Apart y x := by
 simp only [apartB, Bool.and_eq_true] at h
 obtain ⟨⟨⟨h1, h2⟩, _⟩, _⟩ := h
 have hn : ∀ k, k ∈ x.out.touch → k ∉ y.out.touch := fun k hk => noneOf_ok ((List.all_eq_true.1 h2) k hk)
 exact ⟨⟨fun t => slotB_ok h1 t, hn⟩, ⟨fun t hy hx => slotB_ok h1 t hx hy, fun k hk hx => hn k hx hk⟩⟩
def ancTab : List Oper → List (List Nat) → List (List Nat)
 | [], tab => tab
 | o :: r, tab => ancTab r (tab ++ [(o.after.toList.flatMap fun e => match Region.binds .any e with
  | true => e.on :: tab.getD e.on []
  | false => []).eraseDups])
def waitsB (A : List (List Nat)) (j i : Nat) : Bool := (A.getD j []).any fun k => Nat.beq k i
def justB (ops : List Oper) (A : List (List Nat)) : Bool :=
 (List.range ops.length).all fun j => match ops[j]? with
  | some o => (o.after.toList.all fun e => !Region.binds .any e || Nat.blt e.on j) &&
    ((A.getD j []).all fun i => o.after.toList.any fun e => Region.binds .any e && (Nat.beq e.on i || waitsB A e.on i))
  | none => true
def pairsB (all : Array Oper) (A : List (List Nat)) (ds : List SD) : Bool :=
 (List.range ds.length).all fun j => (List.range j).all fun i => waitsB A j i || (match ds[i]?, ds[j]? with
  | some x, some y => apartB all x y
  | _, _ => true)
def newsB (σ : Env) (st : Store) (ds : List SD) : Bool :=
 (List.range ds.length).all fun j => match ds[j]? with
  | some d => d.out.new.all fun x => unment x.1 σ st && (match aget st x.1 with
    | none => true
    | some _ => false) && (List.range j).all fun i => match ds[i]? with
     | some b => !mentOut x.1 b.out && noneOf x.1 b.out.touch
     | none => true
  | none => true
def movesB (σ : Env) (st : Store) (ds : List SD) : Bool :=
 (List.range ds.length).all fun j => match ds[j]? with
  | some d => (match d.out.moves with
   | some k => rwfree k σ st
   | none => true) && (List.range j).all fun i => match ds[i]? with
     | some b => movesFree b.out d.out
     | none => true
  | none => true
def drawB (P : Program) (oc : Nat → Oper → Env → Store → Orc) (ops : List Oper) (σ : Env) (st : Store) : Bool :=
 justB ops (ancTab ops []) && pairsB ops.toArray (ancTab ops []) (stepsOf P ops.toArray oc 0 ops σ st) && newsB σ st (stepsOf P ops.toArray oc 0 ops σ st) && movesB σ st (stepsOf P ops.toArray oc 0 ops σ st)
theorem stepsOf_len {P : Program} {oc : Nat → Oper → Env → Store → Orc} : ∀ (ops : List Oper) (i : Nat) (σ : Env) (st : Store), (stepsOf P all oc i ops σ st).length = ops.length
 | [], _, _, _ => rfl
 | o :: r, i, σ, st => by simp [stepsOf, stepsOf_len r]
theorem foldL_congr {L L' : Nat → Bool} : ∀ (ds : List SD) (i : Nat) (s : Env × Store), (∀ j, j < ds.length → L (i + j) = L' (i + j)) → foldL L i ds s = foldL L' i ds s
 | [], _, _, _ => rfl
 | d :: r, i, s, h => by
  have h0 := h 0 (by simp)
  rw [Nat.add_zero] at h0
  simp only [foldL]
  rw [h0]
  exact foldL_congr r (i + 1) _ fun j hj => by
   have := h (j + 1) (by simp; omega)
   rw [show i + 1 + j = i + (j + 1) by omega]; exact this
theorem foldL_none {L : Nat → Bool} : ∀ (ds : List SD) (i : Nat) (s : Env × Store), (∀ j, j < ds.length → L (i + j) = false) → foldL L i ds s = s
 | [], _, _, _ => rfl
 | d :: r, i, s, h => by
  have h0 := h 0 (by simp)
  rw [Nat.add_zero] at h0
  simp only [foldL]
  rw [h0]
  exact foldL_none r (i + 1) _ fun j hj => by
   have := h (j + 1) (by simp; omega)
   rw [show i + 1 + j = i + (j + 1) by omega]; exact this
theorem runOps_fold {P : Program} {oc : Nat → Oper → Env → Store → Orc} : ∀ (ops : List Oper) (i : Nat) (σ : Env) (st : Store),
  ((runOps P all oc i ops σ st).2.1, (runOps P all oc i ops σ st).2.2) = foldL (fun _ => true) i (stepsOf P all oc i ops σ st) (σ, st)
 | [], _, _, _ => rfl
 | o :: r, i, σ, st => by
  have := runOps_fold (P := P) (oc := oc) r (i + 1) (eput σ o.dst (opStep P all (oc i o σ st) o σ st).val) ((opStep P all (oc i o σ st) o σ st).app st)
  simp only [stepsOf, foldL, runOps, SD.put]
  exact this
theorem stepsOf_get {P : Program} {oc : Nat → Oper → Env → Store → Orc} : ∀ (ops : List Oper) (i : Nat) (σ : Env) (st : Store), (∀ q ∈ (runOps P all oc i ops σ st).1, q) →
  ∀ (j : Nat) (d : SD), (stepsOf P all oc i ops σ st)[j]? = some d → ops[j]? = some d.o ∧ (d.σ, d.st) = foldL (fun k => Nat.blt k (i + j)) i (stepsOf P all oc i ops σ st) (σ, st) ∧
   d.out = opStep P all (oc (i + j) d.o d.σ d.st) d.o d.σ d.st ∧ ∀ q ∈ d.out.pre, q
 | [], _, _, _, _, j, d, h => by simp [stepsOf] at h
 | o :: r, i, σ, st, hp, j, d, h => by
  have blt_t : ∀ {x y : Nat}, x < y → Nat.blt x y = true := fun {x y} h => Nat.ble_eq_true_of_le h
  have blt_f : ∀ {x y : Nat}, ¬ x < y → Nat.blt x y = false := fun {x y} h => by
   cases hb : Nat.blt x y with
   | false => rfl
   | true => exact absurd (Nat.le_of_ble_eq_true hb) h
  cases j with
  | zero =>
   simp only [stepsOf, List.getElem?_cons_zero, Option.some.injEq] at h
   subst h
   refine ⟨rfl, ?_, rfl, fun q hq => hp q (by simp only [runOps]; exact List.mem_append_left _ hq)⟩
   exact (foldL_none (L := fun k => Nat.blt k (i + 0)) _ i (σ, st) fun j _ => blt_f (by omega)).symm
  | succ j =>
   simp only [stepsOf, List.getElem?_cons_succ] at h
   obtain ⟨h1, h2, h3, h4⟩ := stepsOf_get r (i + 1) _ _ (fun q hq => hp q (by simp only [runOps]; exact List.mem_append_right _ hq)) j d h
   refine ⟨by simpa using h1, ?_, by rw [h3, show i + 1 + j = i + (j + 1) by omega], h4⟩
   rw [h2]
   simp only [stepsOf, foldL]
   rw [blt_t (show i < i + (j + 1) by omega)]
   simp only [SD.put]
   exact foldL_congr _ _ _ fun k _ => by rw [show i + 1 + j = i + (j + 1) by omega]
theorem unment_put {k : Nat} {d : SD} {s : Env × Store} (h : unment k s.1 s.2 = true) (hd : mentOut k d.out = false) : unment k (d.put s).1 (d.put s).2 = true := by
 simp only [mentOut, Bool.or_eq_false_iff, List.any_eq_false] at hd
 obtain ⟨⟨h1, h2⟩, h3⟩ := hd
 simp only [unment, Bool.and_eq_true, List.all_eq_true] at h ⊢
 have del : ∀ (j : Nat) (l : Store) (x : Nat × Ent), x ∈ adel l j → x ∈ l := by
  intro j l
  induction l with
  | nil => intro x hx; exact hx
  | cons y r ih =>
   intro x hx
   obtain ⟨jy, ey⟩ := y
   simp only [adel] at hx
   cases hb : Nat.beq jy j with
   | true => rw [hb] at hx; exact List.mem_cons_of_mem _ (ih x hx)
   | false =>
    rw [hb] at hx
    rcases List.mem_cons.1 hx with rfl | hx
    ·exact List.mem_cons_self
    ·exact List.mem_cons_of_mem _ (ih x hx)
 refine ⟨fun x hx => ?_, fun x hx => ?_⟩
 ·unfold SD.put eput at hx
  cases hdst : d.o.dst with
  | none => rw [hdst] at hx; exact h.1 x hx
  | some t =>
   rw [hdst] at hx
   rcases List.mem_cons.1 hx with rfl | hx
   ·simp [h1]
   ·exact h.1 x hx
 ·simp only [SD.put, Out.app] at hx
  rcases List.mem_append.1 hx with hx | hx
  ·have := h2 x hx
   simpa using this
  ·have h4 : ∀ x ∈ (match d.out.dead with | some k => adel s.2 k | none => s.2), (!x.2.ment k) = true := by
    intro x hx
    cases hdd : d.out.dead with
    | none => rw [hdd] at hx; exact h.2 x hx
    | some j => rw [hdd] at hx; exact h.2 x (del j _ x hx)
   cases hu : d.out.up with
   | none => rw [hu] at hx; exact h4 x hx
   | some je =>
    rw [hu] at hx h3
    rcases List.mem_cons.1 hx with rfl | hx
    ·simp only at h3
     rw [h3]; rfl
    ·exact h4 x (del _ _ x hx)
theorem rwfree_put {k : Nat} {d : SD} {s : Env × Store} (h : rwfree k s.1 s.2 = true) (hd : rwfOut k d.out = true) : rwfree k (d.put s).1 (d.put s).2 = true := by
 simp only [rwfOut, Bool.and_eq_true, List.all_eq_true] at hd
 obtain ⟨⟨h1, h2⟩, h3⟩ := hd
 simp only [rwfree, Bool.and_eq_true, List.all_eq_true] at h ⊢
 refine ⟨fun x hx => ?_, fun x hx => ?_⟩
 ·unfold SD.put eput at hx
  cases hdst : d.o.dst with
  | none => rw [hdst] at hx; exact h.1 x hx
  | some t =>
   rw [hdst] at hx
   rcases List.mem_cons.1 hx with rfl | hx
   ·exact h1
   ·exact h.1 x hx
 ·simp only [SD.put, Out.app] at hx
  rcases List.mem_append.1 hx with hx | hx
  ·exact h2 x hx
  ·have h4 : ∀ x ∈ (match d.out.dead with | some k => adel s.2 k | none => s.2), rwfE k x.2 = true := by
    intro x hx
    cases hdd : d.out.dead with
    | none => rw [hdd] at hx; exact h.2 x hx
    | some j => rw [hdd] at hx; exact h.2 x (mem_adel hx)
   cases hu : d.out.up with
   | none => rw [hu] at hx; exact h4 x hx
   | some je =>
    rw [hu] at hx h3
    rcases List.mem_cons.1 hx with rfl | hx
    ·exact h3
    ·exact h4 x (mem_adel hx)
theorem rwfree_fold {k : Nat} {L : Nat → Bool} : ∀ (ds : List SD) (i : Nat) (s : Env × Store), rwfree k s.1 s.2 = true → (∀ j d, ds[j]? = some d → L (i + j) = true → rwfOut k d.out = true) →
  rwfree k (foldL L i ds s).1 (foldL L i ds s).2 = true
 | [], _, _, h, _ => h
 | d :: r, i, s, h, hd => by
  simp only [foldL]
  refine rwfree_fold r (i + 1) _ ?_ fun j d' hj hL => hd (j + 1) d' (by simpa using hj) (by rw [← Nat.add_assoc, Nat.add_right_comm]; exact hL)
  have h0 := hd 0 d rfl
  rw [Nat.add_zero] at h0
  cases hL : L i with
  | true => exact rwfree_put h (h0 hL)
  | false => exact h
theorem unment_fold {k : Nat} {L : Nat → Bool} : ∀ (ds : List SD) (i : Nat) (s : Env × Store), unment k s.1 s.2 = true → (∀ j d, ds[j]? = some d → L (i + j) = true → mentOut k d.out = false) →
  unment k (foldL L i ds s).1 (foldL L i ds s).2 = true
 | [], _, _, h, _ => h
 | d :: r, i, s, h, hd => by
  simp only [foldL]
  refine unment_fold r (i + 1) _ ?_ fun j d' hj hL => hd (j + 1) d' (by simpa using hj) (by rw [← Nat.add_assoc, Nat.add_right_comm]; exact hL)
  have h0 := hd 0 d rfl
  rw [Nat.add_zero] at h0
  cases hL : L i with
  | true => exact unment_put h (h0 hL)
  | false => exact h
theorem newOk_mk : ∀ {n : Store}, (∀ x ∈ n, unment x.1 σ st = true ∧ aget st x.1 = none) → newOk σ st n = true
 | [], _ => rfl
 | (k, e) :: r, h => by
  obtain ⟨h1, h2⟩ := h (k, e) List.mem_cons_self
  simp only [newOk, h1, h2, Bool.true_and]
  exact newOk_mk fun x hx => h x (List.mem_cons_of_mem _ hx)
theorem StR.same (h : StR S ρ a w σ st) (hs : Same (σ, st) (σ', st')) : StR S ρ a w σ' st' := by
 have he : ∀ t, aget σ' t = aget σ t := fun t => (hs.e t).symm
 have hk : ∀ k, aget st' k = aget st k := fun k => (hs.s k).symm
 have hO : liveO S.O ρ st' = liveO S.O ρ st := by
  funext b
  unfold liveO
  apply propext
  constructor
  ·rintro (h | ⟨k, e, h1, h2⟩)
   ·exact .inl h
   ·exact .inr ⟨k, e, by rw [← hk]; exact h1, h2⟩
  ·rintro (h | ⟨k, e, h1, h2⟩)
   ·exact .inl h
   ·exact .inr ⟨k, e, by rw [hk]; exact h1, h2⟩
 refine ⟨h.sz, h.dfr, h.ob, fun k e hke => ?_, fun k e hke => h.own k e (by rw [← hk]; exact hke), fun k k' e e' h1 h2 => h.inj k k' e e' (by rw [← hk]; exact h1) (by rw [← hk]; exact h2), fun t p hp => ?_, h.frm, fun t p hp j hj => ?_, fun k t cs hke j hj => by rw [hk]; exact h.rb k t cs (by rw [← hk]; exact hke) j hj, fun g hg => by rw [hk]; exact h.pn g hg⟩
 ·rw [hO]; exact h.ents k e (by rw [← hk]; exact hke)
 ·rw [hO]; exact h.env t p (by rw [← he]; exact hp)
 ·rw [hk]; exact h.rg t p (by rw [← he]; exact hp) j hj
theorem count_lt {p q : Nat → Bool} : ∀ (l : List Nat), (∀ x ∈ l, q x = true → p x = true) → (∃ x ∈ l, p x = true ∧ q x = false) → (l.filter q).length < (l.filter p).length
 | [], _, h => by obtain ⟨x, hx, _⟩ := h; cases hx
 | y :: r, h, hx => by
  have le : ∀ l : List Nat, (∀ x ∈ l, q x = true → p x = true) → (l.filter q).length ≤ (l.filter p).length := by
   intro l
   induction l with
   | nil => intro _; simp
   | cons z s ih =>
    intro hz
    have h1 := ih fun x hx => hz x (List.mem_cons_of_mem _ hx)
    have h2 := hz z List.mem_cons_self
    simp only [List.filter_cons]
    cases hq : q z with
    | false => cases p z <;> simp <;> omega
    | true => rw [h2 hq]; simp; omega
  obtain ⟨x, hx, hpx, hqx⟩ := hx
  have hr : ∀ x ∈ r, q x = true → p x = true := fun x hx => h x (List.mem_cons_of_mem _ hx)
  have hle := le r hr
  simp only [List.filter_cons]
  rcases List.mem_cons.1 hx with rfl | hx
  ·rw [hpx, hqx]; simp; omega
  ·have hlt := count_lt r hr ⟨x, hx, hpx, hqx⟩
   have h2 := h y List.mem_cons_self
   cases hq : q y with
   | false => cases p y <;> simp <;> omega
   | true => rw [h2 hq]; simp; omega
def Closed (ops : List Oper) (listed : Array Bool) : Prop :=
 ∀ j o, ops[j]? = some o → listed.getD j false = true → ∀ e ∈ o.after, Region.binds .any e = true → listed.getD e.on false = true
theorem just_step {ops : List Oper} {A : List (List Nat)} (hj : justB ops A = true) {j : Nat} {o : Oper} (ho : ops[j]? = some o) :
  (∀ e ∈ o.after, Region.binds .any e = true → e.on < j) ∧ ∀ i, waitsB A j i = true → ∃ e ∈ o.after, Region.binds .any e = true ∧ (e.on = i ∨ waitsB A e.on i = true) := by
 have hlt : j < ops.length := (List.getElem?_eq_some_iff.1 ho).1
 have h := (List.all_eq_true.1 hj) j (List.mem_range.2 hlt)
 rw [ho] at h
 simp only [Bool.and_eq_true] at h
 refine ⟨fun e he hb => ?_, fun i hw => ?_⟩
 ·have h1 := (List.all_eq_true.1 h.1) e (by simpa using he)
  rw [hb] at h1
  simp only [Bool.not_true, Bool.false_or] at h1
  exact Nat.le_of_ble_eq_true h1
 ·unfold waitsB at hw
  obtain ⟨k, hk, hki⟩ := List.any_eq_true.1 hw
  have := beq_true.1 hki
  subst this
  have h2 := (List.all_eq_true.1 h.2) k hk
  obtain ⟨e, he, he2⟩ := List.any_eq_true.1 h2
  simp only [Bool.and_eq_true, Bool.or_eq_true, beq_true] at he2
  exact ⟨e, by simpa using he, he2.1, he2.2⟩
theorem closed_waits {ops : List Oper} {A : List (List Nat)} (hj : justB ops A = true) {listed : Array Bool} (hsz : listed.size = ops.length) (hc : Closed ops listed) :
  ∀ (j i : Nat), listed.getD j false = true → waitsB A j i = true → listed.getD i false = true := by
 intro j
 induction j using Nat.strongRecOn with
 | _ j ih =>
  intro i hl hw
  have hlt : j < ops.length := by
   rw [← hsz]
   rcases Nat.lt_or_ge j listed.size with h | h
   ·exact h
   ·simp [Array.getElem?_eq_none h] at hl
  have ho := List.getElem?_eq_getElem hlt
  obtain ⟨h1, h2⟩ := just_step hj ho
  obtain ⟨e, he, hb, hor⟩ := h2 i hw
  have hle := hc j _ ho hl e he hb
  rcases hor with hor | hor
  ·rw [← hor]; exact hle
  ·exact ih e.on (h1 e he hb) i hle hor
theorem pairs_get {A : List (List Nat)} {ds : List SD} (h : pairsB all A ds = true) {i j : Nat} (hij : i < j) {x y : SD} (hx : ds[i]? = some x) (hy : ds[j]? = some y) (hw : waitsB A j i = false) : apartB all x y = true := by
 have hlt : j < ds.length := (List.getElem?_eq_some_iff.1 hy).1
 have h1 := (List.all_eq_true.1 ((List.all_eq_true.1 h) j (List.mem_range.2 hlt))) i (List.mem_range.2 hij)
 rw [hw, hx, hy] at h1
 simpa using h1
theorem unseen_ok {x y : SD} (h : unseenB all x y = true) : (∀ t ∈ y.o.looksAt all, x.o.dst ≠ some t) ∧ (∀ z ∈ y.o.op.operands.toList, ∀ k ∈ reachOp y.o.op y.st (evP y.σ z).ov, k ∉ x.out.touch) ∧ (∀ z ∈ y.out.new, mentOut z.1 x.out = false) ∧ movesFree x.out y.out = true := by
 simp only [unseenB, Bool.and_eq_true] at h
 obtain ⟨⟨⟨h1, h2⟩, h3⟩, h4⟩ := h
 refine ⟨fun t ht hx => ?_, fun z hz k hk => noneOf_ok ((List.all_eq_true.1 ((List.all_eq_true.1 h2) z hz)) k hk), fun z hz => ?_, h4⟩
 ·rw [hx] at h1
  exact noneOf_ok h1 ht
 ·have := (List.all_eq_true.1 h3) z hz
  simpa using this
theorem draw_any {ops : List Oper} {oc : Nat → Oper → Env → Store → Orc} {σ0 : Env} {st0 : Store} {Q : Exit → Act → World → Prop} (hdst : dstB S.n ops = true)
  (hoc : ∀ i o σ st σ' st', Alike ops.toArray o σ st σ' st' → oc i o σ' st' = oc i o σ st) (hp : ∀ q ∈ (runOps S.P ops.toArray oc 0 ops σ0 st0).1, q) (hd : drawB S.P oc ops σ0 st0 = true)
  (hQ : ∀ ρ' a' w', StR S ρ' a' w' (runOps S.P ops.toArray oc 0 ops σ0 st0).2.1 (runOps S.P ops.toArray oc 0 ops σ0 st0).2.2 → Q .normal a' w') :
  ∀ (fuel : Nat) (listed : Array Bool) (ρ : Nat → Nm) (a : Act) (w : World), listed.size = ops.length → Closed ops listed →
   ((List.range ops.length).filter fun j => !listed.getD j false).length ≤ fuel →
   StR S ρ a w (foldL (fun j => listed.getD j false) 0 (stepsOf S.P ops.toArray oc 0 ops σ0 st0) (σ0, st0)).1 (foldL (fun j => listed.getD j false) 0 (stepsOf S.P ops.toArray oc 0 ops σ0 st0) (σ0, st0)).2 →
   wpAny S.P .any ops.toArray Q fuel listed a w := by
 have hgets := stepsOf_get (P := S.P) (all := ops.toArray) (oc := oc) ops 0 σ0 st0 hp
 have hfin := runOps_fold (P := S.P) (all := ops.toArray) (oc := oc) ops 0 σ0 st0
 have hlen := stepsOf_len (P := S.P) (all := ops.toArray) (oc := oc) ops 0 σ0 st0
 simp only [drawB, Bool.and_eq_true] at hd
 obtain ⟨⟨⟨hj, hpairs⟩, hnews⟩, hmoves⟩ := hd
 generalize stepsOf S.P ops.toArray oc 0 ops σ0 st0 = ds at hgets hfin hlen hpairs hnews hmoves ⊢
 generalize ancTab ops [] = A at hj hpairs
 have done : ∀ (listed : Array Bool) (ρ : Nat → Nm) (a : Act) (w : World), (∀ j, j < ops.length → listed.getD j false = true) →
   StR S ρ a w (foldL (fun j => listed.getD j false) 0 ds (σ0, st0)).1 (foldL (fun j => listed.getD j false) 0 ds (σ0, st0)).2 → Q .normal a w := by
  intro listed ρ a w hall hst
  refine hQ ρ a w ?_
  have e := foldL_congr (L := fun j => listed.getD j false) (L' := fun _ => true) ds 0 (σ0, st0) fun j hjl => by
   rw [Nat.zero_add]; exact hall j (by rw [← hlen]; exact hjl)
  rw [e, ← hfin] at hst
  exact hst
 have alldone : ∀ (listed : Array Bool), listed.size = ops.length → Region.ready .any ops.toArray listed = [] → ∀ j, j < ops.length → listed.getD j false = true := by
  intro listed hsz hr j
  induction j using Nat.strongRecOn with
  | _ j ih =>
   intro hjl
   cases hl : listed.getD j false with
   | true => rfl
   | false =>
    have ho := List.getElem?_eq_getElem hjl
    have : j ∈ Region.ready .any ops.toArray listed := by
     rw [mem_ready]
     refine ⟨by rw [← hl]; simp [hsz, hjl], ops[j], by simp, fun e he hb => ?_⟩
     have := (just_step hj ho).1 e he hb
     exact ih e.on this (by omega)
    rw [hr] at this
    cases this
 intro fuel
 induction fuel with
 | zero =>
  intro listed ρ a w hsz hc hcnt hst
  have hall : ∀ j, j < ops.length → listed.getD j false = true := by
   intro j hjl
   cases hl : listed.getD j false with
   | true => rfl
   | false =>
    have hm : j ∈ (List.range ops.length).filter fun j => !listed.getD j false := List.mem_filter.2 ⟨List.mem_range.2 hjl, by rw [hl]; rfl⟩
    have : 0 < ((List.range ops.length).filter fun j => !listed.getD j false).length := List.length_pos_of_mem hm
    omega
  refine ⟨?_, done listed ρ a w hall hst⟩
  cases hr : Region.ready .any ops.toArray listed with
  | nil => rfl
  | cons i r =>
   have hi : i ∈ Region.ready .any ops.toArray listed := by rw [hr]; exact List.mem_cons_self
   obtain ⟨h1, o, ho, _⟩ := mem_ready.1 hi
   have hil : i < ops.length := by
    have := (Array.getElem?_eq_some_iff.1 ho).1
    simpa using this
   have := hall i hil
   simp [hsz, hil] at h1 this
   rw [h1] at this
   cases this
 | succ fuel ih =>
  intro listed ρ a w hsz hc hcnt hst
  refine ⟨fun hr => done listed ρ a w (alldone listed hsz hr) hst, fun i hi => ?_⟩
  obtain ⟨h1, o, ho, hafter⟩ := mem_ready.1 hi
  have hol : ops[i]? = some o := by simpa using ho
  have hil : i < ops.length := (List.getElem?_eq_some_iff.1 hol).1
  have hLi : listed.getD i false = false := by simp [hsz, hil] at h1 ⊢; exact h1
  have hdi : ds[i]? = some ds[i] := List.getElem?_eq_getElem (by rw [hlen]; exact hil)
  revert hdi
  generalize ds[i]'(by rw [hlen]; exact hil) = d
  intro hdi
  obtain ⟨g1, g2, g3, g4⟩ := hgets i d hdi
  have hdo : d.o = o := Option.some.inj (g1.symm.trans hol)
  rw [Nat.zero_add] at g2 g3
  have hwait : ∀ k, waitsB A i k = true → listed.getD k false = true := by
   intro k hw
   obtain ⟨e, he, hb, hor⟩ := (just_step hj hol).2 k hw
   have hle := hafter e he hb
   rcases hor with hor | hor
   ·rw [← hor]; exact hle
   ·exact closed_waits hj hsz hc e.on k hle hor
  have hafterL : ∀ j x, ds[j]? = some x → i < j → listed.getD j false = true → apartB ops.toArray d x = true := by
   intro j x hx hij hl
   refine pairs_get hpairs hij hdi hx ?_
   cases hw : waitsB A j i with
   | false => rfl
   | true =>
    have := closed_waits hj hsz hc j i hl hw
    rw [hLi] at this; cases this
  have hbeforeL : ∀ j x, ds[j]? = some x → j < i → listed.getD j false = false → apartB ops.toArray x d = true := by
   intro j x hx hij hl
   refine pairs_get hpairs hij hx hdi ?_
   cases hw : waitsB A i j with
   | false => rfl
   | true =>
    have := hwait j hw
    rw [hl] at this; cases this
  have hdiff : ∀ j x, ds[j]? = some x → (fun j => listed.getD j false) (0 + j) ≠ (fun k => Nat.blt k i) (0 + j) → unseenB ops.toArray x d = true := by
   intro j x hx hne
   simp only [Nat.zero_add] at hne
   have blt_t : ∀ {x y : Nat}, x < y → Nat.blt x y = true := fun {x y} h => Nat.ble_eq_true_of_le h
   have blt_f : ∀ {x y : Nat}, ¬ x < y → Nat.blt x y = false := fun {x y} h => by
    cases hb : Nat.blt x y with
    | false => rfl
    | true => exact absurd (Nat.le_of_ble_eq_true hb) h
   by_cases hji : j < i
   ·rw [blt_t hji] at hne
    have h2 := hbeforeL j x hx hji (by cases hl : listed.getD j false with | false => rfl | true => exact absurd hl hne)
    simp only [apartB, Bool.and_eq_true] at h2
    exact h2.1.2
   ·rw [blt_f hji] at hne
    have hl : listed.getD j false = true := by cases hl : listed.getD j false with | true => rfl | false => exact absurd hl hne
    have hne2 : j ≠ i := fun e => by rw [e, hLi] at hl; cases hl
    have h2 := hafterL j x hx (by omega) hl
    simp only [apartB, Bool.and_eq_true] at h2
    exact h2.2
  have hal : Alike ops.toArray d.o d.σ d.st (foldL (fun j => listed.getD j false) 0 ds (σ0, st0)).1 (foldL (fun j => listed.getD j false) 0 ds (σ0, st0)).2 := by
   have e1 : d.σ = (foldL (fun k => Nat.blt k i) 0 ds (σ0, st0)).1 := congrArg Prod.fst g2
   have e2 : d.st = (foldL (fun k => Nat.blt k i) 0 ds (σ0, st0)).2 := congrArg Prod.snd g2
   refine ⟨fun t ht => ?_, fun z hz k hk => ?_⟩
   ·rw [e1]
    exact fold_e ds 0 _ _ rfl fun j x hx hne => (unseen_ok (hdiff j x hx hne)).1 t ht
   ·rw [e2]
    exact fold_s ds 0 _ _ rfl fun j x hx hne => (unseen_ok (hdiff j x hx hne)).2.1 z hz k hk
  have hnew : newOk (foldL (fun j => listed.getD j false) 0 ds (σ0, st0)).1 (foldL (fun j => listed.getD j false) 0 ds (σ0, st0)).2 d.out.new = true := by
   refine newOk_mk fun x hx => ?_
   have hnj := (List.all_eq_true.1 hnews) i (List.mem_range.2 (by rw [hlen]; exact hil))
   rw [hdi] at hnj
   have hnx := (List.all_eq_true.1 hnj) x hx
   simp only [Bool.and_eq_true] at hnx
   obtain ⟨⟨n1, n2⟩, n3⟩ := hnx
   have n2' : aget st0 x.1 = none := by
    cases hk : aget st0 x.1 with
    | none => rfl
    | some _ => rw [hk] at n2; cases n2
   have hfar : ∀ j y, ds[j]? = some y → listed.getD j false = true → mentOut x.1 y.out = false ∧ x.1 ∉ y.out.touch := by
    intro j y hy hl
    by_cases hji : j < i
    ·have := (List.all_eq_true.1 n3) j (List.mem_range.2 hji)
     rw [hy] at this
     simp only [Bool.and_eq_true, Bool.not_eq_true'] at this
     exact ⟨this.1, noneOf_ok this.2⟩
    ·have hne2 : j ≠ i := fun e => by rw [e, hLi] at hl; cases hl
     have h2 := hafterL j y hy (by omega) hl
     have h3 := (apartB_apart h2).1.name x.1 (by simp only [Out.touch, List.mem_append, List.mem_map]; exact .inl (.inl ⟨x, hx, rfl⟩))
     simp only [apartB, Bool.and_eq_true] at h2
     exact ⟨(unseen_ok h2.2).2.2.1 x hx, h3⟩
   refine ⟨unment_fold ds 0 _ n1 fun j y hy hl => (hfar j y hy (by simpa using hl)).1, ?_⟩
   have e := fold_s (L := fun j => listed.getD j false) (L' := fun _ => false) (k := x.1) ds 0 (σ0, st0) (σ0, st0) rfl fun j y hy hne => (hfar j y hy (by simpa using hne)).2
   rw [e, foldL_none ds 0 (σ0, st0) fun _ _ => rfl]
   exact n2'
  have hrw : rwOk (foldL (fun j => listed.getD j false) 0 ds (σ0, st0)).1 (foldL (fun j => listed.getD j false) 0 ds (σ0, st0)).2 d.out = true := by
   unfold rwOk
   cases hmv : d.out.moves with
   | none => rfl
   | some k =>
    have hmj := (List.all_eq_true.1 hmoves) i (List.mem_range.2 (by rw [hlen]; exact hil))
    rw [hdi] at hmj
    simp only [Bool.and_eq_true] at hmj
    obtain ⟨n1, n3⟩ := hmj
    rw [hmv] at n1
    refine rwfree_fold ds 0 _ n1 fun j y hy hl => ?_
    have hl : listed.getD j false = true := by simpa using hl
    have hfree : movesFree y.out d.out = true := by
     by_cases hji : j < i
     ·have := (List.all_eq_true.1 n3) j (List.mem_range.2 hji)
      rw [hy] at this
      exact this
     ·have hne2 : j ≠ i := fun e => by rw [e, hLi] at hl; cases hl
      have h2 := hafterL j y hy (by omega) hl
      simp only [apartB, Bool.and_eq_true] at h2
      exact (unseen_ok h2.2).2.2.2
    unfold movesFree at hfree
    rw [hmv] at hfree
    exact hfree
  have hout : opStep S.P ops.toArray (oc i d.o (foldL (fun j => listed.getD j false) 0 ds (σ0, st0)).1 (foldL (fun j => listed.getD j false) 0 ds (σ0, st0)).2) d.o
    (foldL (fun j => listed.getD j false) 0 ds (σ0, st0)).1 (foldL (fun j => listed.getD j false) 0 ds (σ0, st0)).2 = d.out := by
   rw [hoc i d.o _ _ _ _ hal, g3]
   refine opStep_alike hal (by rw [← g3]; exact g4) (by rw [← g3]; exact hnew) (by rw [← g3]; exact hrw)
  have hgood := opStep_good (all := ops.toArray) (o := d.o) hst (fun t ht => dstB_ok hdst i d.o g1 t ht)
   (oc := oc i d.o (foldL (fun j => listed.getD j false) 0 ds (σ0, st0)).1 (foldL (fun j => listed.getD j false) 0 ds (σ0, st0)).2) (by rw [hout]; exact g4)
  rw [hout] at hgood
  have next := hgood (wpAny S.P .any ops.toArray Q fuel (listed.setIfInBounds i true)) Q fun ρ' a' w' hst' => by
   have hset : ∀ j, (listed.setIfInBounds i true).getD j false = (listed.getD j false || Nat.beq j i) := by
    intro j
    by_cases e : j = i
    ·subst e; rw [beq_self]; simp [hsz, hil]
    ·rw [beq_false.2 e, Bool.or_false, getD_set_ne false (Ne.symm e)]
   refine ih (listed.setIfInBounds i true) ρ' a' w' (by simp [hsz]) ?_ ?_ ?_
   ·intro j oj hoj hl e he hb
    rw [hset] at hl ⊢
    by_cases ej : j = i
    ·subst ej
     have : oj = o := Option.some.inj (hoj.symm.trans hol)
     subst this
     rw [hafter e he hb]; rfl
    ·rw [beq_false.2 ej, Bool.or_false] at hl
     rw [hc j oj hoj hl e he hb]; rfl
   ·have hlt := count_lt (p := fun j => !listed.getD j false) (q := fun j => !(listed.setIfInBounds i true).getD j false) (List.range ops.length)
     (fun j _ hq => by
      simp only [hset, Bool.not_or, Bool.and_eq_true] at hq
      exact hq.1)
     ⟨i, List.mem_range.2 hil, by simp only [hLi]; rfl, by simp only [hset, beq_self, Bool.or_true]; rfl⟩
    omega
   ·have hins := fold_insert (L := fun j => listed.getD j false) (x := d) (n := i) hLi ds 0 (σ0, st0) (Nat.zero_le _) (by simpa using hdi) fun j y hy hlt hl => by
     rw [Nat.zero_add] at hlt hl
     exact (apartB_apart (hafterL j y hy hlt hl)).1
    have ef : (fun j => (listed.setIfInBounds i true).getD j false) = fun j => listed.getD j false || Nat.beq j i := funext hset
    rw [ef]
    exact StR.same (σ := (d.put (foldL (fun j => listed.getD j false) 0 ds (σ0, st0))).1) (st := (d.put (foldL (fun j => listed.getD j false) 0 ds (σ0, st0))).2) hst' hins.symm
  unfold wpOp
  rw [ho]
  simp only
  rw [← hdo]
  cases hw : Region.wanted d.o (yielded ops.toArray a.tmps) with
  | true => simp only [if_true]; exact .inl (next.1 hw)
  | false => exact next.2 hw
theorem region_draw {id : Nat} {ops : List Oper} {oc : Nat → Oper → Env → Store → Orc} {Q : Exit → Act → World → Prop} (hm : S.P.follows .mixedOrders = true) (h : StR S ρ a w σ st) (hb : dstB S.n ops = true)
  (hoc : ∀ i o σ st σ' st', Alike ops.toArray o σ st σ' st' → oc i o σ' st' = oc i o σ st) (hd : drawB S.P oc ops σ st = true)
  (hp : ∀ q ∈ (runOps S.P ops.toArray oc 0 ops σ st).1, q)
  (hQ : ∀ ρ' a' w', StR S ρ' a' w' (runOps S.P ops.toArray oc 0 ops σ st).2.1 (runOps S.P ops.toArray oc 0 ops σ st).2.2 → Q .normal a' w') :
  (Code.region id ops.toArray true).wp S.P Q a w := by
 refine wp_region_any hm ?_
 have hn : ∀ j, (Array.replicate ops.toArray.size false).getD j false = false := by
  intro j
  rcases Nat.lt_or_ge j ops.toArray.size with h | h
  ·simp at h; simp [h]
  ·simp at h; simp [h]
 refine draw_any hb hoc hp hd hQ ops.toArray.size _ ρ a { w with drawn := w.drawn + 1 } (by simp) (fun j o _ hl => by rw [hn] at hl; cases hl) ?_ ?_
 ·have := List.length_filter_le (fun j => !(Array.replicate ops.toArray.size false).getD j false) (List.range ops.length)
  simpa using this
 ·rw [foldL_none _ _ _ fun j _ => hn _]
  exact h.drew
end Go.Proofs.Ytomnmacmlhkceaa
