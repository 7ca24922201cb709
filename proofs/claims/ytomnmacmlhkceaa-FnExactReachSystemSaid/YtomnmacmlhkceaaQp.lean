/- The pure layer, part P: how what is known may be told otherwise: names changed, slots and rows forgotten. No function of the program is named here. -/
import Derived.Test.YtomnmacmlhkceaaQo
set_option linter.unusedVariables false
set_option linter.unusedSimpArgs false
namespace Go.Proofs.Ytomnmacmlhkceaa
open Go
variable {S : Setting} {ρ : Nat → Nm} {a : Act} {w : World} {σ σ' : Env} {st st' : Store}
def dEq0 : D → D → List Prop
 | .int k n, .int k' m => match decide (k = k') with
  | true => [n = m]
  | false => [False]
 | .bool x, .bool y => [x = y]
 | .sl (.ints xs), .sl (.ints ys) => [xs = ys]
 | .sl (.bytes xs), .sl (.bytes ys) => [xs = ys]
 | .sl (.rows xs), .sl (.rows ys) => [xs = ys]
 | .sl (.pairs xs), .sl (.pairs ys) => [xs = ys]
 | .nil, .sl m => [m.len = 0]
 | .nil, .nil => []
 | x, y => [x = y]
theorem dEq0_ok {g : Addr → Option Value} {O : Nat → Prop} {v : Value} {x y : D} (h : R g O v x) (he : ∀ q ∈ dEq0 x y, q) : R g O v y := by
 unfold dEq0 at he
 split at he
 ·split at he
  ·rename_i hk
   have hk := of_decide_eq_true hk
   have := he _ (List.mem_singleton.2 rfl)
   subst hk this
   exact h
  ·exact (he _ (List.mem_singleton.2 rfl)).elim
 ·have := he _ (List.mem_singleton.2 rfl)
  subst this
  exact h
 ·have := he _ (List.mem_singleton.2 rfl)
  subst this
  exact h
 ·have := he _ (List.mem_singleton.2 rfl)
  subst this
  exact h
 ·have := he _ (List.mem_singleton.2 rfl)
  subst this
  exact h
 ·have := he _ (List.mem_singleton.2 rfl)
  subst this
  exact h
 ·have hm := he _ (List.mem_singleton.2 rfl)
  cases h
  exact .slnil _ hm
 ·exact h
 ·have := he _ (List.mem_singleton.2 rfl)
  subst this
  exact h
def aNil : List D → List D → Bool
 | .nil :: _, .sl _ :: _ => true
 | _ :: r, _ :: s => aNil r s
 | _, _ => false
def aEq : List D → List D → List Prop
 | [], [] => []
 | x :: r, y :: s => dEq0 x y ++ aEq r s
 | _, _ => [False]
theorem aEq_len : ∀ {xs ys : List D}, (∀ q ∈ aEq xs ys, q) → xs.length = ys.length
 | [], [], _ => rfl
 | x :: r, y :: s, h => congrArg (· + 1) (aEq_len fun q hq => h q (List.mem_append_right _ hq))
 | [], _ :: _, h => (h False (List.mem_singleton.2 rfl)).elim
 | _ :: _, [], h => (h False (List.mem_singleton.2 rfl)).elim
theorem aEq_get {g : Addr → Option Value} {O : Nat → Prop} : ∀ {xs ys : List D}, (∀ q ∈ aEq xs ys, q) → ∀ (j : Nat) (v : Value) (d : D), (∀ x, xs[j]? = some x → R g O v x) → ys[j]? = some d → R g O v d
 | [], [], _, j, _, _, _, h => by simp at h
 | x :: r, y :: s, h, 0, v, d, hx, hd => by
  simp only [List.getElem?_cons_zero, Option.some.injEq] at hd
  subst hd
  exact dEq0_ok (hx x rfl) fun q hq => h q (List.mem_append_left _ hq)
 | x :: r, y :: s, h, j + 1, v, d, hx, hd => by
  simp only [List.getElem?_cons_succ] at hd
  exact aEq_get (fun q hq => h q (List.mem_append_right _ hq)) j v d (fun z hz => hx z (by simpa using hz)) hd
 | [], _ :: _, h, _, _, _, _, _ => (h False (List.mem_singleton.2 rfl)).elim
 | _ :: _, [], h, _, _, _, _, _ => (h False (List.mem_singleton.2 rfl)).elim
def dEq (x y : D) : List Prop := match x, y with
 | .agg xs, .agg ys => match aNil xs ys with
  | true => aEq xs ys
  | false => [D.agg xs = D.agg ys]
 | x, y => dEq0 x y
theorem dEq_ok {g : Addr → Option Value} {O : Nat → Prop} {v : Value} {x y : D} (h : R g O v x) (he : ∀ q ∈ dEq x y, q) : R g O v y := by
 unfold dEq at he
 split at he
 ·split at he
  ·rename_i ha
   cases h with
   | agg vs _ hl hr => exact .agg _ _ (hl.trans (aEq_len he)) fun j v d hv hd => aEq_get he j v d (fun z hz => hr j v z hv hz) hd
  ·have := he _ (List.mem_singleton.2 rfl)
   rw [← this]
   exact h
 ·exact dEq0_ok h he
def mEq : Mem → Mem → List Prop
 | .ints xs, .ints ys => [xs = ys]
 | .bytes xs, .bytes ys => [xs = ys]
 | .rows xs, .rows ys => [xs = ys]
 | .pairs xs, .pairs ys => [xs = ys]
 | _, _ => [False]
theorem mEq_ok {m m' : Mem} (h : ∀ q ∈ mEq m m', q) : m = m' := by
 cases m <;> cases m' <;> first | exact congrArg _ (h _ (List.mem_singleton.2 rfl)) | exact (h False (List.mem_singleton.2 rfl)).elim
abbrev Ren := List (Nat × Option Nat)
mutual
def PV.pairs : PV → PV → Ren
 | .own j _, .own k _ => [(k, some j)]
 | .d _ _, .own k _ => [(k, none)]
 | .ptr j _, .ptr k _ => [(k, some j)]
 | .fn _ _ as, .fn _ _ bs => PV.pairsL as bs
 | .agg as, .agg bs => PV.pairsL as bs
 | .tup as, .tup bs => PV.pairsL as bs
 | _, _ => []
def PV.pairsL : List PV → List PV → Ren
 | p :: r, q :: s => PV.pairs p q ++ PV.pairsL r s
 | _, _ => []
end
def renE (σ : Env) : Env → Ren
 | [] => []
 | (t, p) :: r => match aget σ t with
  | some q => PV.pairs q p ++ renE σ r
  | none => renE σ r
def renS (st : Store) (rn : Ren) : Store → Ren
 | [] => []
 | (k, .box _ ps) :: r => match aget rn k with
  | some (some j) => match aget st j with
   | some (.box _ qs) => PV.pairsL qs ps ++ renS st rn r
   | _ => renS st rn r
  | _ => renS st rn r
 | _ :: r => renS st rn r
def renOf (σ : Env) (st : Store) (σ' : Env) (st' : Store) : Ren :=
 let r1 := renE σ σ'
 let r2 := r1 ++ renS st r1 st'
 r2 ++ renS st r2 st'
def notImg (rn : Ren) (st' : Store) (j : Nat) : Bool :=
 st'.all fun x => match aget rn x.1 with
  | some (some i) => !Nat.beq i j
  | _ => true
def frOk (fr' fr : Bool) (y : D) : Bool := !fr' || fr || y.flats
mutual
def loos (rn : Ren) (st st' : Store) : PV → PV → List Prop
 | .own j n, .own k m => match aget rn k with
  | some (some i) => match Nat.beq i j with
   | true => [n = m]
   | false => [False]
  | _ => [False]
 | .d _ .nil, .own k m => match aget rn k with
  | some none => [0 = m]
  | _ => [False]
 | .ptr j c, .ptr k c' => match aget rn k with
  | some (some i) => match Nat.beq i j && Nat.beq c c' with
   | true => []
   | false => [False]
  | _ => [False]
 | .fn f k qs, .fn g j ps => match Nat.beq f g && Nat.beq k j with
  | true => loosL rn st st' qs ps
  | false => [False]
 | .agg qs, .agg ps => loosL rn st st' qs ps
 | .tup qs, .tup ps => loosL rn st st' qs ps
 | .d fr x, .d fr' y => match frOk fr' fr y with
  | true => dEq x y
  | false => [False]
 | .own j n, .d fr' y => match aget st j with
  | some (.arr fr _ m) => match (!fr' || fr) && notImg rn st' j with
   | true => (n = m.len) :: dEq (.sl m) y
   | false => [False]
  | some (.mat _ _ xss none) => match notImg rn st' j with
   | true => (n = xss.length) :: dEq (.sl (.rows xss)) y
   | false => [False]
  | _ => [False]
 | _, _ => [False]
def loosL (rn : Ren) (st st' : Store) : List PV → List PV → List Prop
 | [], [] => []
 | q :: r, p :: s => loos rn st st' q p ++ loosL rn st st' r s
 | _, _ => [False]
end
def loosEnt (rn : Ren) (st st' : Store) (k : Nat) (e : Ent) : List Prop :=
 match aget rn k with
 | some (some j) =>
  match aget st j, e with
  | some (.arr fr t m), .arr fr' t' m' => match Nat.beq t t' && (!fr' || fr || m'.flat) with
   | true => mEq m m'
   | false => [False]
  | some (.box t qs), .box t' ps => match Nat.beq t t' && PV.nrL ps with
   | true => loosL rn st st' qs ps
   | false => [False]
  | some (.mat t o xss none), .mat t' o' xss' none => match Nat.beq t t' && Nat.beq o o' with
   | true => [xss = xss']
   | false => [False]
  | some (.arr _ t (.rows ys)), .mat _ t' xss none => match Nat.beq t t' with
   | true => [ys.length = 0, xss.length = 0]
   | false => [False]
  | _, _ => [False]
 | some none => match e with
  | .arr _ _ m => [m.len = 0]
  | .mat _ _ xss none => [xss.length = 0]
  | _ => [False]
 | none => [False]
def loosE (rn : Ren) (st st' : Store) (σ : Env) : Env → List Prop
 | [] => []
 | (t, p) :: r => (match aget σ t with
  | some q => match PV.nr p with
   | true => loos rn st st' q p
   | false => [False]
  | none => [False]) ++ loosE rn st st' σ r
def loosS (rn : Ren) (st st' : Store) : Store → List Prop
 | [] => []
 | (k, e) :: r => loosEnt rn st st' k e ++ loosS rn st st' r
def injB (rn : Ren) : Store → Bool
 | [] => true
 | (k, _) :: r => (match aget rn k with
  | some (some j) => r.all fun x => Nat.beq x.1 k || (match aget rn x.1 with
   | some (some i) => !Nat.beq i j
   | _ => true)
  | _ => true) && injB rn r
def pinB (rn : Ren) (st st' : Store) : Bool :=
 match aget st 0 with
 | some (.box _ _) => match aget st' 0, aget rn 0 with
  | some (.box _ _), some (some 0) => true
  | _, _ => false
 | _ => true
def weakPs (σ : Env) (st : Store) (σ' : Env) (st' : Store) : List Prop :=
 let rn := renOf σ st σ' st'
 match injB rn st' && pinB rn st st' with
 | true => loosE rn st st' σ σ' ++ loosS rn st st' st'
 | false => [False]
def reρ (rn : Ren) (ρ : Nat → Nm) (k : Nat) : Nm :=
 match aget rn k with
 | some (some j) => ρ j
 | _ => nm 0 0
theorem RD.mono {O O' : Nat → Prop} {base : Nat → Prop} {fr : Bool} {v : Value} {x : D} (h : RD w O base fr v x) (hO : ∀ b, O' b → O b) : RD w O' base fr v x := by
 exact h.step fun _ _ hn => ⟨rfl, fun ho => hn (hO _ ho)⟩
theorem loosE_mem {rn : Ren} : ∀ {l : Env}, (∀ q ∈ loosE rn st st' σ l, q) → ∀ t p, aget l t = some p → ∃ q, aget σ t = some q ∧ PV.nr p = true ∧ ∀ x ∈ loos rn st st' q p, x
 | (t0, p0) :: r, h, t, p, hp => by
  rcases aget_cons hp with ⟨rfl, rfl⟩ | ⟨_, hp⟩
  ·have h1 : ∀ x ∈ (match aget σ t with
     | some q => match PV.nr p with
      | true => loos rn st st' q p
      | false => [False]
     | none => [False]), x := fun x hx => h x (by simp only [loosE]; exact List.mem_append_left _ hx)
   cases hq : aget σ t with
   | none => rw [hq] at h1; exact (h1 _ (List.mem_singleton.2 rfl)).elim
   | some q =>
    rw [hq] at h1
    cases hn : PV.nr p with
    | false => simp only [hn] at h1; exact (h1 _ (List.mem_singleton.2 rfl)).elim
    | true => simp only [hn] at h1; exact ⟨q, rfl, rfl, h1⟩
  ·exact loosE_mem (fun x hx => h x (by simp only [loosE]; exact List.mem_append_right _ hx)) t p hp
theorem loosS_mem {rn : Ren} : ∀ {l : Store}, (∀ q ∈ loosS rn st st' l, q) → ∀ k e, aget l k = some e → ∀ x ∈ loosEnt rn st st' k e, x
 | (k0, e0) :: r, h, k, e, he => by
  rcases aget_cons he with ⟨rfl, rfl⟩ | ⟨_, he⟩
  ·exact fun x hx => h x (by simp only [loosS]; exact List.mem_append_left _ hx)
  ·exact loosS_mem (fun x hx => h x (by simp only [loosS]; exact List.mem_append_right _ hx)) k e he
theorem injB_ok {rn : Ren} : ∀ {l : Store}, injB rn l = true → ∀ k k' e e' j, aget l k = some e → aget l k' = some e' → aget rn k = some (some j) → aget rn k' = some (some j) → k = k'
 | (k0, e0) :: r, h, k, k', e, e', j, h1, h2, r1, r2 => by
  simp only [injB, Bool.and_eq_true] at h
  have key : ∀ k2 e2, k2 ≠ k0 → aget r k2 = some e2 → aget rn k0 = some (some j) → aget rn k2 = some (some j) → False := by
   intro k2 e2 hne hg ra rb
   have h3 := h.1
   rw [ra] at h3
   simp only [List.all_eq_true] at h3
   have h4 := h3 _ (aget_mem hg)
   rw [rb] at h4
   simp [beq_false.2 hne, beq_self] at h4
  rcases aget_cons h1 with ⟨g1, _⟩ | ⟨g1, h1⟩ <;> rcases aget_cons h2 with ⟨g2, _⟩ | ⟨g2, h2⟩
  ·rw [g1, g2]
  ·rw [g1] at r1; exact (key k' e' g2 h2 r1 r2).elim
  ·rw [g2] at r2; exact (key k e g1 h1 r2 r1).elim
  ·exact injB_ok h.2 k k' e e' j h1 h2 r1 r2
theorem matNil (w : World) (t o : TypeId) {xss : List (List Int)} (h : xss.length = 0) : MatOk w (nm 0 0) t o xss none :=
 ⟨Nat.zero_le _, by rw [h]; exact Nat.zero_le _, ⟨#[], fun hp => absurd hp (by simp), rfl, fun i hi => by omega⟩, fun i hi => by omega, fun i j hi => by omega, fun i hi => by omega⟩
theorem loosEnt_old {rn : Ren} {k : Nat} {e : Ent} (h : ∀ x ∈ loosEnt rn st st' k e, x) :
  (∃ j e0, aget rn k = some (some j) ∧ aget st j = some e0 ∧ (∀ p b, blk e p b ↔ blk e0 p b) ∧ e0 ≠ .reg) ∨ (aget rn k = some none ∧ ∀ b, ¬ blk e (nm 0 0) b) := by
 unfold loosEnt at h
 split at h
 ·rename_i j hj
  split at h
  ·rename_i h1
   exact .inl ⟨j, _, hj, h1, fun _ _ => Iff.rfl, by simp⟩
  ·rename_i h1
   exact .inl ⟨j, _, hj, h1, fun _ _ => Iff.rfl, by simp⟩
  ·rename_i h1
   split at h
   ·have := h _ (List.mem_singleton.2 rfl)
    subst this
    exact .inl ⟨j, _, hj, h1, fun _ _ => Iff.rfl, by simp⟩
   ·exact (h _ (List.mem_singleton.2 rfl)).elim
  ·rename_i ys _ _ xss h1
   split at h
   ·have h0 : xss.length = 0 := h _ (by simp)
    refine .inl ⟨j, _, hj, h1, fun p b => ⟨fun hb => ?_, fun hb => .inl hb⟩, by simp⟩
    rcases hb with hb | ⟨i, hi, _⟩
    ·exact hb
    ·omega
   ·exact (h _ (List.mem_singleton.2 rfl)).elim
  ·exact (h _ (List.mem_singleton.2 rfl)).elim
 ·rename_i hj
  split at h
  ·exact .inr ⟨hj, fun b hb => absurd hb.2 (by simp)⟩
  ·rename_i t o xss
   have h0 : xss.length = 0 := h _ (List.mem_singleton.2 rfl)
   refine .inr ⟨hj, fun b hb => ?_⟩
   rcases hb with hb | ⟨i, hi, _⟩
   ·exact absurd hb.2 (by simp)
   ·omega
  ·exact (h _ (List.mem_singleton.2 rfl)).elim
 ·exact (h _ (List.mem_singleton.2 rfl)).elim
theorem weak_O {rn : Ren} (hS : ∀ q ∈ loosS rn st st' st', q) : ∀ b, liveO S.O (reρ rn ρ) st' b → liveO S.O ρ st b := by
 intro b hb
 rcases hb with hb | ⟨k, e, hk, hbk⟩
 ·exact .inl hb
 ·rcases loosEnt_old (loosS_mem hS k e hk) with ⟨j, e0, h1, h2, h3, _⟩ | ⟨h1, hno⟩
  ·refine .inr ⟨j, e0, h2, ?_⟩
   simp only [reρ, h1] at hbk
   exact (h3 _ _).1 hbk
  ·simp only [reρ, h1] at hbk
   exact (hno _ hbk).elim
theorem weak_notO {rn : Ren} (h : StR S ρ a w σ st) (hS : ∀ q ∈ loosS rn st st' st', q) {j : Nat} {ej : Ent} (hj : aget st j = some ej) (hn : notImg rn st' j = true) {b : Nat} (hbj : blk ej (ρ j) b) :
  ¬ liveO S.O (reρ rn ρ) st' b := by
 intro hb
 rcases hb with hb | ⟨k, e, hk, hbk⟩
 ·exact (h.own j _ hj _ hbj).2.1 hb
 ·rcases loosEnt_old (loosS_mem hS k e hk) with ⟨i, e0, h1, h2, h3, _⟩ | ⟨h1, hno⟩
  ·simp only [reρ, h1] at hbk
   have : i = j := h.inj i j e0 _ h2 hj _ ((h3 _ _).1 hbk) hbj
   have h4 := (List.all_eq_true.1 hn) _ (aget_mem hk)
   simp only [h1] at h4
   rw [this, beq_self] at h4
   cases h4
  ·simp only [reρ, h1] at hbk
   exact (hno _ hbk).elim
theorem mat_data (h : StR S ρ a w σ st) {O' : Nat → Prop} {j n : Nat} {v : Value} {e eo : TypeId} {xss : List (List Int)} (hv : RPs S ρ w st v (.own j n)) (hj : aget st j = some (.mat e eo xss none)) (hn : n = xss.length)
  (hmay : ∀ b, S.may b → ¬ S.F b) (hno : ∀ b, blk (.mat e eo xss none) (ρ j) b → ¬ O' b) {fr' : Bool} : RD w O' S.F fr' v (.sl (.rows xss)) := by
 have hm : MatOk w (ρ j) e eo xss none := h.ents j _ hj
 have hF : ∀ b, blk (.mat e eo xss none) (ρ j) b → ¬ S.F b := fun b hb hf => by
  rcases (h.own j _ hj b hb).2.2 with h7 | h7
  ·have := S.fb b hf; omega
  ·exact hmay b h7 hf
 subst hn
 have hv' := hv.own_inv
 cases fr' with
 | true => exact mat_read hm (fun b hb ho => ho.elim (hno b hb) (hF b hb)) hv'
 | false => exact R.plain (mat_read hm hno hv')
theorem own_data (h : StR S ρ a w σ st) {O' : Nat → Prop} {j n : Nat} {v : Value} {fr : Bool} {t : TypeId} {m : Mem} (hv : RPs S ρ w st v (.own j n)) (hj : aget st j = some (.arr fr t m)) (hn : n = m.len)
  (hmay : ∀ b, S.may b → ¬ S.F b) (hO : ∀ b, O' b → liveO S.O ρ st b) (hno : 0 < (ρ j).2 → ¬ O' (ρ j).1) {fr' : Bool} (hfr : fr' = true → fr = true) : RD w O' S.F fr' v (.sl m) := by
 obtain ⟨cur, h1, h2, h3, h4, h5⟩ := h.ents j _ hj
 cases hv with
 | ownN _ hc => cases fr' <;> exact .slnil m hn.symm
 | own =>
  have hval : ∀ i c, i < m.len → c < m.width → w.cell? ⟨(ρ j).1, i * m.width + c, none⟩ = some (cur.getD (i * m.width + c) undef) := by
   intro i c hi hc
   obtain ⟨v, hv, _⟩ := h5 i c hi hc
   rw [cell_of_row w _ _ _ _ _ (h1 (by omega)), hv]
   simp [hv]
  have hget : ∀ i c, i < m.len → c < m.width → RD w O' S.F fr' (cur.getD (i * m.width + c) undef) (m.get i c) := by
   intro i c hi hc
   obtain ⟨v, hv, hd⟩ := h5 i c hi hc
   have : cur.getD (i * m.width + c) undef = v := by simp [hv]
   rw [this]
   exact (hd.mono hO).weaken hfr
  cases fr' with
  | false => exact R.sl m ⟨(ρ j).1, 0, none⟩ n (ρ j).2 hn (by omega) (fun i c => cur.getD (i * m.width + c) undef) (fun i c hi hc => ⟨by rw [add_lit0]; exact hval i c hi hc, hno (by omega)⟩) hget
  | true =>
   refine R.sl m ⟨(ρ j).1, 0, none⟩ n (ρ j).2 hn (by omega) (fun i c => cur.getD (i * m.width + c) undef) (fun i c hi hc => ⟨?_, fun ho => ?_⟩) hget
   ·rw [add_lit0]; exact ucell_mk (hval i c hi hc) (frozen_of_row _ _ _ _ _ (h1 (by omega)))
   ·have hpos : 0 < (ρ j).2 := by omega
    rcases ho with ho | ho
    ·exact hno hpos ho
    ·rcases (h.own j _ hj _ ⟨rfl, hpos⟩).2.2 with h7 | h7
     ·have h8 := S.fb _ (show S.F (ρ j).1 from ho)
      omega
     ·exact hmay _ h7 ho
theorem loos_dd {rn : Ren} {fr fr' : Bool} {x y : D} : loos rn st st' (.d fr x) (.d fr' y) = (match frOk fr' fr y with
  | true => dEq x y
  | false => [False]) := by cases x <;> rfl
theorem loosL_ok {rn : Ren} :
  ∀ (ps qs : List PV) (vs : List Value), (∀ p ∈ ps, ∀ (q : PV) (v : Value), (∀ x ∈ loos rn st st' q p, x) → RPs S ρ w st v q → RPs S (reρ rn ρ) w st' v p) → (∀ x ∈ loosL rn st st' qs ps, x) → vs.length = qs.length → (∀ (j : Nat) (v : Value) (q : PV), vs[j]? = some v → qs[j]? = some q → RPs S ρ w st v q) →
   vs.length = ps.length ∧ ∀ (j : Nat) (v : Value) (p : PV), vs[j]? = some v → ps[j]? = some p → RPs S (reρ rn ρ) w st' v p
 | [], qs, vs, _, hx, hl, hr => by
  cases qs with
  | nil => exact ⟨hl, fun j v p _ hp => by simp at hp⟩
  | cons q r => exact (hx False (by show False ∈ [False]; exact List.mem_singleton.2 rfl)).elim
 | p :: s, qs, vs, ih, hx, hl, hr => by
  cases qs with
  | nil => exact (hx False (by show False ∈ [False]; exact List.mem_singleton.2 rfl)).elim
  | cons q r =>
   cases vs with
   | nil => simp at hl
   | cons u us =>
    simp only [loosL, List.mem_append] at hx
    have h1 := ih p List.mem_cons_self q u (fun x hx' => hx x (.inl hx')) (hr 0 u q rfl rfl)
    obtain ⟨h2, h3⟩ := loosL_ok s r us (fun p hp => ih p (List.mem_cons_of_mem _ hp)) (fun x hx' => hx x (.inr hx')) (by simpa using hl) (fun j v q' h1 h2 => hr (j + 1) v q' (by simpa using h1) (by simpa using h2))
    refine ⟨by simp [h2], fun j v p' hv hp => ?_⟩
    cases j with
    | zero => simp at hv hp; subst hv hp; exact h1
    | succ j => exact h3 j v p' (by simpa using hv) (by simpa using hp)
theorem loosN_ok {rn : Ren} (h : StR S ρ a w σ st) (hmay : ∀ b, S.may b → ¬ S.F b) (hS : ∀ q ∈ loosS rn st st' st', q) :
  ∀ (N : Nat) (p q : PV) (v : Value), SizeOf.sizeOf p < N → (∀ x ∈ loos rn st st' q p, x) → RPs S ρ w st v q → RPs S (reρ rn ρ) w st' v p := by
 intro N
 induction N with
 | zero => intro p q v hsz; omega
 | succ N ih =>
 intro p q v hsz hx hv
 cases p with
 | own k m =>
  cases q with
  | own j n =>
   simp only [loos] at hx
   split at hx
   ·rename_i i hi
    split at hx
    ·rename_i hb
     have := beq_true.1 hb
     subst this
     have hnm := hx _ (List.mem_singleton.2 rfl)
     subst hnm
     have hr : reρ rn ρ k = ρ i := by simp only [reρ, hi]
     cases hv with
     | own => rw [← hr]; exact .own k n
     | ownN _ hc => exact .ownN k (by rw [hr]; exact hc)
    ·exact (hx _ (List.mem_singleton.2 rfl)).elim
   ·exact (hx _ (List.mem_singleton.2 rfl)).elim
  | d fr x =>
   cases x with
   | nil =>
    simp only [loos] at hx
    split at hx
    ·rename_i hi
     have hnm := hx _ (List.mem_singleton.2 rfl)
     subst hnm
     have := (RPs.d_inv hv).nil_inv
     subst this
     exact .ownN k (by simp only [reρ, hi])
    ·exact (hx _ (List.mem_singleton.2 rfl)).elim
   | _ => exact (hx False (by show False ∈ [False]; exact List.mem_singleton.2 rfl)).elim
  | _ => exact (hx False (by show False ∈ [False]; exact List.mem_singleton.2 rfl)).elim
 | ptr k c' =>
  cases q with
  | ptr j c =>
   simp only [loos] at hx
   split at hx
   ·rename_i i hi
    split at hx
    ·rename_i hb
     simp only [Bool.and_eq_true, beq_true] at hb
     obtain ⟨h1, h2⟩ := hb
     subst h1 h2
     have hr : reρ rn ρ k = ρ i := by simp only [reρ, hi]
     cases hv with
     | ptr => rw [← hr]; exact .ptr k c
    ·exact (hx _ (List.mem_singleton.2 rfl)).elim
   ·exact (hx _ (List.mem_singleton.2 rfl)).elim
  | d fr x => cases x <;> exact (hx False (by show False ∈ [False]; exact List.mem_singleton.2 rfl)).elim
  | _ => exact (hx False (by show False ∈ [False]; exact List.mem_singleton.2 rfl)).elim
 | fn g kj ps =>
  cases q with
  | fn f kk qs =>
   simp only [loos] at hx
   split at hx
   ·rename_i hb
    simp only [Bool.and_eq_true, beq_true] at hb
    obtain ⟨e1, e2⟩ := hb
    subst e1 e2
    cases hv with
    | fn _ _ vs _ hl hr =>
     obtain ⟨h1, h2⟩ := loosL_ok ps qs vs (fun p hp q v => ih p q v (by have := List.sizeOf_lt_of_mem hp; simp at hsz; omega)) hx hl hr
     exact .fn f kk vs ps h1 h2
   ·exact (hx _ (List.mem_singleton.2 rfl)).elim
  | d fr x => cases x <;> exact (hx False (by show False ∈ [False]; exact List.mem_singleton.2 rfl)).elim
  | _ => exact (hx False (by show False ∈ [False]; exact List.mem_singleton.2 rfl)).elim
 | agg ps =>
  cases q with
  | agg qs =>
   simp only [loos] at hx
   cases hv with
   | agg vs _ hl hr =>
    obtain ⟨h1, h2⟩ := loosL_ok ps qs vs (fun p hp q v => ih p q v (by have := List.sizeOf_lt_of_mem hp; simp at hsz; omega)) hx hl hr
    exact .agg vs ps h1 h2
  | d fr x => cases x <;> exact (hx False (by show False ∈ [False]; exact List.mem_singleton.2 rfl)).elim
  | _ => exact (hx False (by show False ∈ [False]; exact List.mem_singleton.2 rfl)).elim
 | tup ps =>
  cases q with
  | tup qs =>
   simp only [loos] at hx
   cases hv with
   | tup vs _ hl hr =>
    obtain ⟨h1, h2⟩ := loosL_ok ps qs vs (fun p hp q v => ih p q v (by have := List.sizeOf_lt_of_mem hp; simp at hsz; omega)) hx hl hr
    exact .tup vs ps h1 h2
  | d fr x => cases x <;> exact (hx False (by show False ∈ [False]; exact List.mem_singleton.2 rfl)).elim
  | _ => exact (hx False (by show False ∈ [False]; exact List.mem_singleton.2 rfl)).elim
 | d fr' y =>
  cases q with
  | d fr x =>
   rw [loos_dd] at hx
   split at hx
   ·rename_i hf
    have hd := (RPs.d_inv hv).mono (weak_O (ρ := ρ) (S := S) hS)
    refine .d _ _ _ ?_
    have h2 : RD w (liveO S.O (reρ rn ρ) st') S.F fr v y := by
     cases fr with
     | true => exact dEq_ok hd hx
     | false => exact dEq_ok hd hx
    simp only [frOk, Bool.or_eq_true, Bool.not_eq_true'] at hf
    rcases hf with (hf | hf) | hf
    ·exact h2.weaken (by rw [hf]; simp)
    ·exact h2.weaken (fun _ => hf)
    ·exact RD.of_flats h2 hf
   ·exact (hx _ (List.mem_singleton.2 rfl)).elim
  | own j n =>
   simp only [loos] at hx
   split at hx
   ·rename_i fr t m hj
    split at hx
    ·rename_i hb
     simp only [Bool.and_eq_true] at hb
     have hn : n = m.len := hx _ (List.mem_cons_self)
     have hfr : fr' = true → fr = true := fun e => by have := hb.1; rw [e] at this; simpa using this
     have h2 := own_data h hv hj hn hmay (weak_O (ρ := ρ) (S := S) hS) (fun hpos => weak_notO h hS hj hb.2 ⟨rfl, hpos⟩) hfr
     refine .d _ _ _ ?_
     cases fr' with
     | true => exact dEq_ok h2 fun q hq => hx q (List.mem_cons_of_mem _ hq)
     | false => exact dEq_ok h2 fun q hq => hx q (List.mem_cons_of_mem _ hq)
    ·exact (hx _ (List.mem_singleton.2 rfl)).elim
   ·rename_i e eo xss hj
    split at hx
    ·rename_i hb
     have hn : n = xss.length := hx _ (List.mem_cons_self)
     have h2 := mat_data (fr' := fr') h hv hj hn hmay fun b hbl => weak_notO h hS hj hb hbl
     refine .d _ _ _ ?_
     cases fr' with
     | true => exact dEq_ok h2 fun q hq => hx q (List.mem_cons_of_mem _ hq)
     | false => exact dEq_ok h2 fun q hq => hx q (List.mem_cons_of_mem _ hq)
    ·exact (hx _ (List.mem_singleton.2 rfl)).elim
   ·exact (hx _ (List.mem_singleton.2 rfl)).elim
  | _ => exact (hx False (by show False ∈ [False]; exact List.mem_singleton.2 rfl)).elim
 | eadr _ _ _ _ =>
  cases q with
  | d fr x => cases x <;> exact (hx False (by show False ∈ [False]; exact List.mem_singleton.2 rfl)).elim
  | _ => exact (hx False (by show False ∈ [False]; exact List.mem_singleton.2 rfl)).elim
 | opt _ _ =>
  cases q with
  | d fr x => cases x <;> exact (hx False (by show False ∈ [False]; exact List.mem_singleton.2 rfl)).elim
  | _ => exact (hx False (by show False ∈ [False]; exact List.mem_singleton.2 rfl)).elim
 | vw _ _ =>
  cases q with
  | d fr x => cases x <;> exact (hx False (by show False ∈ [False]; exact List.mem_singleton.2 rfl)).elim
  | _ => exact (hx False (by show False ∈ [False]; exact List.mem_singleton.2 rfl)).elim
 | rw _ _ _ =>
  cases q with
  | d fr x => cases x <;> exact (hx False (by show False ∈ [False]; exact List.mem_singleton.2 rfl)).elim
  | _ => exact (hx False (by show False ∈ [False]; exact List.mem_singleton.2 rfl)).elim
 | radr _ _ _ =>
  cases q with
  | d fr x => cases x <;> exact (hx False (by show False ∈ [False]; exact List.mem_singleton.2 rfl)).elim
  | _ => exact (hx False (by show False ∈ [False]; exact List.mem_singleton.2 rfl)).elim
 | reg _ _ =>
  cases q with
  | d fr x => cases x <;> exact (hx False (by show False ∈ [False]; exact List.mem_singleton.2 rfl)).elim
  | _ => exact (hx False (by show False ∈ [False]; exact List.mem_singleton.2 rfl)).elim
theorem loos_ok {rn : Ren} (h : StR S ρ a w σ st) (hmay : ∀ b, S.may b → ¬ S.F b) (hS : ∀ q ∈ loosS rn st st' st', q) (p q : PV) (v : Value) (hx : ∀ x ∈ loos rn st st' q p, x) (hv : RPs S ρ w st v q) : RPs S (reρ rn ρ) w st' v p :=
 loosN_ok h hmay hS (SizeOf.sizeOf p + 1) p q v (Nat.lt_succ_self _) hx hv
theorem weak_ok (h : StR S ρ a w σ st) (hmay : ∀ b, S.may b → ¬ S.F b) (hp : ∀ q ∈ weakPs σ st σ' st', q) : ∃ ρ', StR S ρ' a w σ' st' := by
 unfold weakPs at hp
 simp only at hp
 split at hp
 rotate_left
 ·exact (hp _ (List.mem_singleton.2 rfl)).elim
 rename_i hinj
 revert hp hinj
 generalize renOf σ st σ' st' = rn
 intro hinj hp
 simp only [Bool.and_eq_true] at hinj
 obtain ⟨hinj, hpin⟩ := hinj
 have hE : ∀ q ∈ loosE rn st st' σ σ', q := fun q hq => hp q (List.mem_append_left _ hq)
 have hS : ∀ q ∈ loosS rn st st' st', q := fun q hq => hp q (List.mem_append_right _ hq)
 have hO := weak_O (ρ := ρ) (S := S) hS
 refine ⟨reρ rn ρ, h.sz, h.dfr, h.ob, fun k e hk => ?_, fun k e hk b hb => ?_, fun k k' e e' hk hk' b hb hb' => ?_, fun t p htp => ?_, h.frm, fun t p htp j hj => ?_, fun k t cs hk j => ?_, fun g hg => ?_⟩
 rotate_right
 ·obtain ⟨p1, t, cs, p2⟩ := h.pn g hg
  unfold pinB at hpin
  rw [p2] at hpin
  simp only at hpin
  split at hpin
  ·rename_i t2 cs2 q1 q2
   exact ⟨by simp only [reρ, q2]; exact p1, t2, cs2, q1⟩
  ·cases hpin
 ·have hx := loosS_mem hS k e hk
  unfold loosEnt at hx
  split at hx
  ·rename_i j hj
   have hr : reρ rn ρ k = ρ j := by simp only [reρ, hj]
   split at hx
   ·rename_i fr t m fr' t' m' h1
    split at hx
    ·rename_i hb
     simp only [Bool.and_eq_true, beq_true] at hb
     obtain ⟨hb1, hb2⟩ := hb
     subst hb1
     have hm := mEq_ok hx
     subst hm
     obtain ⟨cur, g1, g2, g3, g4, g5⟩ := h.ents j _ h1
     refine ⟨cur, by rw [hr]; exact g1, by rw [hr]; exact g2, by rw [hr]; exact g3, by rw [hr]; exact g4, fun i c hi hc => ?_⟩
     obtain ⟨v, hv, hd⟩ := g5 i c hi hc
     refine ⟨v, hv, ?_⟩
     have h2 := hd.mono hO
     simp only [Bool.or_eq_true, Bool.not_eq_true'] at hb2
     rcases hb2 with (hf | hf) | hf
     ·exact h2.weaken (by rw [hf]; simp)
     ·exact h2.weaken (fun _ => hf)
     ·exact RD.of_flats h2 (Mem.flat_get hf _ _)
    ·exact (hx _ (List.mem_singleton.2 rfl)).elim
   ·rename_i t qs t' ps h1
    split at hx
    ·rename_i hb
     simp only [Bool.and_eq_true, beq_true] at hb
     obtain ⟨hb1, _⟩ := hb
     subst hb1
     obtain ⟨cur, g1, g2, g3⟩ := h.ents j _ h1
     obtain ⟨l1, l2⟩ := loosL_ok ps qs cur.toList (fun p _ q v => loos_ok h hmay hS p q v) hx (by simpa using g2) (fun c v q hv hq => by
      obtain ⟨u, hu, _, hrp⟩ := g3 c q hq
      have : u = v := by simp at hv; rw [hu] at hv; exact Option.some.inj hv
      rw [← this]; exact hrp)
     refine ⟨cur, by rw [hr]; exact g1, by simpa using l1, fun c p hcp => ?_⟩
     have hc : c < cur.toList.length := by rw [l1]; exact (List.getElem?_eq_some_iff.1 hcp).1
     have hcv := List.getElem?_eq_getElem hc
     have hcq : c < qs.length := by rw [← g2]; simpa using hc
     obtain ⟨u, hu, hone, _⟩ := g3 c _ (List.getElem?_eq_getElem hcq)
     refine ⟨u, hu, hone, l2 c u p (by simpa using hu) hcp⟩
    ·exact (hx _ (List.mem_singleton.2 rfl)).elim
   ·rename_i t o xss t' o' xss' h1
    split at hx
    ·rename_i hb
     simp only [Bool.and_eq_true, beq_true] at hb
     obtain ⟨hb1, hb2⟩ := hb
     have hm : xss = xss' := hx _ (List.mem_singleton.2 rfl)
     subst hb1 hb2 hm
     rw [EntOk, hr]
     exact h.ents j _ h1
    ·exact (hx _ (List.mem_singleton.2 rfl)).elim
   ·rename_i t ys e t' xss h1
    split at hx
    ·rename_i hb
     have hb1 := beq_true.1 hb
     subst hb1
     have h0 : xss.length = 0 := hx _ (by simp)
     obtain ⟨cur, g1, g2, g3, g4, g5⟩ := h.ents j _ h1
     rw [EntOk, hr]
     exact ⟨g2, by rw [h0]; exact Nat.zero_le _, ⟨cur, g1, by simpa [Mem.width] using g3, fun i hi => by omega⟩, fun i hi => by omega, fun i j hi => by omega, fun i hi => by omega⟩
    ·exact (hx _ (List.mem_singleton.2 rfl)).elim
   ·exact (hx _ (List.mem_singleton.2 rfl)).elim
  ·rename_i hj
   have hr : reρ rn ρ k = nm 0 0 := by simp only [reρ, hj]
   split at hx
   ·rename_i fr t m
    have hm : m.len = 0 := hx _ (List.mem_singleton.2 rfl)
    exact ⟨#[], by rw [hr]; simp, by rw [hr]; simp, by rw [hr]; simp, by rw [hr, hm]; simp, fun i c hi _ => by omega⟩
   ·rename_i t o xss
    rw [EntOk, hr]
    exact matNil w t o (hx _ (List.mem_singleton.2 rfl))
   ·exact (hx _ (List.mem_singleton.2 rfl)).elim
  ·exact (hx _ (List.mem_singleton.2 rfl)).elim
 ·rcases loosEnt_old (loosS_mem hS k e hk) with ⟨j, e0, h1, h2, h3, _⟩ | ⟨h1, hno⟩
  ·simp only [reρ, h1] at hb
   exact h.own j e0 h2 b ((h3 _ _).1 hb)
  ·simp only [reρ, h1] at hb
   exact (hno _ hb).elim
 ·rcases loosEnt_old (loosS_mem hS k e hk) with ⟨j, e0, h1, h2, h3, _⟩ | ⟨h1, hno⟩
  rotate_left
  ·simp only [reρ, h1] at hb
   exact (hno _ hb).elim
  rcases loosEnt_old (loosS_mem hS k' e' hk') with ⟨j', e0', h1', h2', h3', _⟩ | ⟨h1', hno⟩
  rotate_left
  ·simp only [reρ, h1'] at hb'
   exact (hno _ hb').elim
  simp only [reρ, h1] at hb
  simp only [reρ, h1'] at hb'
  have : j = j' := h.inj j j' e0 e0' h2 h2' b ((h3 _ _).1 hb) ((h3' _ _).1 hb')
  subst this
  exact injB_ok hinj k k' e e' j hk hk' h1 h1'
 ·obtain ⟨q, hq, _, hx⟩ := loosE_mem hE t p htp
  obtain ⟨g1, g2⟩ := h.env t q hq
  exact ⟨g1, loos_ok h hmay hS p q _ hx g2⟩
 ·obtain ⟨q, hq, hn, hx⟩ := loosE_mem hE t p htp
  rw [PV.nr_rgm j p hn] at hj
  cases hj
 ·have hx := loosS_mem hS k _ hk
  unfold loosEnt at hx
  split at hx
  ·split at hx
   ·rename_i h1
    cases h1
   ·rename_i h1 h2
    cases h2
    split at hx
    ·rename_i hb
     simp only [Bool.and_eq_true] at hb
     exact fun hj => by rw [PV.nrL_rgmL j _ hb.2] at hj; cases hj
    ·exact (hx _ (List.mem_singleton.2 rfl)).elim
   ·rename_i h1 h2
    cases h2
   ·rename_i h1 h2
    cases h2
   ·exact (hx _ (List.mem_singleton.2 rfl)).elim
  ·exact (hx _ (List.mem_singleton.2 rfl)).elim
  ·exact (hx _ (List.mem_singleton.2 rfl)).elim
end Go.Proofs.Ytomnmacmlhkceaa
