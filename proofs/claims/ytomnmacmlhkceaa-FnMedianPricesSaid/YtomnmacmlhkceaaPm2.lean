/- The pure layer, marks, part 2: the call of a marking function on a region: what was known of the region is forgotten. No function of the program is named here. -/
import Derived.Test.YtomnmacmlhkceaaPm1
set_option linter.unusedVariables false
set_option linter.unusedSimpArgs false
namespace Go.Proofs.Ytomnmacmlhkceaa
open Go
variable {S : Setting} {ρ : Nat → Nm} {a : Act} {w : World} {σ : Env} {st : Store} {o : Oper} {all : Array Oper}
def shOf : D → Sh
 | .sl (.ints xs) => .ints xs.length
 | .sl (.rows xss) => .rows (xss.map List.length)
 | .sl (.pairs ps) => .pairs ps.length
 | _ => .any
theorem ints_shape {B : Nat → Prop} {O : Nat → Prop} {v : Value} {xs : List Int} (h : R (ucell w) O v (.sl (.ints xs))) (hO : ∀ b, ¬ O b → B b) : RowS w B v xs.length := by
 cases h with
 | slnil _ h0 => exact ⟨none, 0, by rw [show xs.length = 0 from h0], fun i hi => by have : xs.length = 0 := h0; omega⟩
 | sl _ ad n cap hn _ f hc hr =>
  refine ⟨some ad, cap, by rw [hn]; rfl, fun i hi => ⟨ad, rfl, ?_⟩⟩
  obtain ⟨h1, h2⟩ := hc i 0 hi (by simp [Mem.width])
  have h3 := hr i 0 hi (by simp [Mem.width])
  have e : i * (Mem.ints xs).width + 0 = i := by simp [Mem.width]
  rw [e] at h1
  have h4 : f i 0 = .int .i64 (xs.getD i 0) := by
   revert h3
   generalize f i 0 = u
   intro h3
   cases h3
   rfl
  exact ⟨_, h4 ▸ h1, by rw [block_add]; exact hO _ h2⟩
theorem shOf_ok {B : Nat → Prop} {O : Nat → Prop} {v : Value} {x : D} (h : R (ucell w) O v x) (hO : ∀ b, ¬ O b → B b) : RS w B v (shOf x) := by
 unfold shOf
 split
 ·exact ints_shape h hO
 ·rename_i xss
  cases h with
  | slnil _ h0 =>
   have h0 : xss.length = 0 := h0
   refine ⟨none, 0, by simp [h0], fun i n hi => ?_⟩
   have := (List.getElem?_eq_some_iff.1 hi).1
   simp [h0] at this
  | sl _ ad n cap hn _ f hc hr =>
   refine ⟨some ad, cap, by rw [hn, List.length_map]; rfl, fun i n hi => ?_⟩
   simp only [List.getElem?_map, Option.map_eq_some_iff] at hi
   obtain ⟨ys, hy, rfl⟩ := hi
   have hlt : i < (Mem.rows xss).len := (List.getElem?_eq_some_iff.1 hy).1
   obtain ⟨h1, h2⟩ := hc i 0 hlt (by simp [Mem.width])
   have h3 := hr i 0 hlt (by simp [Mem.width])
   have e : i * (Mem.rows xss).width + 0 = i := by simp [Mem.width]
   rw [e] at h1
   have e2 : (Mem.rows xss).get i 0 = .sl (.ints ys) := by simp [Mem.get, hy]
   rw [e2] at h3
   exact ⟨ad, _, rfl, h1, by rw [block_add]; exact hO _ h2, ints_shape h3 hO⟩
 ·rename_i ps
  cases h with
  | slnil _ h0 =>
   have h0 : ps.length = 0 := h0
   exact ⟨none, 0, by rw [h0], fun i c hi _ => by omega⟩
  | sl _ ad n cap hn _ f hc hr =>
   refine ⟨some ad, cap, by rw [hn]; rfl, fun i c hi hcw => ⟨ad, rfl, ?_⟩⟩
   obtain ⟨h1, h2⟩ := hc i c hi hcw
   have h3 := hr i c hi hcw
   have h4 : ∃ z, f i c = .int .i64 z := by
    revert h3
    generalize f i c = u
    cases c <;> (intro h3; cases h3; exact ⟨_, rfl⟩)
   obtain ⟨z, h4⟩ := h4
   exact ⟨z, h4 ▸ h1, by rw [block_add]; exact hO _ h2⟩
 ·trivial
def shP (k : Nat) : PV → Sh
 | .reg j x => match Nat.beq j k with
  | true => shOf x
  | false => .any
 | _ => .any
def mvOf (k : Nat) : PV → MV
 | .reg j x => match Nat.beq j k with
  | true => .shp (shOf x)
  | false => .u
 | .d _ (.int .i64 n) => .int n
 | .agg ps => .agg (ps.map (shP k))
 | _ => .u
theorem shP_ok {O : Nat → Prop} {base : Nat → Prop} {k : Nat} {v : Value} {p : PV} (h : RP w O base ρ v p) : RS w (fun b => (ρ k).1 ≤ b ∧ b < (ρ k).2) v (shP k p) := by
 unfold shP
 split
 ·split
  ·rename_i hb
   have hb := beq_true.1 hb
   subst hb
   cases h with
   | reg _ _ _ h => exact shOf_ok h fun b hb => Classical.not_not.1 hb
  ·trivial
 ·trivial
theorem mvOf_ok {q : Addr} {O : Nat → Prop} {base : Nat → Prop} {k : Nat} {v : Value} {p : PV} (h : RP w O base ρ v p) : RM w (fun b => (ρ k).1 ≤ b ∧ b < (ρ k).2) q v (mvOf k p) := by
 unfold mvOf
 split
 ·split
  ·rename_i hb
   have hb := beq_true.1 hb
   subst hb
   cases h with
   | reg _ _ _ h => exact shOf_ok h fun b hb => Classical.not_not.1 hb
  ·trivial
 ·exact RPs.int_inv h
 ·cases h with
  | agg vs _ hl hr =>
   refine ⟨vs, rfl, by simpa using hl, fun j x s hx hs => ?_⟩
   simp only [List.getElem?_map, Option.map_eq_some_iff] at hs
   obtain ⟨p, hp, rfl⟩ := hs
   exact shP_ok (hr j x p hx hp)
 ·trivial
def regIn : List PV → Option Nat
 | [] => none
 | .reg k _ :: _ => some k
 | _ :: r => regIn r
def regOf : PV → Option Nat
 | .reg k _ => some k
 | .agg ps => regIn ps
 | _ => none
def holders (k : Nat) : Store → List Nat
 | [] => []
 | (j, e) :: r => match e.ment k with
  | true => j :: holders k r
  | false => holders k r
def clean (L : List Nat) (p : PV) : Bool := L.all fun j => !p.ment j
def cutE (L : List Nat) : Env → Env
 | [] => []
 | (t, p) :: r => (t, match clean L p with
  | true => p
  | false => .d false .undef) :: cutE L r
theorem cutE_get {L : List Nat} : ∀ {σ : Env} {t : Nat} {p : PV}, aget (cutE L σ) t = some p → ∃ q, aget σ t = some q ∧ ((clean L q = true ∧ p = q) ∨ p = .d false .undef)
 | (k, q) :: r, t, p, h => by
  rcases aget_cons h with ⟨rfl, rfl⟩ | ⟨hne, h⟩
  ·refine ⟨q, aget_cons_same _ _ _, ?_⟩
   cases hc : clean L q with
   | true => exact .inl ⟨rfl, rfl⟩
   | false => exact .inr rfl
  ·obtain ⟨q', h1, h2⟩ := cutE_get h
   exact ⟨q', by rw [aget_cons_ne (Ne.symm hne)]; exact h1, h2⟩
def cutS (L : List Nat) (st : Store) : Store := L.foldr (fun j s => adel s j) st
theorem cutS_get : ∀ {L : List Nat} {j : Nat} {e : Ent}, aget (cutS L st) j = some e → j ∉ L ∧ aget st j = some e
 | [], j, e, h => ⟨by simp, h⟩
 | k :: r, j, e, h => by
  obtain ⟨h1, h2⟩ := aget_adel (l := cutS r st) h
  obtain ⟨h3, h4⟩ := cutS_get h2
  exact ⟨by simp [h1, h3], h4⟩
theorem cutS_keep : ∀ {L : List Nat} {j : Nat} {e : Ent}, j ∉ L → aget st j = some e → aget (cutS L st) j = some e
 | [], j, e, _, h => h
 | k :: r, j, e, hn, h => by
  simp only [List.mem_cons, not_or] at hn
  show aget (adel (cutS r st) k) j = some e
  rw [aget_adel_ne _ hn.1]
  exact cutS_keep hn.2 h
def cleanS (L : List Nat) (st : Store) : Bool := st.all fun x => L.all fun j => !x.2.ment j
mutual
theorem PV.rgm_ment (j : Nat) : ∀ p : PV, p.rgm j = true → p.ment j = true
 | .fn _ _ cs, h => PV.rgmL_mentL j cs h
 | .agg cs, h => PV.rgmL_mentL j cs h
 | .tup cs, h => PV.rgmL_mentL j cs h
 | .opt _ p, h => PV.rgm_ment j p h
 | .reg _ _, h => h
 | .vw _ _, h => by simp [PV.rgm] at h
 | .d _ _, h => by simp [PV.rgm] at h
 | .own _ _, h => by simp [PV.rgm] at h
 | .ptr _ _, h => by simp [PV.rgm] at h
 | .eadr _ _ _ _, h => by simp [PV.rgm] at h
 | .rw _ _ _, h => by simp [PV.rgm] at h
 | .radr _ _ _, h => by simp [PV.rgm] at h
theorem PV.rgmL_mentL (j : Nat) : ∀ cs : List PV, PV.rgmL j cs = true → PV.mentL j cs = true
 | [], h => by simp [PV.rgmL] at h
 | p :: r, h => by
  simp only [PV.rgmL, Bool.or_eq_true] at h
  simp only [PV.mentL, Bool.or_eq_true]
  rcases h with h | h
  ·exact .inl (PV.rgm_ment j p h)
  ·exact .inr (PV.rgmL_mentL j r h)
end
theorem StR.killed (h : StR S ρ a w σ st) {k : Nat} {L : List Nat} (hk : aget st k = some .reg) (hL : k ∈ L) (hL0 : (0 : Nat) ∉ L) (hc : cleanS L (cutS L st) = true) {w' : World}
  (hm : MkR (fun b => (ρ k).1 ≤ b ∧ b < (ρ k).2) w w') : StR S ρ a w' (cutE L σ) (cutS L st) := by
 have hclean : ∀ j e, aget (cutS L st) j = some e → ∀ i ∈ L, e.ment i = false := by
  intro j e he i hi
  have := (List.all_eq_true.1 hc) _ (aget_mem he)
  have := (List.all_eq_true.1 this) i hi
  simpa using this
 have hlow : ∀ b, liveO S.O ρ (cutS L st) b → liveO S.O ρ st b := by
  intro b hb
  rcases hb with hb | ⟨j, e, hj, hb⟩
  ·exact .inl hb
  ·exact .inr ⟨j, e, (cutS_get hj).2, hb⟩
 have hkk : ∀ b, b < w.heap.size → ¬ liveO S.O ρ st b → w'.heap[b]? = w.heap[b]? ∧ ¬ liveO S.O ρ (cutS L st) b :=
  fun b hb hn => ⟨hm.out b hb fun hB => hn (.inr ⟨k, .reg, hk, hB⟩), fun h3 => hn (hlow b h3)⟩
 have hother : ∀ j e, j ≠ k → aget st j = some e → ∀ b, blk e (ρ j) b → b < w.heap.size → w'.heap[b]? = w.heap[b]? :=
  fun j e hne hj b hb hlt => hm.out b hlt fun hB => hne (h.inj j k e .reg hj hk b hb hB)
 have hreg : ∀ i, i ≠ k → aget st i = some .reg → ∀ b, (ρ i).1 ≤ b → b < (ρ i).2 → b < w.heap.size → w'.heap[b]? = w.heap[b]? :=
  fun i hne hi b h1 h2 h3 => hother i .reg hne hi b ⟨h1, h2⟩ h3
 refine ⟨h.sz, h.dfr, h.ob, fun j e he => ?_, fun j e he b hb => ?_, fun j j' e e' h1 h2 => h.inj j j' e e' (cutS_get h1).2 (cutS_get h2).2, fun t p hp => ?_, ?_, fun t p hp j hj => ?_, fun j t cs hj i hi => ?_, fun g hg => ?_⟩
 rotate_right
 ·obtain ⟨p1, t, cs, p2⟩ := h.pn g hg
  exact ⟨p1, t, cs, cutS_keep hL0 p2⟩
 ·obtain ⟨g1, g2⟩ := cutS_get he
  have hne : j ≠ k := fun e => g1 (e ▸ hL)
  refine (h.ents j e g2).step hm.size hkk (fun _ _ => rfl) rfl (fun b hb hlt => hother j e hne g2 b hb hlt) fun t cs hcs i hi => ?_
  subst hcs
  have hik : i ≠ k := fun e => by
   have h1 := hclean j _ he k hL
   have h2 := PV.rgmL_mentL i cs hi
   rw [e] at h2
   rw [show (Ent.box t cs).ment k = PV.mentL k cs from rfl, h2] at h1
   cases h1
  exact hreg i hik (h.rb j t cs g2 i hi)
 ·obtain ⟨_, g2⟩ := cutS_get he
  obtain ⟨x1, x2, x3⟩ := h.own j e g2 b hb
  exact ⟨Nat.lt_of_lt_of_le x1 hm.size, x2, x3⟩
 ·obtain ⟨q, h1, h2⟩ := cutE_get hp
  refine ⟨(h.env t q h1).1, ?_⟩
  rcases h2 with ⟨hcl, rfl⟩ | rfl
  ·refine (h.env t p h1).2.step hkk (fun _ _ => rfl) fun i hi => ?_
   have hik : i ≠ k := fun e => by
    have h3 := (List.all_eq_true.1 hcl) k hL
    rw [← e, PV.rgm_ment i p hi] at h3
    cases h3
   exact hreg i hik (h.rg t p h1 i hi)
  ·exact .d _ _ _ (R.undef _)
 ·refine h.frm.trans hm.os hm.tape hm.output hm.size hm.drawn fun b h1 h2 => hm.out b (Nat.lt_of_lt_of_le h1 h.frm.size) fun hB => ?_
  rcases (h.own k .reg hk b hB).2.2 with h3 | h3
  ·omega
  ·exact h2 h3
 ·obtain ⟨q, h1, h2⟩ := cutE_get hp
  rcases h2 with ⟨hcl, rfl⟩ | rfl
  ·have hr := h.rg t p h1 j hj
   refine cutS_keep (fun hjL => ?_) hr
   have h3 := (List.all_eq_true.1 hcl) j hjL
   rw [PV.rgm_ment j p hj] at h3
   cases h3
  ·simp [PV.rgm] at hj
 ·obtain ⟨_, g2⟩ := cutS_get hj
  refine cutS_keep (fun hiL => ?_) (h.rb j t cs g2 i hi)
  have h3 := hclean j _ hj i hiL
  have h4 := PV.rgmL_mentL i cs hi
  rw [show (Ent.box t cs).ment i = PV.mentL i cs from rfl, h4] at h3
  cases h3
theorem StR.shut (h : StR S ρ a w σ st) {k : Nat} {fr : Bool} {e : TypeId} {m : Mem} (hke : aget st k = some (.arr fr e m)) :
  StR (S.shut w h.frm.size fun b => b = (ρ k).1 ∧ 0 < (ρ k).2) ρ a w σ (adel st k) := by
 have hlow : ∀ b, liveO (S.shut w h.frm.size fun b => b = (ρ k).1 ∧ 0 < (ρ k).2).O ρ (adel st k) b → liveO S.O ρ st b := by
  intro b hb
  rcases hb with (hb | hb) | ⟨j, e1, hj, hb⟩
  ·exact .inl hb
  ·exact .inr ⟨k, _, hke, hb⟩
  ·exact .inr ⟨j, e1, (aget_adel hj).2, hb⟩
 have hk : ∀ b, b < w.heap.size → ¬ liveO S.O ρ st b → w.heap[b]? = w.heap[b]? ∧ ¬ liveO (S.shut w h.frm.size fun b => b = (ρ k).1 ∧ 0 < (ρ k).2).O ρ (adel st k) b :=
  fun b _ hn => ⟨rfl, fun h3 => hn (hlow b h3)⟩
 have hnk : ∀ j, aget st j = some .reg → j ≠ k := fun j hj e1 => by rw [e1, hke] at hj; cases hj
 refine ⟨h.sz, h.dfr, fun b hb => ?_, fun j e1 he => ?_, fun j e1 he b hb => ?_, fun j j' e1 e2 h1 h2 => h.inj j j' e1 e2 (aget_adel h1).2 (aget_adel h2).2, fun t p hp => ⟨(h.env t p hp).1, ?_⟩,
  ⟨rfl, rfl, rfl, Nat.le_refl _, Nat.le_refl _, fun _ _ _ => rfl⟩, fun t p hp j hj => ?_, fun k' t cs hk' j hj => ?_, fun _ hg => by cases hg⟩
 ·rcases hb with hb | hb
  ·exact Nat.lt_of_lt_of_le (h.ob b hb) h.frm.size
  ·exact (h.own k _ hke b hb).1
 ·exact (h.ents j e1 (aget_adel he).2).step (Nat.le_refl _) hk (fun _ _ => rfl) rfl (fun _ _ _ => rfl) (fun _ _ _ _ _ _ _ _ _ => rfl)
 ·obtain ⟨x1, x2, _⟩ := h.own j e1 (aget_adel he).2 b hb
  refine ⟨x1, fun ho => ?_, .inr trivial⟩
  rcases ho with ho | ho
  ·exact x2 ho
  ·exact (aget_adel he).1 (h.inj j k e1 _ (aget_adel he).2 hke b hb ho)
 ·exact (h.env t p hp).2.step hk (fun _ _ => rfl) (fun _ _ _ _ _ _ => rfl)
 ·have hr := h.rg t p hp j hj
  rw [aget_adel_ne st (hnk j hr)]; exact hr
 ·have hr := h.rb k' t cs (aget_adel hk').2 j hj
  rw [aget_adel_ne st (hnk j hr)]; exact hr
def backV (ret : Bool) (ad : Option Addr) (n cap : Nat) : Value :=
 match ret with
 | true => .slice ad n cap
 | false => .tuple #[]
def backP (ret : Bool) (k n : Nat) : PV :=
 match ret with
 | true => .own k n
 | false => .d false .undef
def PU (P : Program) (f : FuncId) (e : TypeId) (m m' : Mem) (rest : List D) (ret : Bool) : Prop :=
 Body P f ∧ m'.width = m.width ∧ m'.len ≤ m.len ∧ ∀ (w : World) (O : Nat → Prop) (ad : Option Addr) (g cap : Nat) (cur : Array Value) (vs : List Value),
  (ad = some ⟨g, 0, none⟩ ∨ (ad = none ∧ m.len = 0 ∧ cap = 0)) → (0 < cap → w.heap[g]? = some (.cells cur e (0, 0))) → cap ≤ maxLen → cur.size = cap * m.width → m.len ≤ cap →
  (∀ b, O b → b < w.heap.size) → (0 < cap → O g) →
  (∀ i c, i < m.len → c < m.width → ∃ u, cur[i * m.width + c]? = some u ∧ R w.cell? O u (m.get i c)) → All2 (R w.cell? O) vs rest →
  Calls P f (.slice ad m.len cap :: vs).toArray w fun en w' => en = .returned (backV ret ad m'.len cap) ∧
   w'.os = w.os ∧ w'.tape = w.tape ∧ w'.output = w.output ∧ w.heap.size ≤ w'.heap.size ∧ w.drawn ≤ w'.drawn ∧ (∀ b, b < w.heap.size → ¬ (b = g ∧ 0 < cap) → w'.heap[b]? = w.heap[b]?) ∧
   ∃ cur' : Array Value, (0 < cap → w'.heap[g]? = some (.cells cur' e (0, 0))) ∧ cur'.size = cap * m.width ∧
    ∀ i, i < m'.len → ∃ j, j < m.len ∧ ∀ c, c < m.width → m'.get i c = m.get j c ∧ cur'[i * m.width + c]? = cur[j * m.width + c]?
theorem StR.turned (h : StR S ρ a w σ st) {k : Nat} {fr : Bool} {e : TypeId} {m m' : Mem} (hke : aget st k = some (.arr fr e m)) (hwd : m'.width = m.width) (hln : m'.len ≤ m.len) {cur : Array Value}
  (hcur : 0 < (ρ k).2 → w.heap[(ρ k).1]? = some (.cells cur e (0, 0))) (hrow : ∀ i c, i < m.len → c < m.width → ∃ v, cur[i * m.width + c]? = some v ∧ RD w (liveO S.O ρ st) S.F fr v (m.get i c))
  {w' : World} (hos : w'.os = w.os) (ht : w'.tape = w.tape) (ho : w'.output = w.output) (hs : w.heap.size ≤ w'.heap.size) (hdr : w.drawn ≤ w'.drawn)
  (hb : ∀ b, b < w.heap.size → ¬ (b = (ρ k).1 ∧ 0 < (ρ k).2) → w'.heap[b]? = w.heap[b]?) {cur' : Array Value} (hcur' : 0 < (ρ k).2 → w'.heap[(ρ k).1]? = some (.cells cur' e (0, 0)))
  (hsz : cur'.size = (ρ k).2 * m.width) (hnew : ∀ i, i < m'.len → ∃ j, j < m.len ∧ ∀ c, c < m.width → m'.get i c = m.get j c ∧ cur'[i * m.width + c]? = cur[j * m.width + c]?) :
  StR S ρ a w' σ ((k, .arr fr e m') :: adel st k) := by
 obtain ⟨_, _, e2, _, e4, _⟩ := h.ents k _ hke
 have hlow : ∀ b, liveO S.O ρ ((k, .arr fr e m') :: adel st k) b → liveO S.O ρ st b := by
  intro b h3
  rcases h3 with h3 | ⟨j, e1, hj, hbj⟩
  ·exact .inl h3
  ·rcases aget_cons hj with ⟨rfl, rfl⟩ | ⟨_, hj⟩
   ·exact .inr ⟨j, _, hke, hbj⟩
   ·exact .inr ⟨j, e1, (aget_adel hj).2, hbj⟩
 by_cases hpos : 0 < (ρ k).2
 ·have hok : EntOk (w.setRow (ρ k).1 cur') (liveO S.O ρ ((k, .arr fr e m') :: adel st k)) S.F ρ k (.arr fr e m') := by
   refine ⟨cur', fun _ => setRow_heap w _ cur _ _ _ (hcur hpos), e2, by rw [hsz, hwd], by omega, fun i c hi hc => ?_⟩
   obtain ⟨j, hj, hjc⟩ := hnew i hi
   rw [hwd] at hc ⊢
   obtain ⟨g1, g2⟩ := hjc c hc
   obtain ⟨v, hv, hd⟩ := hrow j c hj hc
   refine ⟨v, by rw [g2, hv], ?_⟩
   rw [g1]
   exact hd.step fun b hb hn => ⟨setRow_other w _ b _ fun ee => hn (.inr ⟨k, _, hke, ee, hpos⟩), fun h3 => hn (hlow b h3)⟩
  have hw1 := h.write k (.arr fr e m) (.arr fr e m') hke (w' := w.setRow (ρ k).1 cur') rfl rfl rfl (by simp) (fun b _ hne => setRow_other w _ b _ fun ee => hne ⟨ee, hpos⟩)
   (fun _ => Iff.rfl) (by simp) (fun t cs he => by cases he) hok
  refine hw1.later hos ht ho (by simpa using hs) (fun b hb1 => ?_) hdr
  by_cases hbk : b = (ρ k).1
  ·rw [hbk, hcur' hpos, setRow_heap w _ cur _ _ _ (hcur hpos)]
  ·rw [setRow_other w _ b _ hbk]
   exact hb b (by simpa using hb1) fun hh => hbk hh.1
 ·have hz : (ρ k).2 = 0 := by omega
  have hok : EntOk w (liveO S.O ρ ((k, .arr fr e m') :: adel st k)) S.F ρ k (.arr fr e m') :=
   ⟨cur', fun hp => absurd hp hpos, e2, by rw [hsz, hwd], by omega, fun i c hi hc => by omega⟩
  have hw1 := h.write k (.arr fr e m) (.arr fr e m') hke (w' := w) rfl rfl rfl rfl (fun b _ _ => rfl) (fun _ => Iff.rfl) (by simp) (fun t cs he => by cases he) hok
  exact hw1.later hos ht ho hs (fun b hb1 => hb b hb1 fun hh => hpos hh.2) hdr
def PO (P : Program) (f : FuncId) (e : TypeId) (xs ys : List Int) (rest : List D) : Prop :=
 Body P f ∧ ∀ (w : World) (O : Nat → Prop) (ad : Option Addr) (g cap : Nat) (cur : Array Value) (vs : List Value),
  (ad = some ⟨g, 0, none⟩ ∨ (ad = none ∧ xs.length = 0 ∧ cap = 0)) → (0 < cap → w.heap[g]? = some (.cells cur e (0, 0))) → cap ≤ maxLen → cur.size = cap → xs.length ≤ cap →
  (∀ i, i < xs.length → cur[i]? = some (.int .i64 (xs.getD i 0))) → All2 (R w.cell? O) vs rest →
  Calls P f (.slice ad xs.length cap :: vs).toArray w fun en w' => ∃ v, en = .returned v ∧ Bel w.heap.size w w' ∧ ((v = .slice ad xs.length cap ∧ ys = xs) ∨ ResOk w.heap.size w' v (.one (.own e (.ints ys))))
inductive MO where
 | kill (n : Int)
 | wr (ys : List Int) (n : Int)
 | up (m' : Mem) (ret : Bool)
 | vcall (r : Res)
 | wv (ys : List Int) (n : Int)
 | cell (ds' : List D) (r : Res)
 | put (ys : List Int)
def flatRs : List Re → Option (List PV)
 | [] => some []
 | .d x :: r => match x.flats, flatRs r with
  | true, some ps => some (.d true x :: ps)
  | _, _ => none
 | _ => none
def resV (dst : Nat) : Res → Option (PV × List Int)
 | .one (.d (.sl (.ints xs))) => some (.vw dst xs.length, xs)
 | .tup (.d (.sl (.ints xs)) :: rs) => match flatRs rs with
  | some ps => some (.tup (.vw dst xs.length :: ps), xs)
  | none => none
 | _ => none
theorem view_form {w' : World} {Q : Nat → Prop} {B0 : Nat} {v : Value} {xs : List Int} (h : R (ucell w') (fun b => Q b ∨ b < B0) v (.sl (.ints xs))) :
  ∃ g o, (∀ i, i < xs.length → ucell w' ⟨g, o + i, none⟩ = some (.int .i64 (xs.getD i 0))) ∧ (0 < xs.length → B0 ≤ g ∧ g < w'.heap.size) ∧
   ∀ (W : World) (O base : Nat → Prop) (ρ : Nat → Nm) (k : Nat), ρ k = nm g o → RP W O base ρ v (.vw k xs.length) := by
 cases h with
 | slnil _ h0 =>
  have h0 : xs.length = 0 := h0
  refine ⟨0, 0, fun i hi => by omega, fun hp => by omega, fun W O base ρ k _ => ?_⟩
  rw [h0]
  exact .vwN k _ (.inl rfl)
 | sl _ ad n cap hn hcap f hc hr =>
  have hn : n = xs.length := hn
  subst hn
  by_cases hp : 0 < xs.length
  ·have h1 := hc 0 0 hp (by simp [Mem.width])
   have hsp : ad.spot = none := by
    have h2 := (ucell_some h1.1).1
    rw [show 0 * (Mem.ints xs).width + 0 = 0 by simp, show ad.add 0 = ad by simp [Addr.add]] at h2
    unfold World.cell? at h2
    split at h2
    ·split at h2
     ·cases h2
     ·rename_i h3
      cases hs : ad.spot with
      | none => rfl
      | some _ => rw [hs] at h3; simp at h3
    ·cases h2
   obtain ⟨g, o, sp⟩ := ad
   simp only at hsp
   subst hsp
   have hcell : ∀ i, i < xs.length → ucell w' ⟨g, o + i, none⟩ = some (.int .i64 (xs.getD i 0)) ∧ ¬ (Q g ∨ g < B0) := by
    intro i hi
    obtain ⟨h2, h3⟩ := hc i 0 hi (by simp [Mem.width])
    rw [show i * (Mem.ints xs).width + 0 = i by simp [Mem.width], add_litO] at h2
    have h4 := hr i 0 hi (by simp [Mem.width])
    have h5 : f i 0 = .int .i64 (xs.getD i 0) := by
     have h4 : R (ucell w') _ (f i 0) (.int .i64 (xs.getD i 0)) := h4
     revert h4
     generalize f i 0 = u
     generalize xs.getD i 0 = z
     intro h4
     cases h4
     rfl
    exact ⟨h5 ▸ h2, h3⟩
   refine ⟨g, o, fun i hi => (hcell i hi).1, fun _ => ⟨Nat.le_of_not_lt fun h4 => (hcell 0 hp).2 (.inr h4), ucell_lt (hcell 0 hp).1⟩, fun W O base ρ k hk => ?_⟩
   have e : (⟨g, o, none⟩ : Addr) = ⟨(ρ k).1, (ρ k).2, none⟩ := by rw [hk]
   rw [e]
   exact .vw k _ cap hcap
  ·have h0 : xs.length = 0 := by omega
   refine ⟨0, 0, fun i hi => by omega, fun hp => by omega, fun W O base ρ k _ => ?_⟩
   rw [h0]
   exact .vwN k _ (.inr ⟨ad, cap, rfl⟩)
theorem flatRs_get : ∀ {rs : List Re} {ps : List PV}, flatRs rs = some ps → ps.length = rs.length ∧ ∀ (j : Nat) (p : PV), ps[j]? = some p → ∃ x, p = .d true x ∧ x.flats = true ∧ rs[j]? = some (.d x)
 | [], ps, h => by
  simp only [flatRs, Option.some.injEq] at h
  subst h
  exact ⟨rfl, fun j p hp => by simp at hp⟩
 | .d x :: r, ps, h => by
  simp only [flatRs] at h
  split at h
  ·rename_i qs hf hq
   simp only [Option.some.injEq] at h
   subst h
   obtain ⟨h1, h2⟩ := flatRs_get hq
   refine ⟨by simp [h1], fun j p hp => ?_⟩
   cases j with
   | zero => simp at hp; subst hp; exact ⟨x, rfl, hf, rfl⟩
   | succ j => exact h2 j p (by simpa using hp)
  ·cases h
 | .own e m :: r, ps, h => by simp [flatRs] at h
theorem flatRs_rgm {rs : List Re} {ps : List PV} (h : flatRs rs = some ps) (j : Nat) : PV.rgmL j ps = false := by
 have key : ∀ (l : List PV), (∀ (i : Nat) (p : PV), l[i]? = some p → ∃ x, p = .d true x) → PV.rgmL j l = false := by
  intro l
  induction l with
  | nil => intro _; rfl
  | cons q r ih =>
   intro hl
   obtain ⟨x, rfl⟩ := hl 0 q rfl
   simp only [PV.rgmL, PV.rgm, Bool.false_or]
   exact ih fun i p hp => hl (i + 1) p (by simpa using hp)
 exact key ps fun i p hp => let ⟨x, h1, _⟩ := (flatRs_get h).2 i p hp; ⟨x, h1⟩
theorem call_inV (h : StR S ρ a w σ st) (hd : ∀ d, o.dst = some d → d < S.n) {w' : World} {v : Value} {r : Res} {dst : Nat} {p : PV} {xs : List Int} (hb : Bel w.heap.size w w') (hr : ResOk w.heap.size w' v r)
  (hV : resV dst r = some (p, xs)) (hnew : newOk σ st [(dst, .vw xs)] = true) : ∃ ρ', StR S ρ' (a.put o.dst v) w' (eput σ o.dst p) ((dst, .vw xs) :: st) := by
 obtain ⟨ρr, vs, hv, hl, _, hok⟩ := hr
 obtain ⟨n1, n2⟩ := newOk_one hnew
 have hne : ∀ j e, aget st j = some e → dst ≠ j := fun j e he ej => by rw [← ej, n2] at he; cases he
 have hv0 : ∃ v0, vs[0]? = some v0 ∧ R (ucell w') (fun b => ownB ρr r.list b ∨ b < w.heap.size) v0 (.sl (.ints xs)) := by
  cases r with
  | one x =>
   unfold resV at hV
   split at hV
   ·rename_i ys heq
    cases heq
    simp only [Option.some.injEq, Prod.mk.injEq] at hV
    obtain ⟨_, rfl⟩ := hV
    have hl : vs.length = 1 := hl
    exact ⟨vs[0], List.getElem?_eq_getElem (by omega), hok 0 _ _ (List.getElem?_eq_getElem (by omega)) rfl⟩
   ·rename_i heq; cases heq
   ·cases hV
  | agg rs => simp [resV] at hV
  | tup rs =>
   unfold resV at hV
   split at hV
   ·rename_i heq; cases heq
   ·rename_i ys rs' heq
    cases heq
    split at hV
    ·simp only [Option.some.injEq, Prod.mk.injEq] at hV
     obtain ⟨_, rfl⟩ := hV
     have hl : vs.length = rs'.length + 1 := hl
     exact ⟨vs[0], List.getElem?_eq_getElem (by omega), hok 0 _ _ (List.getElem?_eq_getElem (by omega)) rfl⟩
    ·cases hV
   ·cases hV
 obtain ⟨v0, h0, hR⟩ := hv0
 obtain ⟨g, oo, f1, f2, f3⟩ := view_form hR
 have h2 : StR S (upd ρ dst (nm g oo)) a w' σ ((dst, .vw xs) :: st) := by
  refine h.call hb (fun j e hj => ?_) (fun j e hj => ?_) (fun j j' e e' q1 q2 g1 g2 b _ _ => ?_) (fun t p hp j hj => ?_) (fun t e he j hj => ?_)
  ·rcases aget_cons hj with ⟨hjd, he⟩ | ⟨hjd, hj⟩
   ·subst hjd he
    refine .inr ⟨n2, fun b hbk => ?_, by simp, ?_⟩
    ·rw [upd_same] at hbk
     obtain ⟨e1, e2⟩ := hbk
     rw [e1]
     exact f2 e2
    ·rw [EntOk, upd_same]; exact f1
   ·exact .inl ⟨hj, upd_ne ρ _ hjd⟩
  ·rw [aget_cons_ne (hne j e hj)]; exact hj
  ·rcases aget_cons g1 with ⟨e1, _⟩ | ⟨_, g1⟩
   ·rcases aget_cons g2 with ⟨e2, _⟩ | ⟨_, g2⟩
    ·rw [e1, e2]
    ·rw [q2] at g2; cases g2
   ·rw [q1] at g1; cases g1
  ·exact upd_ne ρ _ fun e => by rw [e, unment_env n1 hp] at hj; cases hj
  ·exact upd_ne ρ _ fun e => by rw [e, unment_st n1 he] at hj; cases hj
 have hview := f3 w' (liveO S.O (upd ρ dst (nm g oo)) ((dst, .vw xs) :: st)) S.F (upd ρ dst (nm g oo)) dst (upd_same _ _ _)
 refine ⟨_, h2.val o.dst v _ hd ?_ ?_⟩
 ·cases r with
  | one x =>
   have hvv : v = v0 := by rw [hv]; simp [Res.value, List.getD, h0]
   unfold resV at hV
   split at hV
   ·simp only [Option.some.injEq, Prod.mk.injEq] at hV
    obtain ⟨rfl, rfl⟩ := hV
    rw [hvv]
    exact hview
   ·rename_i heq; cases heq
   ·cases hV
  | agg rs => simp [resV] at hV
  | tup rs =>
   have hvv : v = .tuple vs.toArray := hv
   unfold resV at hV
   split at hV
   ·rename_i heq; cases heq
   ·rename_i ys rs' heq
    cases heq
    split at hV
    ·rename_i ps hps
     simp only [Option.some.injEq, Prod.mk.injEq] at hV
     obtain ⟨rfl, rfl⟩ := hV
     obtain ⟨p1, p2⟩ := flatRs_get hps
     rw [hvv]
     have hl : vs.length = rs'.length + 1 := hl
     refine .tup vs _ (by simp [p1, hl]) fun i u q hu hq => ?_
     cases i with
     | zero =>
      rw [h0] at hu
      simp at hu hq
      subst hu hq
      exact hview
     | succ i =>
      obtain ⟨x, rfl, hxf, hx⟩ := p2 i q (by simpa using hq)
      have hR2 := hok (i + 1) u (.d x) hu (by simpa [Res.list] using hx)
      exact .d _ _ _ (RD.mk hR2 hxf)
    ·cases hV
   ·cases hV
 ·intro j hj
  exfalso
  unfold resV at hV
  split at hV
  ·simp only [Option.some.injEq, Prod.mk.injEq] at hV
   obtain ⟨rfl, _⟩ := hV
   simp [PV.rgm] at hj
  ·split at hV
   ·rename_i ps hps
    simp only [Option.some.injEq, Prod.mk.injEq] at hV
    obtain ⟨rfl, _⟩ := hV
    simp only [PV.rgm, PV.rgmL, Bool.false_or] at hj
    rw [flatRs_rgm hps] at hj
    cases hj
   ·cases hV
  ·cases hV
def cellRun (P : Program) (f : FuncId) (ds' : List D) (r : Res) (d : Nat) (q : Operand → PV) (x : Operand) (xs : List Operand) (dst : Option Tmp) (σ : Env) (st : Store) : List Prop × Env × Store :=
 match q x with
 | .ptr k 0 =>
  match aget st k with
  | some (.box t (.d fr y :: cs)) =>
   match cellDs cs, flatDs ds' && newOk σ ((k, .box t (.d fr y :: ds'.map (.d true))) :: adel st k) (resNew d 0 r.list) with
   | some ds, true => (snapL (adel st k) (xs.map q) ++ [PK P f t y.unl ds ds' ((xs.map q).map (snapV 4 (adel st k))) r],
     eput σ dst (resPV d r), resNew d 0 r.list ++ ((k, .box t (.d fr y :: ds'.map (.d true))) :: adel st k))
   | _, _ => ([False], σ, st)
  | _ => ([False], σ, st)
 | _ => ([False], σ, st)
def markRun (P : Program) (mo : MO) (o : Oper) (σ : Env) (st : Store) : List Prop × Env × Store :=
 match o.guard, o.op with
 | none, .call c =>
  match c.callee, c.args.toList with
  | .value (.func f), x :: xs =>
   match mo with
   | .kill n =>
    match regOf (evP σ x) with
    | some k =>
     match aget st k, cleanS (k :: holders k st) (cutS (k :: holders k st) st) && (k :: holders k st).all (fun j => !Nat.beq j 0) with
     | some .reg, true => ([PG P f ((x :: xs).map fun y => mvOf k (evP σ y)) n], eput (cutE (k :: holders k st) σ) o.dst (.d true (.int .i64 n)), cutS (k :: holders k st) st)
     | _, _ => ([False], σ, st)
    | none => ([False], σ, st)
   | .wr ys r =>
    match xs with
    | [y] =>
     match evP σ x, evP σ y with
     | .own k n, .d _ (.int .i64 m) =>
      match aget st k with
      | some (.arr fr e (.ints zs)) => ([n = zs.length, ys.length = zs.length, PW P f e zs ys m r], eput σ o.dst (.d true (.int .i64 r)), (k, .arr fr e (.ints ys)) :: adel st k)
      | _ => ([False], σ, st)
     | _, _ => ([False], σ, st)
    | _ => ([False], σ, st)
   | .up m' ret =>
    match evP σ x with
    | .own k n =>
     match aget st k with
     | some (.arr fr e m) => ((n = m.len) :: (snapL (adel st k) (xs.map (evP σ)) ++ [PU P f e m m' ((xs.map (evP σ)).map (snapV 4 (adel st k))) ret]), eput σ o.dst (backP ret k m'.len), (k, .arr fr e m') :: adel st k)
     | _ => ([False], σ, st)
    | _ => ([False], σ, st)
   | .vcall r =>
    match o.dst with
    | some d =>
     match resV d r with
     | some (p, ys) =>
      match newOk σ st [(d, .vw ys)] with
      | true => (snapL st ((x :: xs).map (evP σ)) ++ [PC P f (((x :: xs).map (evP σ)).map (snapV 4 st)) r], eput σ o.dst p, (d, .vw ys) :: st)
      | false => ([False], σ, st)
     | none => ([False], σ, st)
    | none => ([False], σ, st)
   | .wv ys r =>
    match xs with
    | [y] =>
     match evP σ x, evP σ y with
     | .vw k n, .d _ (.int .i64 m) =>
      match aget st k with
      | some (.vw zs) => ([n = zs.length, ys.length = zs.length, PX P f zs ys m r], eput σ o.dst (.d true (.int .i64 r)), (k, .vw ys) :: adel st k)
      | _ => ([False], σ, st)
     | _, _ => ([False], σ, st)
    | _ => ([False], σ, st)
   | .cell ds' r => cellRun P f ds' r (o.dst.getD 0) (evP σ) x xs o.dst σ st
   | .put ys =>
    match o.dst, evP σ x with
    | some d, .own k n =>
     match aget st k with
     | some (.arr fr e (.ints zs)) =>
      match newOk σ (adel st k) [(d, .arr true e (.ints ys))] && newOk σ st [(d, .arr true e (.ints ys))] && !Nat.beq k d with
      | true => ((n = zs.length) :: (snapL st (xs.map (evP σ)) ++ [PO P f e zs ys ((xs.map (evP σ)).map (snapV 4 st))]), eput σ o.dst (.own d ys.length), (d, .arr true e (.ints ys)) :: adel st k)
      | false => ([False], σ, st)
     | _ => ([False], σ, st)
    | _, _ => ([False], σ, st)
  | _, _ => ([False], σ, st)
 | _, _ => ([False], σ, st)
theorem false_in {α : Prop} (h : ∀ q ∈ [False], q) : α := (h False (List.mem_singleton.2 rfl)).elim
theorem call_exec {P : Program} {f : FuncId} {c : Call} (ho : o.op = .call c) (hc : c.callee = .value (.func f)) (hb : Body P f) : (execOp a.eval o).run P w = .ok (.enter f (c.args.map a.eval)) w := by
 have e : (execOp a.eval o) = callFunc f (c.args.map a.eval) := by
  simp [execOp, ho, resolve, hc, Act.eval, Deferred.ofValue, invoke]
 rw [e]
 exact hb.run _ _
theorem cell_wp (h : StR S ρ a w σ st) (hd : ∀ d, o.dst = some d → d < S.n) {c : Call} {f : FuncId} {x : Operand} {xs : List Operand} {ds' : List D} {r : Res} {d : Nat} {q : Operand → PV} {K : Act → World → Prop} {Q : Exit → Act → World → Prop}
  (ho : o.op = .call c) (hc : c.callee = .value (.func f)) (hargs : c.args = (x :: xs).toArray)
  (hq : ∀ y ∈ x :: xs, ∀ {S' : Setting} {st' : Store}, StR S' ρ a w σ st' → RPs S' ρ w st' (a.eval y) (q y))
  (hp : ∀ p ∈ (cellRun S.P f ds' r d q x xs o.dst σ st).1, p) (hK : ∀ ρ' a' w', StR S ρ' a' w' (cellRun S.P f ds' r d q x xs o.dst σ st).2.1 (cellRun S.P f ds' r d q x xs o.dst σ st).2.2 → K a' w') : o.wp S.P a w K Q := by
 unfold cellRun at hp hK
 split at hp
 rotate_left
 ·exact false_in hp
 rename_i k hx1
 simp only [hx1] at hK
 split at hp
 rotate_left
 ·exact false_in hp
 rename_i t fr y cs hk
 simp only [hk] at hK
 split at hp
 rotate_left
 ·exact false_in hp
 rename_i ds hcs hfn
 simp only [hcs, hfn] at hK
 simp only [Bool.and_eq_true] at hfn
 obtain ⟨hflat, hnew⟩ := hfn
 have hsn : ∀ p ∈ snapL (adel st k) (xs.map q), p := fun p hq => hp p (List.mem_append_left _ hq)
 have hpk : PK S.P f t y.unl ds ds' ((xs.map q).map (snapV 4 (adel st k))) r := hp _ (List.mem_append_right _ (List.mem_singleton.2 rfl))
 have hs := h.shutG hk (by simp)
 have hrest : All2 (R w.cell? (fun b => S.O b ∨ blk (.box t (.d fr y :: cs)) (ρ k) b)) (xs.map a.eval) ((xs.map q).map (snapV 4 (adel st k))) := by
  refine ⟨by simp, fun j v d hv hd => ?_⟩
  simp only [List.getElem?_map, Option.map_eq_some_iff] at hv hd
  obtain ⟨y, hy, rfl⟩ := hv
  obtain ⟨p, ⟨y', hy', rfl⟩, rfl⟩ := hd
  rw [hy] at hy'; cases hy'
  exact snap_ok hs 4 _ _ (hq _ (List.mem_cons_of_mem _ (List.mem_of_getElem? hy)) hs) (snapL_P (adel st k) _ hsn _ (List.mem_map_of_mem (List.mem_of_getElem? hy)))
 have hvx := hq x List.mem_cons_self h
 rw [hx1] at hvx
 have hv : a.eval x = .pointer (some ⟨(ρ k).1, 0, none⟩) := by
  revert hvx
  generalize a.eval x = u
  intro hvx
  cases hvx
  rfl
 unfold Oper.wp
 rw [call_exec ho hc hpk.1]
 have ea : c.args.map a.eval = (.pointer (some ⟨(ρ k).1, 0, none⟩) :: xs.map a.eval).toArray := by rw [hargs, ← hv]; simp
 rw [ea]
 refine Calls.mono (cell_core h hd hk hcs hflat hnew hrest hpk hK) fun en w' he => ?_
 obtain ⟨v, rfl, hv2⟩ := he
 exact hv2
theorem mark_good (h : StR S ρ a w σ st) (hd : ∀ d, o.dst = some d → d < S.n) {mo : MO} :
  ∀ (K : Act → World → Prop) (Q : Exit → Act → World → Prop), (∀ q ∈ (markRun S.P mo o σ st).1, q) → (∀ ρ' a' w', StR S ρ' a' w' (markRun S.P mo o σ st).2.1 (markRun S.P mo o σ st).2.2 → K a' w') → o.wp S.P a w K Q := by
 intro K Q
 unfold markRun
 split
 rotate_left
 ·exact fun hp => false_in hp
 rename_i c hg ho
 split
 rotate_left
 ·exact fun hp => false_in hp
 rename_i f x xs hc hx
 have hargs : c.args = (x :: xs).toArray := by rw [← hx]
 cases mo with
 | kill n =>
  dsimp only
  split
  rotate_left
  ·exact fun hp => false_in hp
  rename_i k hk
  split
  rotate_left
  ·exact fun hp => false_in hp
  rename_i hr hcl
  simp only [Bool.and_eq_true] at hcl
  obtain ⟨hcl, hc0⟩ := hcl
  have hL0 : (0 : Nat) ∉ k :: holders k st := fun h0 => by have := (List.all_eq_true.1 hc0) 0 h0; simp [beq_self] at this
  intro hp hK
  obtain ⟨hbody, hcall⟩ := hp _ (List.mem_singleton.2 rfl)
  unfold Oper.wp
  rw [call_exec ho hc hbody]
  have hall : All2 (RM w (fun b => (ρ k).1 ≤ b ∧ b < (ρ k).2) ⟨0, 0, none⟩) ((x :: xs).map a.eval) ((x :: xs).map fun y => mvOf k (evP σ y)) := by
   refine ⟨by simp, fun j v p hv hq => ?_⟩
   simp only [List.getElem?_map, Option.map_eq_some_iff] at hv hq
   obtain ⟨y, hy, rfl⟩ := hv
   obtain ⟨y', hy', rfl⟩ := hq
   rw [hy] at hy'; cases hy'
   exact mvOf_ok (evP_ok h y)
  have hlt := h.ents k _ hr
  have := hcall w _ ⟨0, 0, none⟩ _ (fun b hb => Nat.lt_of_lt_of_le hb.2 hlt.2) hall
  have e : c.args.map a.eval = ((x :: xs).map a.eval).toArray := by rw [hargs]; simp
  rw [e]
  refine Calls.mono this fun en w' he => ?_
  obtain ⟨rfl, hm⟩ := he
  exact hK ρ _ _ ((h.killed hr List.mem_cons_self hL0 hcl hm).val o.dst _ _ hd (.d _ _ _ (RD.mk (g := w'.cell?) (O1 := fun _ => False) (.int _ _) rfl)) (fun _ hj => by simp [PV.rgm] at hj))
 | wr ys r =>
  dsimp only
  split
  rotate_left
  ·exact fun hp => false_in hp
  rename_i y
  split
  rotate_left
  ·exact fun hp => false_in hp
  rename_i k n fr0 m hx1 hy1
  split
  rotate_left
  ·exact fun hp => false_in hp
  rename_i fr e zs hk
  intro hp hK
  have hn : n = zs.length := hp _ (by simp)
  have hl : ys.length = zs.length := hp _ (by simp)
  obtain ⟨hbody, hcall⟩ : PW S.P f e zs ys m r := hp _ (by simp)
  have hvx := evP_ok h x
  have hvy := evP_ok h y
  rw [hx1] at hvx
  rw [hy1] at hvy
  have hvy := RPs.int_inv hvy
  obtain ⟨cur, e1, e2, e3, e4, e5⟩ := h.ents k _ hk
  have e3 : cur.size = (ρ k).2 := by simpa [Mem.width] using e3
  have e4 : zs.length ≤ (ρ k).2 := e4
  have hv : a.eval x = .slice (some ⟨(ρ k).1, 0, none⟩) zs.length (ρ k).2 ∨ (a.eval x = .slice none 0 0 ∧ zs.length = 0 ∧ (ρ k).2 = 0) := by
   rw [← hn]
   revert hvx
   generalize a.eval x = u
   intro hvx
   cases hvx with
   | own => exact .inl rfl
   | ownN _ hc => exact .inr ⟨rfl, rfl, hc⟩
  have := hcall w (a.eval x) (ρ k).1 (ρ k).2 cur hv e1 e2 e3 e4 fun i hi => by
   obtain ⟨v, hv1, hv2⟩ := e5 i 0 hi (by simp [Mem.width])
   have : v = .int .i64 (zs.getD i 0) := hv2.int_inv
   rw [← this, ← hv1]
   simp [Mem.width]
  unfold Oper.wp
  rw [call_exec ho hc hbody]
  have ea : c.args.map a.eval = #[a.eval x, .int .i64 m] := by rw [hargs, ← hvy]; simp
  rw [ea]
  refine Calls.mono this fun en w' he => ?_
  obtain ⟨rfl, h1, h2, h3, h4, hdr, h5, cur', h6, h7, h8⟩ := he
  have hw2 : StR S ρ a w' σ ((k, .arr fr e (.ints ys)) :: adel st k) := by
   by_cases hpos : 0 < (ρ k).2
   ·have hok : EntOk (w.setRow (ρ k).1 cur') (liveO S.O ρ ((k, .arr fr e (.ints ys)) :: adel st k)) S.F ρ k (.arr fr e (.ints ys)) := by
     refine ⟨cur', fun _ => setRow_heap w _ cur _ _ _ (e1 hpos), e2, by rw [h7]; simp [Mem.width], by show ys.length ≤ _; omega, fun i c hi hcw => ?_⟩
     have hc0 : c = 0 := by simp [Mem.width] at hcw; exact hcw
     subst hc0
     exact ⟨_, by simpa [Mem.width] using h8 i hi, RD.mk (g := w'.cell?) (O1 := fun _ => False) (.int _ _) rfl⟩
    have hw1 := h.write k (.arr fr e (.ints zs)) (.arr fr e (.ints ys)) hk (w' := w.setRow (ρ k).1 cur') rfl rfl rfl (by simp) (fun b _ hne => setRow_other w _ b _ fun ee => hne ⟨ee, hpos⟩)
     (fun _ => Iff.rfl) (by simp) (fun t cs he => by cases he) hok
    refine hw1.later h1 h2 h3 (by simpa using h4) (fun b hb => ?_) hdr
    by_cases hbk : b = (ρ k).1
    ·rw [hbk, h6 hpos, setRow_heap w _ cur _ _ _ (e1 hpos)]
    ·rw [setRow_other w _ b _ hbk]
     exact h5 b (by simpa using hb) fun hh => hbk hh.1
   ·have hz : (ρ k).2 = 0 := by omega
    have hok : EntOk w (liveO S.O ρ ((k, .arr fr e (.ints ys)) :: adel st k)) S.F ρ k (.arr fr e (.ints ys)) := by
     refine ⟨cur', fun hp => absurd hp hpos, e2, by rw [h7]; simp [Mem.width], by show ys.length ≤ _; omega, fun i c hi hcw => ?_⟩
     have hi : i < ys.length := hi
     omega
    have hw1 := h.write k (.arr fr e (.ints zs)) (.arr fr e (.ints ys)) hk (w' := w) rfl rfl rfl rfl (fun b _ _ => rfl) (fun _ => Iff.rfl) (by simp) (fun t cs he => by cases he) hok
    exact hw1.later h1 h2 h3 h4 (fun b hb => h5 b hb fun hh => hpos hh.2) hdr
  exact hK ρ _ _ (hw2.val o.dst _ _ hd (.d _ _ _ (RD.mk (g := w'.cell?) (O1 := fun _ => False) (.int _ _) rfl)) (fun _ hj => by simp [PV.rgm] at hj))
 | up m' ret =>
  dsimp only
  split
  rotate_left
  ·exact fun hp => false_in hp
  rename_i k n hx1
  split
  rotate_left
  ·exact fun hp => false_in hp
  rename_i fr e m hk
  intro hp hK
  have hn : n = m.len := hp _ (by simp)
  have hsn : ∀ q ∈ snapL (adel st k) (xs.map (evP σ)), q := fun q hq => hp q (by simp [hq])
  obtain ⟨hbody, hwd, hln, hcall⟩ : PU S.P f e m m' ((xs.map (evP σ)).map (snapV 4 (adel st k))) ret := hp _ (by simp)
  have hs := h.shut hk
  have hrest : All2 (R w.cell? (fun b => S.O b ∨ (b = (ρ k).1 ∧ 0 < (ρ k).2))) (xs.map a.eval) ((xs.map (evP σ)).map (snapV 4 (adel st k))) := by
   refine ⟨by simp, fun j v d hv hd => ?_⟩
   simp only [List.getElem?_map, Option.map_eq_some_iff] at hv hd
   obtain ⟨y, hy, rfl⟩ := hv
   obtain ⟨p, ⟨y', hy', rfl⟩, rfl⟩ := hd
   rw [hy] at hy'; cases hy'
   exact snap_ok hs 4 _ _ (evP_ok hs y) (snapL_P (adel st k) _ hsn _ (List.mem_map_of_mem (List.mem_of_getElem? hy)))
  have hvx := evP_ok h x
  rw [hx1] at hvx
  obtain ⟨cur, e1, e2, e3, e4, e5⟩ := h.ents k _ hk
  obtain ⟨ad, had, hv⟩ : ∃ ad : Option Addr, (ad = some ⟨(ρ k).1, 0, none⟩ ∨ (ad = none ∧ m.len = 0 ∧ (ρ k).2 = 0)) ∧ a.eval x = .slice ad m.len (ρ k).2 := by
   revert hvx
   generalize a.eval x = u
   intro hvx
   cases hvx with
   | own => exact ⟨_, .inl rfl, by rw [hn]⟩
   | ownN _ hc => exact ⟨none, .inr ⟨rfl, hn.symm, hc⟩, by rw [hc, ← hn]⟩
  have := hcall w _ ad (ρ k).1 (ρ k).2 cur (xs.map a.eval) had e1 e2 e3 e4 hs.ob (fun hp => .inr ⟨rfl, hp⟩) (fun i c hi hc => by
   obtain ⟨v, hv1, hv2⟩ := e5 i c hi hc
   refine ⟨v, hv1, hv2.plain.step fun b _ hb => ⟨rfl, fun ho => hb ?_⟩⟩
   rcases ho with ho | ho
   ·exact .inl ho
   ·exact .inr ⟨k, _, hk, ho⟩) hrest
  unfold Oper.wp
  rw [call_exec ho hc hbody]
  have ea : c.args.map a.eval = (.slice ad m.len (ρ k).2 :: xs.map a.eval).toArray := by rw [hargs, ← hv]; simp
  rw [ea]
  refine Calls.mono this fun en w' he => ?_
  obtain ⟨rfl, h1, h2, h3, h4, hdr, h5, cur', h6, h7, h8⟩ := he
  have hw2 := h.turned hk hwd hln e1 e5 h1 h2 h3 h4 hdr h5 h6 h7 h8
  refine hK ρ _ _ (hw2.val o.dst _ _ hd ?_ (fun _ hj => by cases ret <;> simp [backP, PV.rgm] at hj))
  cases ret with
  | true =>
   rcases had with rfl | ⟨rfl, h9, h10⟩
   ·exact .own _ _
   ·have h11 : m'.len = 0 := by omega
    show RP w' _ _ ρ (.slice none m'.len (ρ k).2) (.own k m'.len)
    rw [h11, h10]
    exact .ownN _ h10
  | false => exact .d _ _ _ (R.undef _)
 | vcall r =>
  dsimp only
  split
  rotate_left
  ·exact fun hp => false_in hp
  rename_i d hdst
  split
  rotate_left
  ·exact fun hp => false_in hp
  rename_i p ys hV
  split
  rotate_left
  ·exact fun hp => false_in hp
  rename_i hnew
  intro hp hK
  obtain ⟨hbody, hcall⟩ : PC S.P f (((x :: xs).map (evP σ)).map (snapV 4 st)) r := hp _ (by simp)
  have hsn : ∀ q ∈ snapL st ((x :: xs).map (evP σ)), q := fun q hq => hp q (List.mem_append_left _ hq)
  have hall : All2 (R w.cell? S.O) ((x :: xs).map a.eval) (((x :: xs).map (evP σ)).map (snapV 4 st)) := by
   refine ⟨by simp, fun j v q hv hq => ?_⟩
   simp only [List.getElem?_map, Option.map_eq_some_iff] at hv hq
   obtain ⟨y, hy, rfl⟩ := hv
   obtain ⟨p', ⟨y', hy', rfl⟩, rfl⟩ := hq
   rw [hy] at hy'; cases hy'
   exact snap_ok h 4 _ _ (evP_ok h y) (snapL_P st _ hsn _ (List.mem_map_of_mem (List.mem_of_getElem? hy)))
  have hob : ∀ b, S.O b → b < w.heap.size := fun b hb => Nat.lt_of_lt_of_le (h.ob b hb) h.frm.size
  unfold Oper.wp
  rw [call_exec ho hc hbody]
  have e : c.args.map a.eval = ((x :: xs).map a.eval).toArray := by rw [hargs]; simp
  rw [e]
  refine Calls.mono (hcall w S.O _ hob hall) fun en w' he => ?_
  obtain ⟨v, rfl, hb, hres⟩ := he
  obtain ⟨ρ', h2⟩ := call_inV h hd hb hres hV hnew
  exact hK ρ' _ _ h2
 | wv ys r =>
  dsimp only
  split
  rotate_left
  ·exact fun hp => false_in hp
  rename_i y
  split
  rotate_left
  ·exact fun hp => false_in hp
  rename_i k n fr0 m hx1 hy1
  split
  rotate_left
  ·exact fun hp => false_in hp
  rename_i zs hk
  intro hp hK
  have hn : n = zs.length := hp _ (by simp)
  have hl : ys.length = zs.length := hp _ (by simp)
  obtain ⟨hbody, hcall⟩ : PX S.P f zs ys m r := hp _ (by simp)
  have hvx := evP_ok h x
  have hvy := evP_ok h y
  rw [hx1] at hvx
  rw [hy1] at hvy
  have hvy := RPs.int_inv hvy
  have hent := h.ents k _ hk
  obtain ⟨ad, cap, had, hv⟩ : ∃ (ad : Option Addr) (cap : Nat), (0 < zs.length → ad = some ⟨(ρ k).1, (ρ k).2, none⟩) ∧ a.eval x = .slice ad zs.length cap := by
   revert hvx
   generalize a.eval x = u
   intro hvx
   cases hvx with
   | vw _ _ cap _ => exact ⟨_, cap, fun _ => rfl, by rw [hn]⟩
   | vwN _ _ hf =>
    rcases hf with rfl | ⟨ad, cap, rfl⟩
    ·exact ⟨none, 0, fun hp => by omega, by rw [← hn]⟩
    ·exact ⟨some ad, cap, fun hp => by omega, by rw [← hn]⟩
  have := hcall w (fun b => b = (ρ k).1 ∧ 0 < zs.length) ⟨(ρ k).1, (ρ k).2, none⟩ ad cap had (fun b hb => (h.own k _ hk b hb).1) (fun i hi => by
   rw [add_litO]
   exact ⟨hent i hi, rfl, by omega⟩)
  unfold Oper.wp
  rw [call_exec ho hc hbody]
  have ea : c.args.map a.eval = #[.slice ad zs.length cap, .int .i64 m] := by rw [hargs, ← hv, ← hvy]; simp
  rw [ea]
  refine Calls.mono this fun en w' he => ?_
  obtain ⟨rfl, hm, hy2⟩ := he
  have hw2 : StR S ρ a w' σ ((k, .vw ys) :: adel st k) := by
   refine h.writeG k (.vw zs) (.vw ys) hk hm.os hm.tape hm.output hm.size (fun b hb hn => hm.out b hb hn) (fun b => ?_) (by simp) (fun t cs he => by cases he) (fun i hi => ?_) hm.drawn
   ·show (b = (ρ k).1 ∧ 0 < ys.length) ↔ (b = (ρ k).1 ∧ 0 < zs.length)
    rw [hl]
   ·have := hy2 i hi
    rw [add_litO] at this
    exact this
  exact hK ρ _ _ (hw2.val o.dst _ _ hd (.d _ _ _ (RD.mk (g := w'.cell?) (O1 := fun _ => False) (.int _ _) rfl)) (fun _ hj => by simp [PV.rgm] at hj))
 | cell ds' r =>
  dsimp only
  exact fun hp hK => cell_wp h hd ho hc hargs (fun y _ _ _ h' => evP_ok h' y) hp hK
 | put ys =>
  dsimp only
  split
  rotate_left
  ·exact fun hp => false_in hp
  rename_i d k n hdst hx1
  split
  rotate_left
  ·exact fun hp => false_in hp
  rename_i fr e zs hk
  split
  rotate_left
  ·exact fun hp => false_in hp
  rename_i hnew
  simp only [Bool.and_eq_true, Bool.not_eq_true'] at hnew
  obtain ⟨⟨hn1, hn2⟩, hkd⟩ := hnew
  have hkd : k ≠ d := beq_false.1 hkd
  intro hp hK
  have hn : n = zs.length := hp _ (by simp)
  have hsn : ∀ q ∈ snapL st (xs.map (evP σ)), q := fun q hq => hp q (by simp [hq])
  obtain ⟨hbody, hcall⟩ : PO S.P f e zs ys ((xs.map (evP σ)).map (snapV 4 st)) := hp _ (by simp)
  have hrest : All2 (R w.cell? S.O) (xs.map a.eval) ((xs.map (evP σ)).map (snapV 4 st)) := by
   refine ⟨by simp, fun j v d hv hd => ?_⟩
   simp only [List.getElem?_map, Option.map_eq_some_iff] at hv hd
   obtain ⟨y, hy, rfl⟩ := hv
   obtain ⟨p, ⟨y', hy', rfl⟩, rfl⟩ := hd
   rw [hy] at hy'; cases hy'
   exact snap_ok h 4 _ _ (evP_ok h y) (snapL_P st _ hsn _ (List.mem_map_of_mem (List.mem_of_getElem? hy)))
  have hvx := evP_ok h x
  rw [hx1] at hvx
  obtain ⟨cur, e1, e2, e3, e4, e5⟩ := h.ents k _ hk
  have e3 : cur.size = (ρ k).2 := by simpa [Mem.width] using e3
  have e4 : zs.length ≤ (ρ k).2 := e4
  have hcell : ∀ i, i < zs.length → cur[i]? = some (.int .i64 (zs.getD i 0)) := fun i hi => by
   obtain ⟨v, hv1, hv2⟩ := e5 i 0 hi (by simp [Mem.width])
   have : v = .int .i64 (zs.getD i 0) := hv2.int_inv
   rw [← this, ← hv1]
   simp [Mem.width]
  obtain ⟨ad, had, hv⟩ : ∃ ad : Option Addr, (ad = some ⟨(ρ k).1, 0, none⟩ ∨ (ad = none ∧ zs.length = 0 ∧ (ρ k).2 = 0)) ∧ a.eval x = .slice ad zs.length (ρ k).2 := by
   revert hvx
   generalize a.eval x = u
   intro hvx
   cases hvx with
   | own => exact ⟨_, .inl rfl, by rw [hn]⟩
   | ownN _ hc => exact ⟨none, .inr ⟨rfl, hn.symm, hc⟩, by rw [hc, ← hn]⟩
  have := hcall w S.O ad (ρ k).1 (ρ k).2 cur (xs.map a.eval) had e1 e2 e3 e4 hcell hrest
  unfold Oper.wp
  rw [call_exec ho hc hbody]
  have ea : c.args.map a.eval = (.slice ad zs.length (ρ k).2 :: xs.map a.eval).toArray := by rw [hargs, ← hv]; simp
  rw [ea]
  refine Calls.mono this fun en w' he => ?_
  obtain ⟨v, rfl, hb, hr⟩ := he
  have hb1 := h.below hb
  rcases hr with ⟨rfl, hys⟩ | hres
  ·
   subst hys
   have hw1 : StR S ρ a w' σ ((k, .arr true e (.ints ys)) :: adel st k) := by
    obtain ⟨cur', c1, c2, c3, c4, c5⟩ := hb1.ents k _ hk
    refine hb1.write k (.arr fr e (.ints ys)) (.arr true e (.ints ys)) hk (w' := w') rfl rfl rfl rfl (fun b _ _ => rfl) (fun _ => Iff.rfl) (by simp) (fun t cs he => by cases he) ⟨cur', c1, c2, c3, c4, fun i c hi hc => ?_⟩
    obtain ⟨u, hu, hd⟩ := c5 i c hi hc
    exact ⟨u, hu, RD.of_flats hd (Mem.flat_get (m := .ints ys) rfl _ _)⟩
   obtain ⟨m1, m2⟩ := newOk_one hn1
   obtain ⟨m3, m4⟩ := newOk_one hn2
   have hun : unment d σ ((k, .arr true e (.ints ys)) :: adel st k) = true := by
    simp only [unment, Bool.and_eq_true, List.all_eq_true] at m1 ⊢
    refine ⟨m1.1, fun z hz => ?_⟩
    rcases List.mem_cons.1 hz with rfl | hz
    ·rfl
    ·exact m1.2 z hz
   have hw2 := hw1.rename k d _ (aget_cons_same _ _ _) hkd hun (by rw [aget_cons_ne hkd]; exact m2) rfl (by simp)
   have hst : (d, Ent.arr true e (Mem.ints ys)) :: adel ((k, Ent.arr true e (Mem.ints ys)) :: adel st k) k = (d, Ent.arr true e (Mem.ints ys)) :: adel st k := by
    have : adel (adel st k) k = adel st k := adel_adel st k
    simp [adel, beq_self, this]
   rw [hst] at hw2
   refine hK _ _ _ (hw2.val o.dst _ (.own d ys.length) hd ?_ (fun _ hj => by simp [PV.rgm] at hj))
   have hu : upd ρ d (ρ k) d = ρ k := upd_same _ _ _
   rcases had with rfl | ⟨rfl, h9, h10⟩
   ·have := RP.own (w := w') (O := liveO S.O (upd ρ d (ρ k)) ((d, .arr true e (.ints ys)) :: adel st k)) (base := S.F) (ρ := upd ρ d (ρ k)) d ys.length
    rw [hu] at this
    exact this
   ·rw [h10, h9]
    exact .ownN d (by rw [hu]; exact h10)
  ·
   have hw1 := hb1.del k (by rw [hk]; simp) (by intro t cs; rw [hk]; simp)
   obtain ⟨m1, m2⟩ := newOk_one hn1
   have hdk : aget (adel st k) d = none := m2
   have hrn : resNew d 0 (Res.one (Re.own e (Mem.ints ys))).list = [(d, .arr true e (.ints ys))] := rfl
   have hw0 := (h.del k (by rw [hk]; simp) (by intro t cs; rw [hk]; simp))
   obtain ⟨ρ', hfin⟩ := call_in hw0 hd hb hres (dst := d) (by rw [hrn]; exact hn1)
   exact hK ρ' _ _ hfin
theorem wpOps_pre (hdst : ∀ (i : Nat) (o : Oper), all[i]? = some o → ∀ d, o.dst = some d → d < S.n) {oc : Nat → Oper → Env → Store → Orc} {Q : Exit → Act → World → Prop} (rest : List Nat) :
  ∀ (ops : List Oper) (i : Nat) (ρ : Nat → Nm) (a : Act) (w : World) (σ : Env) (st : Store), (∀ j, j < ops.length → ops[j]? = all[i + j]?) → StR S ρ a w σ st →
   (∀ q ∈ (runOps S.P all oc i ops σ st).1, q) →
   (∀ ρ' a' w', StR S ρ' a' w' (runOps S.P all oc i ops σ st).2.1 (runOps S.P all oc i ops σ st).2.2 → wpOps S.P all Q rest a' w') →
   wpOps S.P all Q ((List.range ops.length).map (i + ·) ++ rest) a w
 | [], i, ρ, a, w, σ, st, _, h, _, hQ => hQ ρ a w h
 | o :: r, i, ρ, a, w, σ, st, hl, h, hp, hQ => by
  have h0 : all[i]? = some o := by have := hl 0 (by simp); simpa using this.symm
  have er : (List.range (o :: r).length).map (i + ·) ++ rest = i :: ((List.range r.length).map (i + 1 + ·) ++ rest) := by
   simp only [List.length_cons, List.range_succ_eq_map, List.map_cons, List.map_map, Nat.add_zero, List.cons_append, List.cons.injEq, true_and]
   congr 1
   apply List.map_congr_left
   intro j _
   simp only [Function.comp]
   omega
  rw [er]
  have hgood := opStep_good (all := all) (oc := oc i o σ st) h (hdst i o h0) (fun q hq => hp q (by simp only [runOps]; exact List.mem_append_left _ hq))
  have next := hgood (wpOps S.P all Q ((List.range r.length).map (i + 1 + ·) ++ rest)) Q fun ρ' a' w' hst =>
   wpOps_pre hdst rest r (i + 1) ρ' a' w' _ _ (fun j hj => by have := hl (j + 1) (by simp; omega); simp only [List.getElem?_cons_succ] at this; rw [this]; congr 1; omega) hst
    (fun q hq => hp q (by simp only [runOps]; exact List.mem_append_right _ hq)) hQ
  simp only [wpOps, h0]
  cases hw : Region.wanted o (yielded all a.tmps) with
  | true => simp only [if_true]; exact .inl (next.1 hw)
  | false => exact next.2 hw
def condD (g : Bool) : List D → List D → Option (List D)
 | [], [] => some []
 | .int k n :: r, .int k' m :: s => match decide (k = k'), condD g r s with
  | true, some l => some (.int k (cond g n m) :: l)
  | _, _ => none
 | _, _ => none
theorem condD_eq : ∀ {g : Bool} {a b c : List D}, condD g a b = some c → c = (bif g then a else b)
 | g, [], [], c, h => by simp only [condD, Option.some.injEq] at h; subst h; cases g <;> rfl
 | g, .int k n :: r, .int k' m :: s, c, h => by
  simp only [condD] at h
  split at h
  ·rename_i l hk hl
   simp only [Option.some.injEq] at h
   have := of_decide_eq_true hk
   subst this h
   have := condD_eq hl
   subst this
   cases g <;> rfl
  ·cases h
 | g, [], _ :: _, c, h => by simp [condD] at h
 | g, x :: _, [], c, h => by cases x <;> simp [condD] at h
 | g, .undef :: _, _ :: _, c, h => by simp [condD] at h
 | g, .nil :: _, _ :: _, c, h => by simp [condD] at h
 | g, .bool _ :: _, _ :: _, c, h => by simp [condD] at h
 | g, .sl _ :: _, _ :: _, c, h => by simp [condD] at h
 | g, .adr _ _ _ :: _, _ :: _, c, h => by simp [condD] at h
 | g, .bx _ _ :: _, _ :: _, c, h => by simp [condD] at h
 | g, .agg _ :: _, _ :: _, c, h => by simp [condD] at h
 | g, .tup _ :: _, _ :: _, c, h => by simp [condD] at h
 | g, .fn _ _ _ :: _, _ :: _, c, h => by simp [condD] at h
 | g, .lit _ _ :: _, _ :: _, c, h => by simp [condD] at h
 | g, .int _ _ :: _, .undef :: _, c, h => by simp [condD] at h
 | g, .int _ _ :: _, .nil :: _, c, h => by simp [condD] at h
 | g, .int _ _ :: _, .bool _ :: _, c, h => by simp [condD] at h
 | g, .int _ _ :: _, .sl _ :: _, c, h => by simp [condD] at h
 | g, .int _ _ :: _, .adr _ _ _ :: _, c, h => by simp [condD] at h
 | g, .int _ _ :: _, .bx _ _ :: _, c, h => by simp [condD] at h
 | g, .int _ _ :: _, .agg _ :: _, c, h => by simp [condD] at h
 | g, .int _ _ :: _, .tup _ :: _, c, h => by simp [condD] at h
 | g, .int _ _ :: _, .fn _ _ _ :: _, c, h => by simp [condD] at h
 | g, .int _ _ :: _, .lit _ _ :: _, c, h => by simp [condD] at h
def flatRes : Res → Option D
 | .one (.d x) => match x.flat with
  | true => some x
  | false => none
 | _ => none
def condRun (P : Program) (f : FuncId) (gb : Bool) (ds' : List D) (r : Res) (x : Operand) (xs : List Operand) (dst : Option Tmp) (σ : Env) (st : Store) : List Prop × Env × Store :=
 let q := fun y => (evP σ y).ov
 match q x, flatRes r with
 | .ptr k 0, some z =>
  match aget st k with
  | some (.box t (.d fr y :: cs)) =>
   match cellDs cs with
   | some ds =>
    match condD gb ds' ds with
    | some ds2 => (ogAll (some gb) ((x :: xs).map (evP σ)) ++ (cellRun P f ds' (.one (.d z)) 0 q x xs dst σ st).1.map (fun p => (gb = true → p)),
     eput σ dst (.opt gb (.d true z)), (k, .box t (.d fr y :: ds2.map (.d true))) :: adel st k)
    | none => ([False], σ, st)
   | none => ([False], σ, st)
  | _ => ([False], σ, st)
 | _, _ => ([False], σ, st)
def markStep (P : Program) (all : Array Oper) (mo : MO) (o : Oper) (σ : Env) (st : Store) : List Prop × Env × Store :=
 match o.guard with
 | none => markRun P mo o σ st
 | some _ =>
  match mo, o.op, guardB all σ o with
  | .cell ds' r, .call c, some (some gb) =>
   match c.callee, c.args.toList with
   | .value (.func f), x :: xs => condRun P f gb ds' r x xs o.dst σ st
   | _, _ => ([False], σ, st)
  | _, _, _ => ([False], σ, st)
theorem flatRes_eq {r : Res} {z : D} (h : flatRes r = some z) : r = .one (.d z) ∧ z.flat = true := by
 unfold flatRes at h
 split at h
 ·split at h
  ·rename_i hf; cases h; exact ⟨rfl, hf⟩
  ·cases h
 ·cases h
theorem StR.retell (h : StR S ρ a w σ st) {k : Nat} {t : TypeId} {fr : Bool} {y : D} {cs : List PV} {ds : List D} (hk : aget st k = some (.box t (.d fr y :: cs))) (hcs : cellDs cs = some ds) :
  StR S ρ a w σ ((k, .box t (.d fr y :: ds.map (.d true))) :: adel st k) := by
 obtain ⟨hcl, hcg⟩ := cellDs_get hcs
 obtain ⟨cur, e1, e2, e3⟩ := h.ents k _ hk
 have hlow : ∀ b, liveO S.O ρ ((k, .box t (.d fr y :: ds.map (.d true))) :: adel st k) b → liveO S.O ρ st b := by
  intro b h3
  rcases h3 with h3 | ⟨j, e1, hj, hbj⟩
  ·exact .inl h3
  ·rcases aget_cons hj with ⟨rfl, rfl⟩ | ⟨_, hj⟩
   ·exact .inr ⟨j, _, hk, hbj⟩
   ·exact .inr ⟨j, e1, (aget_adel hj).2, hbj⟩
 have hok : EntOk w (liveO S.O ρ ((k, .box t (.d fr y :: ds.map (.d true))) :: adel st k)) S.F ρ k (.box t (.d fr y :: ds.map (.d true))) := by
  refine ⟨cur, e1, by rw [e2]; simp [hcl], fun j p hp => ?_⟩
  cases j with
  | zero =>
   simp at hp
   subst hp
   obtain ⟨u, hu, h1c, hr⟩ := e3 0 (.d fr y) rfl
   refine ⟨u, hu, h1c, ?_⟩
   cases hr with
   | d _ _ _ hr => exact .d _ _ _ (hr.step fun b hb hn => ⟨rfl, fun h3 => hn (hlow b h3)⟩)
  | succ j =>
   simp only [List.getElem?_cons_succ, List.getElem?_map, Option.map_eq_some_iff] at hp
   obtain ⟨z, hz, rfl⟩ := hp
   obtain ⟨hfz, hcz, fr2, hj⟩ := hcg j z hz
   obtain ⟨u, hu, h1c, hr⟩ := e3 (j + 1) (.d fr2 z) (by simpa using hj)
   refine ⟨u, hu, h1c, ?_⟩
   cases hr with
   | d _ _ _ hr => exact .d _ _ _ (RD.of_flats hr (D.flats_of_flat hfz))
 have hrb : ∀ t' cs', Ent.box t (.d fr y :: ds.map (.d true)) = .box t' cs' → ∀ j, PV.rgmL j cs' = true → aget st j = some .reg := by
  intro t' cs' he j hj
  exfalso
  cases he
  have key : ∀ l : List D, PV.rgmL j (l.map (.d true)) = false := by
   intro l
   induction l with
   | nil => rfl
   | cons z r ih => simp [PV.rgmL, PV.rgm, ih]
  simp [PV.rgmL, PV.rgm, key] at hj
 exact h.writeG k _ (.box t (.d fr y :: ds.map (.d true))) hk (w' := w) rfl rfl rfl (Nat.le_refl _) (fun b _ _ => rfl) (fun _ => Iff.rfl) (by simp) hrb hok (Nat.le_refl _)
theorem markStep_good (h : StR S ρ a w σ st) (hd : ∀ d, o.dst = some d → d < S.n) {mo : MO} (K : Act → World → Prop) (Q : Exit → Act → World → Prop) (hp : ∀ q ∈ (markStep S.P all mo o σ st).1, q)
  (hK : ∀ ρ' a' w', StR S ρ' a' w' (markStep S.P all mo o σ st).2.1 (markStep S.P all mo o σ st).2.2 → K a' w') :
  (Region.wanted o (yielded all a.tmps) = true → o.wp S.P a w K Q) ∧ (Region.wanted o (yielded all a.tmps) = false → K (a.put o.dst undef) w) := by
 unfold markStep at hp hK
 cases hg : o.guard with
 | none =>
  simp only [hg] at hp hK
  exact ⟨fun _ => mark_good h hd K Q hp hK, fun hw => by simp [Region.wanted, hg] at hw⟩
 | some g =>
  simp only [hg] at hp hK
  split at hp
  rotate_left
  ·exact false_in hp
  rename_i ds' r c gb ho hgb
  simp only [ho, hgb] at hK
  split at hp
  rotate_left
  ·exact false_in hp
  rename_i f x xs hc hx
  simp only [hc, hx] at hK
  have hargs : c.args = (x :: xs).toArray := by rw [← hx]
  have hgo := guardB_ok h hgb
  have hw : Region.wanted o (yielded all a.tmps) = gb := by
   rcases hgo with ⟨h1, _⟩ | ⟨gb', h1, h2⟩
   ·cases h1
   ·cases h1; exact h2
  unfold condRun at hp hK
  simp only at hp hK
  split at hp
  rotate_left
  ·exact false_in hp
  rename_i k z hx1 hz
  simp only [hx1, hz] at hK
  obtain ⟨rfl, hzf⟩ := flatRes_eq hz
  split at hp
  rotate_left
  ·exact false_in hp
  rename_i t fr y cs hk
  simp only [hk] at hK
  split at hp
  rotate_left
  ·exact false_in hp
  rename_i ds hcs
  simp only [hcs] at hK
  split at hp
  rotate_left
  ·exact false_in hp
  rename_i ds2 hd2
  simp only [hd2] at hK
  have h2 := condD_eq hd2
  rw [hw]
  refine ⟨fun hgt => ?_, fun hgf => ?_⟩
  ·subst hgt
   have hog := ogAll_og (g := some true) (l := (x :: xs).map (evP σ)) (fun q hq => hp q (List.mem_append_left _ hq)) (.inr rfl)
   have hp2 : ∀ p ∈ (cellRun S.P f ds' (.one (.d z)) 0 (fun y => (evP σ y).ov) x xs o.dst σ st).1, p := fun p hpp => hp (true = true → p) (List.mem_append_right _ (List.mem_map.2 ⟨p, hpp, rfl⟩)) rfl
   refine cell_wp (q := fun y => (evP σ y).ov) h hd ho hc hargs (fun y hy _ _ h' => PV.og_ov (evP_ok h' y) (hog _ (List.mem_map.2 ⟨y, hy, rfl⟩))) hp2 fun ρ' a' w' hst => hK ρ' a' w' ?_
   simp only [cond_true] at h2
   subst h2
   unfold cellRun at hst hp2
   simp only [hx1, hk, hcs] at hst hp2
   split at hst
   ·rename_i heq _
    cases heq
    exact hst.optIn
   ·rename_i hno
    split at hp2
    ·rename_i h3 h4
     exact (hno _ h3 h4).elim
    ·exact false_in hp2
  ·subst hgf
   simp only [cond_false] at h2
   subst h2
   exact hK ρ _ _ (((h.retell hk hcs).val o.dst _ _ hd (.optF _) (fun j hj => by simp [PV.rgm] at hj)))
def runMs (P : Program) (all : Array Oper) (oc : Nat → Oper → Env → Store → Orc) : Nat → List (Nat × MO) → Env → Store → List Prop × Env × Store
 | fr, [], σ, st => runOps P all oc fr (all.toList.drop fr) σ st
 | fr, (i, mo) :: ms, σ, st =>
  match all.toList[i]?, Nat.ble fr i with
  | some o, true =>
   let r1 := runOps P all oc fr ((all.toList.take i).drop fr) σ st
   let r2 := markStep P all mo o r1.2.1 r1.2.2
   let r3 := runMs P all oc (i + 1) ms r2.2.1 r2.2.2
   (r1.1 ++ (r2.1 ++ r3.1), r3.2.1, r3.2.2)
  | _, _ => ([False], σ, st)
theorem runMs_ok (hdst : ∀ (i : Nat) (o : Oper), all[i]? = some o → ∀ d, o.dst = some d → d < S.n) {oc : Nat → Oper → Env → Store → Orc} {Q : Exit → Act → World → Prop} :
  ∀ (ms : List (Nat × MO)) (fr : Nat) (ρ : Nat → Nm) (a : Act) (w : World) (σ : Env) (st : Store), StR S ρ a w σ st → (∀ q ∈ (runMs S.P all oc fr ms σ st).1, q) →
   (∀ ρ' a' w', StR S ρ' a' w' (runMs S.P all oc fr ms σ st).2.1 (runMs S.P all oc fr ms σ st).2.2 → Q .normal a' w') →
   wpOps S.P all Q ((List.range (all.toList.drop fr).length).map (fr + ·)) a w
 | [], fr, ρ, a, w, σ, st, h, hp, hQ => by
  have := wpOps_pre hdst (Q := Q) (oc := oc) [] (all.toList.drop fr) fr ρ a w σ st (fun j _ => by simp) h hp fun ρ' a' w' hst => hQ ρ' a' w' hst
  rwa [List.append_nil] at this
 | (i, mo) :: ms, fr, ρ, a, w, σ, st, h, hp, hQ => by
  simp only [runMs] at hp hQ
  cases ho : all.toList[i]? with
  | none => rw [ho] at hp; exact false_in hp
  | some o =>
   cases hb : Nat.ble fr i with
   | false => rw [ho, hb] at hp; exact false_in hp
   | true =>
    rw [ho, hb] at hp hQ
    dsimp only at hp hQ
    have hle := Nat.le_of_ble_eq_true hb
    have hi : i < all.toList.length := (List.getElem?_eq_some_iff.1 ho).1
    have hoi : all[i]? = some o := by simpa using ho
    have ht : ((all.toList.take i).drop fr).length = i - fr := by rw [List.length_drop, List.length_take]; omega
    have el : (List.range (all.toList.drop fr).length).map (fr + ·) = (List.range ((all.toList.take i).drop fr).length).map (fr + ·) ++ (i :: (List.range (all.toList.drop (i + 1)).length).map (i + 1 + ·)) := by
     have hsz : (all.toList.drop fr).length = (i - fr) + (1 + (all.toList.drop (i + 1)).length) := by simp at hi ⊢; omega
     rw [ht, hsz, List.range_add, List.map_append]
     congr 1
     rw [Nat.add_comm 1, List.range_succ_eq_map]
     simp only [List.map_cons, Nat.add_zero, List.map_map, List.cons.injEq]
     refine ⟨by omega, ?_⟩
     apply List.map_congr_left
     intro j _
     simp only [Function.comp]
     omega
    rw [el]
    refine wpOps_pre hdst _ ((all.toList.take i).drop fr) fr ρ a w σ st (fun j hj => ?_) h (fun q hq => hp q (List.mem_append_left _ hq)) fun ρ1 a1 w1 h1 => ?_
    ·have hj : fr + j < i := by rw [ht] at hj; omega
     simp [List.getElem?_take, hj]
    ·have hm := fun q hq => hp q (List.mem_append_right _ (List.mem_append_left _ hq))
     have next := markStep_good (all := all) (mo := mo) h1 (hdst i o hoi) (wpOps S.P all Q ((List.range (all.toList.drop (i + 1)).length).map (i + 1 + ·))) Q hm fun ρ2 a2 w2 h2 =>
      runMs_ok hdst ms (i + 1) ρ2 a2 w2 _ _ h2 (fun q hq => hp q (List.mem_append_right _ (List.mem_append_right _ hq))) hQ
     simp only [wpOps, hoi]
     cases hw : Region.wanted o (yielded all a1.tmps) with
     | true => simp only [if_true]; exact .inl (next.1 hw)
     | false => exact next.2 hw
theorem region_marks {id : Nat} {oc : Nat → Oper → Env → Store → Orc} {ms : List (Nat × MO)} {Q : Exit → Act → World → Prop} (h : StR S ρ a w σ st) (hb : dstB S.n all.toList = true)
  (hp : ∀ q ∈ (runMs S.P all oc 0 ms σ st).1, q)
  (hQ : ∀ ρ' a' w', StR S ρ' a' w' (runMs S.P all oc 0 ms σ st).2.1 (runMs S.P all oc 0 ms σ st).2.2 → Q .normal a' w') :
  (Code.region id all false).wp S.P Q a w := by
 refine wp_region ?_
 have hdst : ∀ (i : Nat) (o : Oper), all[i]? = some o → ∀ d, o.dst = some d → d < S.n := fun i o ho d hd => dstB_ok hb i o (by simpa using ho) d hd
 have := runMs_ok hdst (Q := Q) ms 0 ρ a w σ st h hp hQ
 have e : (List.range (all.toList.drop 0).length).map (0 + ·) = List.range all.size := by simp
 rw [e] at this
 exact this
end Go.Proofs.Ytomnmacmlhkceaa
