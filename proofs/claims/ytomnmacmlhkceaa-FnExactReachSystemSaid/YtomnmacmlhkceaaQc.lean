/- The pure layer, part C: how the relation between slots, owned blocks and the world goes on at each change. No function of the program is named here. -/
import Derived.Test.YtomnmacmlhkceaaQb
set_option linter.unusedVariables false
set_option linter.unusedSimpArgs false
namespace Go.Proofs.Ytomnmacmlhkceaa
open Go
def upd (ρ : Nat → Nm) (k : Nat) (p : Nm) : Nat → Nm := fun j => if j = k then p else ρ j
theorem upd_same (ρ : Nat → Nm) (k : Nat) (p : Nm) : upd ρ k p k = p := by simp [upd]
theorem upd_ne (ρ : Nat → Nm) {k j : Nat} (p : Nm) (h : j ≠ k) : upd ρ k p j = ρ j := by simp [upd, h]
def eput (σ : Env) (dst : Option Nat) (p : PV) : Env :=
 match dst with
 | some d => (d, p) :: σ
 | none => σ
theorem alloc_old (w : World) (o : Obj) {b : Nat} (h : b < w.heap.size) : (w.alloc o).heap[b]? = w.heap[b]? := by
 show (w.heap.push o)[b]? = _
 rw [Array.getElem?_push, if_neg (by omega)]
theorem alloc_new (w : World) (o : Obj) : (w.alloc o).heap[w.heap.size]? = some o := by
 show (w.heap.push o)[w.heap.size]? = _
 simp
variable {S : Setting} {ρ : Nat → Nm} {a : Act} {w : World} {σ : Env} {st : Store}
theorem Frm.trans {w w' : World} (h : Frm S w) (hos : w'.os = w.os) (ht : w'.tape = w.tape) (ho : w'.output = w.output) (hs : w.heap.size ≤ w'.heap.size) (hdr : w.drawn ≤ w'.drawn)
  (hb : ∀ b, b < S.w0.heap.size → ¬ S.may b → w'.heap[b]? = w.heap[b]?) : Frm S w' :=
 ⟨hos.trans h.os, ht.trans h.tape, ho.trans h.output, Nat.le_trans h.size hs, Nat.le_trans h.drawn hdr, fun b hb1 hb2 => (hb b hb1 hb2).trans (h.block b hb1 hb2)⟩
theorem StR.liveO_lt (h : StR S ρ a w σ st) {b : Nat} (hb : liveO S.O ρ st b) : b < w.heap.size := by
 rcases hb with hb | ⟨k, e, hk, hb⟩
 ·exact Nat.lt_of_lt_of_le (h.ob b hb) h.frm.size
 ·exact (h.own k e hk b hb).1
theorem StR.val (h : StR S ρ a w σ st) (dst : Option Nat) (v : Value) (p : PV) (hd : ∀ d, dst = some d → d < S.n)
  (hp : RP w (liveO S.O ρ st) S.F ρ v p) (hg : ∀ j, p.rgm j = true → aget st j = some .reg) : StR S ρ (a.put dst v) w (eput σ dst p) st := by
 cases dst with
 | none => exact h
 | some d =>
  have hlt := hd d rfl
  refine ⟨by simp [Act.put, h.sz], h.dfr, h.ob, h.ents, h.own, h.inj, fun t q hq => ?_, h.frm, fun t q hq j hj => ?_, h.rb, h.pn⟩
  rotate_left
  ·rcases aget_cons hq with ⟨rfl, rfl⟩ | ⟨hne, hq⟩
   ·exact hg j hj
   ·exact h.rg t q hq j hj
  rcases aget_cons hq with ⟨rfl, rfl⟩ | ⟨hne, hq⟩
  ·refine ⟨hlt, ?_⟩
   have : t < a.tmps.size := by rw [h.sz]; exact hlt
   simpa [Act.put, this] using hp
  ·have := h.env t q hq
   simpa [Act.put, Array.getElem?_setIfInBounds_ne (Ne.symm hne)] using this
theorem StR.put_undef (h : StR S ρ a w σ st) (dst : Option Nat) (v : Value) (hd : ∀ d, dst = some d → d < S.n) : StR S ρ (a.put dst v) w (eput σ dst (.d false .undef)) st :=
 h.val dst v _ hd (.d _ _ _ (R.undef v)) (fun _ hj => by simp [PV.rgm] at hj)
theorem StR.sub (h : StR S ρ a w σ st) {σ' : Env} (hs : ∀ t p, aget σ' t = some p → aget σ t = some p) : StR S ρ a w σ' st :=
 ⟨h.sz, h.dfr, h.ob, h.ents, h.own, h.inj, fun t p hp => h.env t p (hs t p hp), h.frm, fun t p hp => h.rg t p (hs t p hp), h.rb, h.pn⟩
theorem StR.later (h : StR S ρ a w σ st) {w' : World} (hos : w'.os = w.os) (ht : w'.tape = w.tape) (ho : w'.output = w.output) (hs : w.heap.size ≤ w'.heap.size)
  (hb : ∀ b, b < w.heap.size → w'.heap[b]? = w.heap[b]?) (hdr : w.drawn ≤ w'.drawn := by first | exact Nat.le_refl _ | exact Nat.le_succ _) : StR S ρ a w' σ st := by
 have hk : ∀ b, b < w.heap.size → ¬ liveO S.O ρ st b → w'.heap[b]? = w.heap[b]? ∧ ¬ liveO S.O ρ st b := fun b h1 h2 => ⟨hb b h1, h2⟩
 refine ⟨h.sz, h.dfr, h.ob, fun k e he => ?_, fun k e he b hbk => ?_, h.inj, fun t p hp => ⟨(h.env t p hp).1, ?_⟩, ?_, h.rg, h.rb, h.pn⟩
 ·exact (h.ents k e he).step hs hk (fun _ _ => rfl) rfl (fun b _ h2 => hb b h2) (fun _ _ _ _ _ b _ _ h3 => hb b h3)
 ·obtain ⟨h1, h2, h3⟩ := h.own k e he b hbk
  exact ⟨Nat.lt_of_lt_of_le h1 hs, h2, h3⟩
 ·exact (h.env t p hp).2.step hk (fun _ _ => rfl) (fun _ _ b _ _ h3 => hb b h3)
 ·exact h.frm.trans hos ht ho hs hdr fun b h1 _ => hb b (Nat.lt_of_lt_of_le h1 h.frm.size)
theorem StR.alloc (h : StR S ρ a w σ st) (o : Obj) : StR S ρ a (w.alloc o) σ st :=
 h.later rfl rfl rfl (by simp) fun b hb => alloc_old w o hb
theorem StR.drew (h : StR S ρ a w σ st) : StR S ρ a w.drew σ st := h.later rfl rfl rfl (Nat.le_refl _) fun _ _ => rfl
theorem StR.below (h : StR S ρ a w σ st) {w' : World} (hb : Bel w.heap.size w w') : StR S ρ a w' σ st :=
 h.later hb.os hb.tape hb.output hb.size hb.block hb.drawn
theorem StR.del (h : StR S ρ a w σ st) (k : Nat) (hn : aget st k ≠ some .reg) (hnb : ∀ t cs, aget st k ≠ some (.box t cs)) : StR S ρ a w σ (adel st k) := by
 have hk : ∀ b, b < w.heap.size → ¬ liveO S.O ρ st b → w.heap[b]? = w.heap[b]? ∧ ¬ liveO S.O ρ (adel st k) b := by
  refine fun b _ h2 => ⟨rfl, fun h3 => h2 ?_⟩
  rcases h3 with h3 | ⟨j, e, hj, hb⟩
  ·exact .inl h3
  ·exact .inr ⟨j, e, (aget_adel hj).2, hb⟩
 refine ⟨h.sz, h.dfr, h.ob, fun j e he => ?_, fun j e he => h.own j e (aget_adel he).2, fun j j' e e' h1 h2 => h.inj j j' e e' (aget_adel h1).2 (aget_adel h2).2, fun t p hp => ⟨(h.env t p hp).1, ?_⟩, h.frm, fun t p hp j hj => ?_, fun k' t cs hk j hj => ?_, fun g hg => ?_⟩
 rotate_right
 ·obtain ⟨p1, t, cs, p2⟩ := h.pn g hg
  exact ⟨p1, t, cs, by rw [aget_adel_ne st (fun e : 0 = k => hnb t cs (by rw [← e]; exact p2))]; exact p2⟩
 rotate_right
 ·have hr := h.rb k' t cs (aget_adel hk).2 j hj
  have hne : j ≠ k := fun e => hn (e ▸ hr)
  rw [aget_adel_ne st hne]; exact hr
 ·exact (h.ents j e (aget_adel he).2).step (Nat.le_refl _) hk (fun _ _ => rfl) rfl (fun _ _ _ => rfl) (fun _ _ _ _ _ _ _ _ _ => rfl)
 ·exact (h.env t p hp).2.step hk (fun _ _ => rfl) (fun _ _ _ _ _ _ => rfl)
 ·have hr := h.rg t p hp j hj
  have hne : j ≠ k := fun e => hn (e ▸ hr)
  rw [aget_adel_ne st hne]; exact hr
theorem StR.newid (h : StR S ρ a w σ st) (k : Nat) (e : Ent) (o : Obj) (cap : Nat) (hun : unment k σ st = true) (he0 : ∀ t cs, e = .box t cs → ∀ j, PV.rgmL j cs = true → aget st j = some .reg)
  (hreg : ∀ p b, blk e p b → b = p.1) (hd : aget st k = none)
  (hok : EntOk (w.alloc o) (liveO S.O (upd ρ k (nm w.heap.size cap)) ((k, e) :: st)) S.F (upd ρ k (nm w.heap.size cap)) k e) :
  StR S (upd ρ k (nm w.heap.size cap)) a (w.alloc o) σ ((k, e) :: st) := by
 have hget : ∀ j e', aget ((k, e) :: st) j = some e' → (j = k ∧ e' = e) ∨ (j ≠ k ∧ aget st j = some e') := fun j e' hj => aget_cons hj
 have hlow : ∀ b, b < w.heap.size → ¬ liveO S.O ρ st b → ¬ liveO S.O (upd ρ k (nm w.heap.size cap)) ((k, e) :: st) b := by
  intro b hb hn h3
  rcases h3 with h3 | ⟨j, e', hj, hbj⟩
  ·exact hn (.inl h3)
  ·rcases hget j e' hj with ⟨rfl, rfl⟩ | ⟨hne, hj⟩
   ·rw [upd_same] at hbj
    have := hreg _ _ hbj
    simp at this; omega
   ·rw [upd_ne ρ _ hne] at hbj
    exact hn (.inr ⟨j, e', hj, hbj⟩)
 have hk : ∀ b, b < w.heap.size → ¬ liveO S.O ρ st b → (w.alloc o).heap[b]? = w.heap[b]? ∧ ¬ liveO S.O (upd ρ k (nm w.heap.size cap)) ((k, e) :: st) b :=
  fun b hb hn => ⟨alloc_old w o hb, hlow b hb hn⟩
 refine ⟨h.sz, h.dfr, h.ob, fun j e' he => ?_, fun j e' he b hb => ?_, fun j j' e1 e2 h1 h2 b hb1 hb2 => ?_, fun t p hp => ⟨(h.env t p hp).1, ?_⟩, ?_, fun t p hp j hj => ?_, fun j t cs hj i hi => ?_, fun g hg => ?_⟩
 rotate_right
 ·obtain ⟨p1, t, cs, p2⟩ := h.pn g hg
  have hne : k ≠ 0 := fun e => by rw [e, p2] at hd; cases hd
  exact ⟨by rw [upd_ne ρ _ (Ne.symm hne)]; exact p1, t, cs, by rw [aget_cons_ne hne]; exact p2⟩
 ·rcases hget j e' he with ⟨hjk, hee⟩ | ⟨hne, hst⟩
  ·rw [hjk, hee]; exact hok
  ·have hm : ∀ i, e'.ment i = true → upd ρ k (nm w.heap.size cap) i = ρ i := fun i hi => upd_ne ρ _ (fun hik => by subst hik; rw [unment_st hun hst] at hi; cases hi)
   exact (h.ents j e' hst).step (by simp) hk hm (upd_ne ρ _ hne) (fun b _ h2 => alloc_old w o h2) (fun _ _ _ _ _ b _ _ h3 => alloc_old w o h3)
 ·rcases hget j e' he with ⟨rfl, rfl⟩ | ⟨hne, he⟩
  ·rw [upd_same] at hb
   have hb := hreg _ _ hb
   simp at hb; subst hb
   refine ⟨by simp, fun ho => ?_, .inl h.frm.size⟩
   have := h.ob _ ho
   have := h.frm.size
   omega
  ·rw [upd_ne ρ _ hne] at hb
   obtain ⟨x1, x2, x3⟩ := h.own j e' he b hb
   exact ⟨by simp; omega, x2, x3⟩
 ·rcases hget j e1 h1 with ⟨hj1, he1⟩ | ⟨hne1, g1⟩ <;> rcases hget j' e2 h2 with ⟨hj2, he2⟩ | ⟨hne2, g2⟩
  ·rw [hj1, hj2]
  ·rw [hj1, he1, upd_same] at hb1; rw [upd_ne ρ _ hne2] at hb2
   have := (h.own j' e2 g2 b hb2).1
   have hb1 := hreg _ _ hb1
   simp at hb1; omega
  ·rw [hj2, he2, upd_same] at hb2; rw [upd_ne ρ _ hne1] at hb1
   have := (h.own j e1 g1 b hb1).1
   have hb2 := hreg _ _ hb2
   simp at hb2; omega
  ·rw [upd_ne ρ _ hne1] at hb1; rw [upd_ne ρ _ hne2] at hb2
   exact h.inj j j' e1 e2 g1 g2 b hb1 hb2
 ·have hm : ∀ i, p.ment i = true → upd ρ k (nm w.heap.size cap) i = ρ i := fun i hi => upd_ne ρ _ (fun hik => by subst hik; rw [unment_env hun hp] at hi; cases hi)
  exact (h.env t p hp).2.step hk hm (fun _ _ b _ _ h3 => alloc_old w o h3)
 ·exact h.frm.trans rfl rfl rfl (by simp) (Nat.le_refl _) fun b h1 _ => alloc_old w o (Nat.lt_of_lt_of_le h1 h.frm.size)
 ·have hr := h.rg t p hp j hj
  have hne : k ≠ j := fun e => by rw [← e, hd] at hr; cases hr
  rw [aget_cons_ne hne]; exact hr
 ·have hr : aget st i = some .reg := by
   rcases hget j _ hj with ⟨_, hee⟩ | ⟨_, hst⟩
   ·exact he0 t cs hee.symm i hi
   ·exact h.rb j t cs hst i hi
  have hne : k ≠ i := fun e => by rw [← e, hd] at hr; cases hr
  rw [aget_cons_ne hne]; exact hr
theorem StR.writeG (h : StR S ρ a w σ st) (k : Nat) (e e' : Ent) (hke : aget st k = some e) {w' : World} (hos : w'.os = w.os) (ht : w'.tape = w.tape) (ho : w'.output = w.output)
  (hs : w.heap.size ≤ w'.heap.size) (hb : ∀ b, b < w.heap.size → ¬ blk e (ρ k) b → w'.heap[b]? = w.heap[b]?)
  (hblk : ∀ b, blk e' (ρ k) b ↔ blk e (ρ k) b) (hnr : e ≠ .reg) (hrb : ∀ t cs, e' = .box t cs → ∀ j, PV.rgmL j cs = true → aget st j = some .reg)
  (hok : EntOk w' (liveO S.O ρ ((k, e') :: adel st k)) S.F ρ k e') (hdr : w.drawn ≤ w'.drawn)
  (hbx : (∃ t cs, e = .box t cs) → ∃ t cs, e' = .box t cs := by first | exact fun _ => ⟨_, _, rfl⟩ | (intro h; obtain ⟨_, _, h⟩ := h; cases h)) : StR S ρ a w' σ ((k, e') :: adel st k) := by
 have hget : ∀ j e1, aget ((k, e') :: adel st k) j = some e1 → (j = k ∧ e1 = e') ∨ (j ≠ k ∧ aget st j = some e1) := fun j e1 hj => by
  rcases aget_cons hj with h1 | ⟨h1, h2⟩
  ·exact .inl h1
  ·exact .inr ⟨h1, (aget_adel h2).2⟩
 have hlive : ∀ b, liveO S.O ρ ((k, e') :: adel st k) b → liveO S.O ρ st b := by
  intro b h3
  rcases h3 with h3 | ⟨j, e1, hj, hbj⟩
  ·exact .inl h3
  ·rcases hget j e1 hj with ⟨hjk, he1⟩ | ⟨_, hj⟩
   ·rw [hjk, he1, hblk] at hbj; exact .inr ⟨k, e, hke, hbj⟩
   ·exact .inr ⟨j, e1, hj, hbj⟩
 have hk : ∀ b, b < w.heap.size → ¬ liveO S.O ρ st b → w'.heap[b]? = w.heap[b]? ∧ ¬ liveO S.O ρ ((k, e') :: adel st k) b :=
  fun b hlt hn => ⟨hb b hlt fun hbk => hn (.inr ⟨k, e, hke, hbk⟩), fun h3 => hn (hlive b h3)⟩
 have hreg : ∀ j, aget st j = some .reg → ∀ b, (ρ j).1 ≤ b → b < (ρ j).2 → b < w.heap.size → w'.heap[b]? = w.heap[b]? := by
  intro j hj b h1 h2 h3
  refine hb b h3 fun hbk => ?_
  have hjk : j = k := h.inj j k .reg e hj hke b ⟨h1, h2⟩ hbk
  rw [hjk, hke] at hj
  cases hj
  exact hnr rfl
 refine ⟨h.sz, h.dfr, h.ob, fun j e1 he => ?_, fun j e1 he b hb1 => ?_, fun j j' e1 e2 h1 h2 b hb1 hb2 => ?_, fun t p hp => ⟨(h.env t p hp).1, ?_⟩, ?_, fun t p hp j hj => ?_, fun j t cs hj i hi => ?_, fun g hg => ?_⟩
 rotate_right
 ·obtain ⟨p1, t, cs, p2⟩ := h.pn g hg
  refine ⟨p1, ?_⟩
  by_cases e0 : k = 0
  ·subst e0
   rw [hke] at p2
   cases p2
   obtain ⟨t2, cs2, rfl⟩ := hbx ⟨_, _, rfl⟩
   exact ⟨t2, cs2, aget_cons_same _ _ _⟩
  ·exact ⟨t, cs, by rw [aget_cons_ne e0, aget_adel_ne st (Ne.symm e0)]; exact p2⟩
 ·rcases hget j e1 he with ⟨hjk, he1⟩ | ⟨hne, hst⟩
  ·rw [hjk, he1]; exact hok
  ·refine (h.ents j e1 hst).step hs hk (fun _ _ => rfl) rfl (fun b h1 h2 => hb b h2 fun hbk => hne (h.inj j k e1 e hst hke b h1 hbk)) ?_
   intro t cs hcs i hi b
   rw [hcs] at hst
   exact hreg i (h.rb j t cs hst i hi) b
 ·rcases hget j e1 he with ⟨hjk, he1⟩ | ⟨hne, hst⟩
  ·rw [hjk, he1, hblk] at hb1; obtain ⟨x1, x2, x3⟩ := h.own k e hke b hb1; exact ⟨Nat.lt_of_lt_of_le x1 hs, x2, x3⟩
  ·obtain ⟨x1, x2, x3⟩ := h.own j e1 hst b hb1; exact ⟨Nat.lt_of_lt_of_le x1 hs, x2, x3⟩
 ·have t1 : ∃ e, aget st j = some e ∧ blk e (ρ j) b := by
   rcases hget j e1 h1 with ⟨hjk, he1⟩ | ⟨_, g1⟩
   ·rw [hjk, he1, hblk] at hb1; rw [hjk]; exact ⟨e, hke, hb1⟩
   ·exact ⟨e1, g1, hb1⟩
  have t2 : ∃ e, aget st j' = some e ∧ blk e (ρ j') b := by
   rcases hget j' e2 h2 with ⟨hjk, he1⟩ | ⟨_, g1⟩
   ·rw [hjk, he1, hblk] at hb2; rw [hjk]; exact ⟨e, hke, hb2⟩
   ·exact ⟨e2, g1, hb2⟩
  obtain ⟨x1, y1, z1⟩ := t1
  obtain ⟨x2, y2, z2⟩ := t2
  exact h.inj j j' x1 x2 y1 y2 b z1 z2
 ·exact (h.env t p hp).2.step hk (fun _ _ => rfl) (fun j hj => hreg j (h.rg t p hp j hj))
 ·refine h.frm.trans hos ht ho hs hdr fun b h1 h2 => hb b (Nat.lt_of_lt_of_le h1 h.frm.size) fun hbk => ?_
  rcases (h.own k e hke b hbk).2.2 with h3 | h3
  ·omega
  ·exact h2 h3
 ·have hr := h.rg t p hp j hj
  have hne : j ≠ k := fun e1 => by rw [e1, hke] at hr; cases hr; exact hnr rfl
  rw [aget_cons_ne (Ne.symm hne), aget_adel_ne st hne]; exact hr
 ·have hr : aget st i = some .reg := by
   rcases hget j _ hj with ⟨_, hee⟩ | ⟨_, hst⟩
   ·exact hrb t cs hee.symm i hi
   ·exact h.rb j t cs hst i hi
  have hne : i ≠ k := fun e1 => by rw [e1, hke] at hr; cases hr; exact hnr rfl
  rw [aget_cons_ne (Ne.symm hne), aget_adel_ne st hne]; exact hr
theorem StR.write (h : StR S ρ a w σ st) (k : Nat) (e e' : Ent) (hke : aget st k = some e) {w' : World} (hos : w'.os = w.os) (ht : w'.tape = w.tape) (ho : w'.output = w.output)
  (hs : w'.heap.size = w.heap.size) (hb : ∀ b, b < w.heap.size → ¬ blk e (ρ k) b → w'.heap[b]? = w.heap[b]?)
  (hblk : ∀ b, blk e' (ρ k) b ↔ blk e (ρ k) b) (hnr : e ≠ .reg) (hrb : ∀ t cs, e' = .box t cs → ∀ j, PV.rgmL j cs = true → aget st j = some .reg)
  (hok : EntOk w' (liveO S.O ρ ((k, e') :: adel st k)) S.F ρ k e') (hdr : w.drawn ≤ w'.drawn := by exact Nat.le_refl _)
  (hbx : (∃ t cs, e = .box t cs) → ∃ t cs, e' = .box t cs := by first | exact fun _ => ⟨_, _, rfl⟩ | (intro h; obtain ⟨_, _, h⟩ := h; cases h)) : StR S ρ a w' σ ((k, e') :: adel st k) :=
 h.writeG k e e' hke hos ht ho (Nat.le_of_eq hs.symm) hb hblk hnr hrb hok hdr hbx
theorem StR.rename (h : StR S ρ a w σ st) (k k' : Nat) (e : Ent) (hke : aget st k = some e) (hne : k ≠ k') (hun : unment k' σ st = true) (hd : aget st k' = none)
  (hem : e.ment k' = false) (hnr : e ≠ .reg) (hnb : ∀ t cs, e ≠ .box t cs := by intro t cs h; cases h) : StR S (upd ρ k' (ρ k)) a w σ ((k', e) :: adel st k) := by
 have hget : ∀ j e1, aget ((k', e) :: adel st k) j = some e1 → (j = k' ∧ e1 = e) ∨ (j ≠ k' ∧ j ≠ k ∧ aget st j = some e1) := fun j e1 hj => by
  rcases aget_cons hj with h1 | ⟨h1, h2⟩
  ·exact .inl h1
  ·exact .inr ⟨h1, (aget_adel h2).1, (aget_adel h2).2⟩
 have back : ∀ j e1, aget ((k', e) :: adel st k) j = some e1 → ∀ b, blk e1 (upd ρ k' (ρ k) j) b → ∃ i e2, aget st i = some e2 ∧ blk e2 (ρ i) b ∧ ((j = k' ∧ i = k) ∨ (j ≠ k' ∧ i = j ∧ j ≠ k)) := by
  intro j e1 hj b hb
  rcases hget j e1 hj with ⟨h1, h2⟩ | ⟨h1, h2, h3⟩
  ·rw [h1, h2, upd_same] at hb; exact ⟨k, e, hke, hb, .inl ⟨h1, rfl⟩⟩
  ·rw [upd_ne ρ _ h1] at hb; exact ⟨j, e1, h3, hb, .inr ⟨h1, rfl, h2⟩⟩
 have hk : ∀ b, b < w.heap.size → ¬ liveO S.O ρ st b → w.heap[b]? = w.heap[b]? ∧ ¬ liveO S.O (upd ρ k' (ρ k)) ((k', e) :: adel st k) b := by
  refine fun b _ hn => ⟨rfl, fun h3 => hn ?_⟩
  rcases h3 with h3 | ⟨j, e1, hj, hbj⟩
  ·exact .inl h3
  ·obtain ⟨i, e2, x1, x2, _⟩ := back j e1 hj b hbj
   exact .inr ⟨i, e2, x1, x2⟩
 have hmE : ∀ e1 : Ent, e1.ment k' = false → ∀ i, e1.ment i = true → upd ρ k' (ρ k) i = ρ i := fun e1 he i hi => upd_ne ρ _ fun hik => by rw [hik, he] at hi; cases hi
 refine ⟨h.sz, h.dfr, h.ob, fun j e1 he => ?_, fun j e1 he b hb1 => ?_, fun j j' e1 e2 h1 h2 b hb1 hb2 => ?_, fun t p hp => ⟨(h.env t p hp).1, ?_⟩, h.frm, fun t p hp j hj => ?_, fun j t cs hj i hi => ?_, fun g hg => ?_⟩
 rotate_right
 ·obtain ⟨p1, t, cs, p2⟩ := h.pn g hg
  have h1 : k ≠ 0 := fun e1 => by rw [e1, p2] at hke; cases hke; exact hnb _ _ rfl
  have h2 : k' ≠ 0 := fun e1 => by rw [e1, p2] at hd; cases hd
  exact ⟨by rw [upd_ne ρ _ (Ne.symm h2)]; exact p1, t, cs, by rw [aget_cons_ne h2, aget_adel_ne st (Ne.symm h1)]; exact p2⟩
 ·rcases hget j e1 he with ⟨hjk, he1⟩ | ⟨h1, h2, h3⟩
  ·rw [hjk, he1]
   have hok := (h.ents k e hke).step (ρ' := upd ρ k (ρ k)) (w' := w) (Nat.le_refl _) hk (fun i _ => by by_cases hik : i = k <;> simp [upd, hik]) (upd_same _ _ _) (fun _ _ _ => rfl) (fun _ _ _ _ _ _ _ _ _ => rfl)
   cases e with
   | arr fr ty m =>
    obtain ⟨cur, x1, x2, x3, x4, x5⟩ := hok
    rw [upd_same] at x1 x2 x3 x4
    exact ⟨cur, by rw [upd_same]; exact x1, by rw [upd_same]; exact x2, by rw [upd_same]; exact x3, by rw [upd_same]; exact x4, x5⟩
   | box ty cs =>
    obtain ⟨cur, x1, x2, x3⟩ := h.ents k _ hke
    refine ⟨cur, by rw [upd_same]; exact x1, x2, fun c p hp => ?_⟩
    obtain ⟨v, y1, y2, y3⟩ := x3 c p hp
    exact ⟨v, y1, y2, y3.step hk (fun i hi => hmE _ hem i (PV.mentL_mem hp hi)) (fun _ _ _ _ _ _ => rfl)⟩
   | reg => exact absurd rfl hnr
   | vw xs => exact fun i hi => by have x := hok i hi; rw [upd_same] at x ⊢; exact x
   | mat e1 e2 xss hole => have x := hok; rw [EntOk, upd_same] at x ⊢; exact x
  ·exact (h.ents j e1 h3).step (Nat.le_refl _) hk (hmE e1 (unment_st hun h3)) (upd_ne ρ _ h1) (fun _ _ _ => rfl) (fun _ _ _ _ _ _ _ _ _ => rfl)
 ·obtain ⟨i, e2, x1, x2, _⟩ := back j e1 he b hb1
  exact h.own i e2 x1 b x2
 ·obtain ⟨i1, f1, x1, x2, x3⟩ := back j e1 h1 b hb1
  obtain ⟨i2, f2, y1, y2, y3⟩ := back j' e2 h2 b hb2
  have := h.inj i1 i2 f1 f2 x1 y1 b x2 y2
  omega
 ·exact (h.env t p hp).2.step hk (fun i hi => upd_ne ρ _ fun hik => by rw [hik, unment_env hun hp] at hi; cases hi) (fun _ _ _ _ _ _ => rfl)
 ·have hr := h.rg t p hp j hj
  have h1 : j ≠ k := fun e1 => by rw [e1, hke] at hr; cases hr; exact hnr rfl
  have h2 : k' ≠ j := fun e1 => by rw [← e1, hd] at hr; cases hr
  rw [aget_cons_ne h2, aget_adel_ne st h1]; exact hr
 ·have hr : aget st i = some .reg := by
   rcases hget j _ hj with ⟨_, hee⟩ | ⟨_, _, hst⟩
   ·subst hee; exact h.rb k t cs hke i hi
   ·exact h.rb j t cs hst i hi
  have h1 : i ≠ k := fun e1 => by rw [e1, hke] at hr; cases hr; exact hnr rfl
  have h2 : k' ≠ i := fun e1 => by rw [← e1, hd] at hr; cases hr
  rw [aget_cons_ne h2, aget_adel_ne st h1]; exact hr
theorem StR.regroup (h : StR S ρ a w σ st) {w' : World} (hos : w'.os = w.os) (ht : w'.tape = w.tape) (ho : w'.output = w.output) (hs : w.heap.size ≤ w'.heap.size) (hdr : w.drawn ≤ w'.drawn)
  (hb : ∀ b, b < w.heap.size → w'.heap[b]? = w.heap[b]?) {ρ' : Nat → Nm} {st' : Store} (T : Nat → Prop)
  (hT : ∀ j, ¬ T j → aget st' j = aget st j ∧ ∀ e, aget st j = some e → ρ' j = ρ j)
  (hTo : ∀ j e, T j → aget st j = some e → e ≠ .reg ∧ ∀ t cs, e ≠ .box t cs)
  (hTn : ∀ j e, T j → aget st' j = some e → (∀ t cs, e ≠ .box t cs) ∧ (∀ b, blk e (ρ' j) b → (∃ i e2, T i ∧ aget st i = some e2 ∧ blk e2 (ρ i) b) ∨ (w.heap.size ≤ b ∧ b < w'.heap.size)) ∧ EntOk w' (liveO S.O ρ' st') S.F ρ' j e)
  (hTi : ∀ j j' e e', T j → T j' → aget st' j = some e → aget st' j' = some e' → ∀ b, blk e (ρ' j) b → blk e' (ρ' j') b → j = j')
  (hm : ∀ t p, aget σ t = some p → ∀ w O v, RP w O S.F ρ v p → RP w O S.F ρ' v p)
  (hme : ∀ (j : Nat) (t : TypeId) (cs : List PV), aget st j = some (.box t cs) → ∀ (c : Nat) (p : PV), cs[c]? = some p → ∀ w O v, RP w O S.F ρ v p → RP w O S.F ρ' v p) : StR S ρ' a w' σ st' := by
 have hlow : ∀ b, b < w.heap.size → ¬ liveO S.O ρ st b → ¬ liveO S.O ρ' st' b := by
  intro b hlt hn h3
  rcases h3 with h3 | ⟨j, e, hj, hbj⟩
  ·exact hn (.inl h3)
  ·by_cases hTj : T j
   ·rcases (hTn j e hTj hj).2.1 b hbj with ⟨i, e2, _, h2, h3⟩ | ⟨h2, _⟩
    ·exact hn (.inr ⟨i, e2, h2, h3⟩)
    ·omega
   ·obtain ⟨g1, g2⟩ := hT j hTj
    rw [g1] at hj
    rw [g2 e hj] at hbj
    exact hn (.inr ⟨j, e, hj, hbj⟩)
 have hk : ∀ b, b < w.heap.size → ¬ liveO S.O ρ st b → w'.heap[b]? = w.heap[b]? ∧ ¬ liveO S.O ρ' st' b := fun b h1 h2 => ⟨hb b h1, hlow b h1 h2⟩
 have hreg : ∀ j, aget st j = some .reg → aget st' j = some .reg := by
  intro j hj
  have : ¬ T j := fun hTj => (hTo j _ hTj hj).1 rfl
  rw [(hT j this).1]; exact hj
 refine ⟨h.sz, h.dfr, h.ob, fun j e he => ?_, fun j e he b hbk => ?_, fun j j' e e' h1 h2 b hb1 hb2 => ?_, fun t p hp => ⟨(h.env t p hp).1, ?_⟩, ?_, fun t p hp j hj => hreg j (h.rg t p hp j hj), fun j t cs hj i hi => ?_, fun g hg => ?_⟩
 rotate_right
 ·obtain ⟨p1, t, cs, p2⟩ := h.pn g hg
  have : ¬ T 0 := fun hTj => (hTo 0 _ hTj p2).2 _ _ rfl
  obtain ⟨g1, g2⟩ := hT 0 this
  exact ⟨by rw [g2 _ p2]; exact p1, t, cs, by rw [g1]; exact p2⟩
 ·by_cases hTj : T j
  ·exact (hTn j e hTj he).2.2
  ·obtain ⟨g1, g2⟩ := hT j hTj
   rw [g1] at he
   have e1 := g2 e he
   have hok := h.ents j e he
   by_cases hbx : ∃ t cs, e = .box t cs
   ·obtain ⟨t, cs, rfl⟩ := hbx
    obtain ⟨cur, x1, x2, x3⟩ := hok
    refine ⟨cur, ?_, x2, fun c p hp => ?_⟩
    ·rw [e1, hb _ (Array.getElem?_eq_some_iff.1 x1).1]; exact x1
    ·obtain ⟨v, y1, y2, y3⟩ := x3 c p hp
     exact ⟨v, y1, y2, hme j t cs he c p hp _ _ _ (y3.step hk (fun _ _ => rfl) (fun _ _ b _ _ h3 => hb b h3))⟩
   ·refine hok.step hs hk (fun i hi => ?_) e1 (fun b _ h2 => hb b h2) (fun t cs he' => absurd ⟨t, cs, he'⟩ hbx)
    cases e <;> first | exact absurd ⟨_, _, rfl⟩ hbx | (simp [Ent.ment] at hi)
 ·by_cases hTj : T j
  ·rcases (hTn j e hTj he).2.1 b hbk with ⟨i, e2, _, h2, h3⟩ | ⟨h2, h3⟩
   ·obtain ⟨x1, x2, x3⟩ := h.own i e2 h2 b h3
    exact ⟨Nat.lt_of_lt_of_le x1 hs, x2, x3⟩
   ·have := h.frm.size
    exact ⟨h3, fun ho => by have := h.ob b ho; omega, .inl (by omega)⟩
  ·obtain ⟨g1, g2⟩ := hT j hTj
   rw [g1] at he
   rw [g2 e he] at hbk
   obtain ⟨x1, x2, x3⟩ := h.own j e he b hbk
   exact ⟨Nat.lt_of_lt_of_le x1 hs, x2, x3⟩
 ·have mix : ∀ j j' e e', ¬ T j → T j' → aget st' j = some e → aget st' j' = some e' → ∀ b, blk e (ρ' j) b → blk e' (ρ' j') b → False := by
   intro j j' e e' hTj hTj' h1 h2 b hb1 hb2
   obtain ⟨g1, g2⟩ := hT j hTj
   rw [g1] at h1
   rw [g2 e h1] at hb1
   rcases (hTn j' e' hTj' h2).2.1 b hb2 with ⟨i, e2, hi, h4, h5⟩ | ⟨h4, _⟩
   ·have := h.inj j i e e2 h1 h4 b hb1 h5
    exact hTj (this ▸ hi)
   ·have := (h.own j e h1 b hb1).1; omega
  by_cases hTj : T j <;> by_cases hTj' : T j'
  ·exact hTi j j' e e' hTj hTj' h1 h2 b hb1 hb2
  ·exact (mix j' j e' e hTj' hTj h2 h1 b hb2 hb1).elim
  ·exact (mix j j' e e' hTj hTj' h1 h2 b hb1 hb2).elim
  ·obtain ⟨g1, g2⟩ := hT j hTj
   obtain ⟨k1, k2⟩ := hT j' hTj'
   rw [g1] at h1
   rw [k1] at h2
   rw [g2 e h1] at hb1
   rw [k2 e' h2] at hb2
   exact h.inj j j' e e' h1 h2 b hb1 hb2
 ·exact hm t p hp _ _ _ ((h.env t p hp).2.step hk (fun _ _ => rfl) (fun _ _ b _ _ h3 => hb b h3))
 ·exact h.frm.trans hos ht ho hs hdr fun b h1 _ => hb b (Nat.lt_of_lt_of_le h1 h.frm.size)
 ·by_cases hTj : T j
  ·exact absurd rfl ((hTn j _ hTj hj).1 t cs)
  ·rw [(hT j hTj).1] at hj
   exact hreg i (h.rb j t cs hj i hi)
theorem RP.away {w : World} {O : Nat → Prop} {base : Nat → Prop} {ρ ρ' : Nat → Nm} {v : Value} {p : PV} (h : RP w O base ρ v p) (hm : ∀ j, p.ment j = true → ρ' j = ρ j) : RP w O base ρ' v p :=
 h.step (fun _ _ hn => ⟨rfl, hn⟩) hm (fun _ _ _ _ _ _ => rfl)
theorem unment_away {k : Nat} (hu : unment k σ st = true) (p : Nm) :
  (∀ t q, aget σ t = some q → ∀ w O v, RP w O S.F ρ v q → RP w O S.F (upd ρ k p) v q) ∧
  ∀ (j : Nat) (t : TypeId) (cs : List PV), aget st j = some (.box t cs) → ∀ (c : Nat) (q : PV), cs[c]? = some q → ∀ w O v, RP w O S.F ρ v q → RP w O S.F (upd ρ k p) v q := by
 refine ⟨fun t q hq w O v hv => hv.away fun j hj => upd_ne ρ _ fun e => ?_, fun j t cs hj c q hq w O v hv => hv.away fun i hi => upd_ne ρ _ fun e => ?_⟩
 ·rw [e, unment_env hu hq] at hj; cases hj
 ·have h1 := unment_st hu hj
  have h2 := PV.mentL_mem hq hi
  rw [e] at h2
  simp only [Ent.ment] at h1
  rw [h1] at h2; cases h2
theorem rwfree_away {k : Nat} (hu : rwfree k σ st = true) (p : Nm) (h1 : p.1 = (ρ k).1 ∧ p.2 = (ρ k).2) :
  (∀ t q, aget σ t = some q → ∀ w O v, RP w O S.F ρ v q → RP w O S.F (upd ρ k p) v q) ∧
  ∀ (j : Nat) (t : TypeId) (cs : List PV), aget st j = some (.box t cs) → ∀ (c : Nat) (q : PV), cs[c]? = some q → ∀ w O v, RP w O S.F ρ v q → RP w O S.F (upd ρ k p) v q := by
 refine ⟨fun t q hq w O v hv => hv.rows (k := k) (by rw [upd_same]; exact h1) (fun j hj => upd_ne ρ _ hj) (rwfree_env hu hq),
  fun j t cs hj c q hq w O v hv => hv.rows (k := k) (by rw [upd_same]; exact h1) (fun j hj => upd_ne ρ _ hj) (PV.rwfL_mem hq (rwfree_st hu hj))⟩
end Go.Proofs.Ytomnmacmlhkceaa
