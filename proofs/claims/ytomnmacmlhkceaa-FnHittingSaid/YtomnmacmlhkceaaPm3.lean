/- The pure layer, calls whose results are not told: they are some of which something is so. No function of the program is named here. -/
import Derived.Test.YtomnmacmlhkceaaPm2
set_option linter.unusedVariables false
set_option linter.unusedSimpArgs false
namespace Go.Proofs.Ytomnmacmlhkceaa
open Go

variable {S : Setting} {ρ : Nat → Nm} {a : Act} {w : World} {σ : Env} {st : Store} {o : Oper} {all : Array Oper}

/-- What is told of a call's results: unknowns, what holds of them, the numbers of the record that is turned (if one is), the results. -/
structure Ex : Type 1 where
  γ : Type
  all : (γ → Prop) → Prop
  allOk : ∀ p, all p → ∀ g, p g
  ex : (γ → Prop) → Prop
  exOk : ∀ p, ex p → ∃ g, p g
  cell : Bool
  Q : γ → Prop
  ds : γ → List D
  r : γ → Res

def ex1 {α : Type} (c : Bool) (Q : α → Prop) (ds : α → List D) (r : α → Res) : Ex :=
  { γ := α, all := fun p => ∀ x, p x, allOk := fun _ h => h, ex := fun p => ∃ x, p x, exOk := fun _ h => h, cell := c, Q := Q, ds := ds, r := r }
def ex2 {α β : Type} (c : Bool) (Q : α → β → Prop) (ds : α → β → List D) (r : α → β → Res) : Ex :=
  { γ := α × β, all := fun p => ∀ x y, p (x, y), allOk := fun _ h g => h g.1 g.2, ex := fun p => ∃ x y, p (x, y), exOk := fun _ ⟨x, y, h⟩ => ⟨(x, y), h⟩,
    cell := c, Q := fun g => Q g.1 g.2, ds := fun g => ds g.1 g.2, r := fun g => r g.1 g.2 }
def ex3 {α β δ : Type} (c : Bool) (Q : α → β → δ → Prop) (ds : α → β → δ → List D) (r : α → β → δ → Res) : Ex :=
  { γ := α × β × δ, all := fun p => ∀ x y z, p (x, y, z), allOk := fun _ h g => h g.1 g.2.1 g.2.2, ex := fun p => ∃ x y z, p (x, y, z), exOk := fun _ ⟨x, y, z, h⟩ => ⟨(x, y, z), h⟩,
    cell := c, Q := fun g => Q g.1 g.2.1 g.2.2, ds := fun g => ds g.1 g.2.1 g.2.2, r := fun g => r g.1 g.2.1 g.2.2 }
def ex4 {α β δ ε : Type} (c : Bool) (Q : α → β → δ → ε → Prop) (ds : α → β → δ → ε → List D) (r : α → β → δ → ε → Res) : Ex :=
  { γ := α × β × δ × ε, all := fun p => ∀ x y z u, p (x, y, z, u), allOk := fun _ h g => h g.1 g.2.1 g.2.2.1 g.2.2.2, ex := fun p => ∃ x y z u, p (x, y, z, u), exOk := fun _ ⟨x, y, z, u, h⟩ => ⟨(x, y, z, u), h⟩,
    cell := c, Q := fun g => Q g.1 g.2.1 g.2.2.1 g.2.2.2, ds := fun g => ds g.1 g.2.1 g.2.2.1 g.2.2.2, r := fun g => r g.1 g.2.1 g.2.2.1 g.2.2.2 }
def ex5 {α β δ ε ζ : Type} (c : Bool) (Q : α → β → δ → ε → ζ → Prop) (ds : α → β → δ → ε → ζ → List D) (r : α → β → δ → ε → ζ → Res) : Ex :=
  { γ := α × β × δ × ε × ζ, all := fun p => ∀ x y z u v, p (x, y, z, u, v), allOk := fun _ h g => h g.1 g.2.1 g.2.2.1 g.2.2.2.1 g.2.2.2.2, ex := fun p => ∃ x y z u v, p (x, y, z, u, v), exOk := fun _ ⟨x, y, z, u, v, h⟩ => ⟨(x, y, z, u, v), h⟩,
    cell := c, Q := fun g => Q g.1 g.2.1 g.2.2.1 g.2.2.2.1 g.2.2.2.2, ds := fun g => ds g.1 g.2.1 g.2.2.1 g.2.2.2.1 g.2.2.2.2, r := fun g => r g.1 g.2.1 g.2.2.1 g.2.2.2.1 g.2.2.2.2 }

/-- A contract: the results are some of which something is so. -/
def PE (P : Program) (f : FuncId) (args : List D) (X : Ex) : Prop :=
  Body P f ∧ ∀ (w : World) (O : Nat → Prop) (vs : List Value), (∀ b, O b → b < w.heap.size) → All2 (R w.cell? O) vs args →
    Calls P f vs.toArray w fun e w' => ∃ v, e = .returned v ∧ Bel w.heap.size w w' ∧ ∃ g, X.Q g ∧ ResOk w.heap.size w' v (X.r g)

/-- The same of a call that turns the record behind its first argument. -/
def PKE (P : Program) (f : FuncId) (t : TypeId) (kx : D) (ds : List D) (rest : List D) (X : Ex) : Prop :=
  Body P f ∧ ∀ (w : World) (O : Nat → Prop) (g : Nat) (cur : Array Value) (vs : List Value),
    w.heap[g]? = some (.cells cur t (0, 0)) → cur.size = ds.length + 1 → (∀ b, O b → b < w.heap.size) → O g →
    (∀ (j : Nat) (x : D), (kx :: ds)[j]? = some x → ∃ u, cur[j]? = some u ∧ u.oneCell' = true ∧ R w.cell? O u x) → All2 (R w.cell? O) vs rest →
    Calls P f (.pointer (some ⟨g, 0, none⟩) :: vs).toArray w fun en w' => ∃ v, en = .returned v ∧
      w'.os = w.os ∧ w'.tape = w.tape ∧ w'.output = w.output ∧ w.heap.size ≤ w'.heap.size ∧ w.drawn ≤ w'.drawn ∧ (∀ b, b < w.heap.size → b ≠ g → w'.heap[b]? = w.heap[b]?) ∧
      ∃ x : X.γ, X.Q x ∧ (X.ds x).length = ds.length ∧ (∃ cur' : Array Value, w'.heap[g]? = some (.cells cur' t (0, 0)) ∧ cur'.size = ds.length + 1 ∧ cur'[0]? = cur[0]? ∧
        ∀ (j : Nat) (z : D), (X.ds x)[j]? = some z → ∃ u, cur'[j + 1]? = some u ∧ u.oneCell' = true ∧ ∃ g1 O1, R g1 O1 u z) ∧ ResOk w.heap.size w' v (X.r x)

theorem cell_coreE (h : StR S ρ a w σ st) (hd : ∀ d, o.dst = some d → d < S.n) {f : FuncId} {ds : List D} {rest : List D} {X : Ex} {d k : Nat} {t : TypeId} {fr : Bool} {y : D} {cs : List PV} {vs : List Value} {K : Act → World → Prop}
    (hk : aget st k = some (.box t (.d fr y :: cs))) (hcs : cellDs cs = some ds)
    (hrest : All2 (R w.cell? (fun b => S.O b ∨ blk (.box t (.d fr y :: cs)) (ρ k) b)) vs rest) (hpk : PKE S.P f t y.unl ds rest X)
    (hK : ∀ x, X.Q x → flatDs (X.ds x) = true ∧ newOk σ ((k, .box t (.d fr y :: (X.ds x).map (.d true))) :: adel st k) (resNew d 0 (X.r x).list) = true ∧
      ∀ ρ' a' w', StR S ρ' a' w' (eput σ o.dst (resPV d (X.r x))) (resNew d 0 (X.r x).list ++ ((k, .box t (.d fr y :: (X.ds x).map (.d true))) :: adel st k)) → K a' w') :
    Calls S.P f (.pointer (some ⟨(ρ k).1, 0, none⟩) :: vs).toArray w (fun en w' => ∃ v, en = .returned v ∧ K (a.put o.dst v) w') := by
  obtain ⟨hcl, hcg⟩ := cellDs_get hcs
  obtain ⟨hbody, hcall⟩ := hpk
  have hs := h.shutG hk (by simp)
  obtain ⟨cur, e1, e2, e3⟩ := h.ents k _ hk
  have e2 : cur.size = cs.length + 1 := by simpa using e2
  have hlt : (ρ k).1 < w.heap.size := (Array.getElem?_eq_some_iff.1 e1).1
  have := hcall w _ (ρ k).1 cur vs e1 (by rw [e2, hcl]) hs.ob (.inr rfl) (fun j z hz => by
    cases j with
    | zero =>
      simp at hz
      subst hz
      obtain ⟨u, hu, h1c, hr⟩ := e3 0 (.d fr y) rfl
      refine ⟨u, hu, h1c, ?_⟩
      cases hr with
      | d _ _ _ hr =>
        exact R.unl (hr.plain.step fun b _ hb => ⟨rfl, fun ho => hb (by
          rcases ho with ho | ho
          · exact .inl ho
          · exact .inr ⟨k, _, hk, ho⟩)⟩)
    | succ j =>
      obtain ⟨hfz, hcz, fr2, hj⟩ := hcg j z (by simpa using hz)
      obtain ⟨u, hu, h1c, hr⟩ := e3 (j + 1) (.d fr2 z) (by simpa using hj)
      refine ⟨u, hu, h1c, ?_⟩
      cases hr with
      | d _ _ _ hr => exact hr.plain.flat hfz) hrest
  refine Calls.mono this fun en w' he => ?_
  obtain ⟨v, rfl, h1, h2, h3, h4, hdr, h5, x, hQ, hlen, ⟨cur', h6, h7, h8, h9⟩, hres⟩ := he
  obtain ⟨hflat, hnew, hK⟩ := hK x hQ
  revert hflat hnew hK hlen h9 hres
  generalize X.ds x = ds'
  generalize X.r x = r
  intro hlen hres h9 hflat hnew hK
  -- the world with the record alone turned
  have hsz : (w.setRow (ρ k).1 cur').heap.size = w.heap.size := by simp
  have hlow : ∀ b, liveO S.O ρ ((k, .box t (.d fr y :: ds'.map (.d true))) :: adel st k) b → liveO S.O ρ st b := by
    intro b h3
    rcases h3 with h3 | ⟨j, e1, hj, hbj⟩
    · exact .inl h3
    · rcases aget_cons hj with ⟨rfl, rfl⟩ | ⟨_, hj⟩
      · exact .inr ⟨j, _, hk, hbj⟩
      · exact .inr ⟨j, e1, (aget_adel hj).2, hbj⟩
  have hok : EntOk (w.setRow (ρ k).1 cur') (liveO S.O ρ ((k, .box t (.d fr y :: ds'.map (.d true))) :: adel st k)) S.F ρ k (.box t (.d fr y :: ds'.map (.d true))) := by
    refine ⟨cur', setRow_heap w _ cur _ _ _ e1, by simp [h7, hlen], fun j p hp => ?_⟩
    cases j with
    | zero =>
      simp at hp
      subst hp
      obtain ⟨u, hu, h1c, hr⟩ := e3 0 (.d fr y) rfl
      refine ⟨u, by rw [h8]; exact hu, h1c, ?_⟩
      cases hr with
      | d _ _ _ hr =>
        exact .d _ _ _ (hr.step fun b hb hn => ⟨setRow_other w _ b _ fun ee => hn (.inr ⟨k, _, hk, ee⟩), fun h3 => hn (hlow b h3)⟩)
    | succ j =>
      simp only [List.getElem?_cons_succ, List.getElem?_map, Option.map_eq_some_iff] at hp
      obtain ⟨z, hz, rfl⟩ := hp
      obtain ⟨u, hu, h1c, g1, O1, hr⟩ := h9 j z hz
      have hfz := (List.all_eq_true.1 hflat) z (List.mem_of_getElem? hz)
      simp only [Bool.and_eq_true] at hfz
      exact ⟨u, hu, h1c, .d _ _ _ (RD.mk hr (D.flats_of_flat hfz.1))⟩
  have hrb : ∀ t' cs', Ent.box t (.d fr y :: ds'.map (.d true)) = .box t' cs' → ∀ j, PV.rgmL j cs' = true → aget st j = some .reg := by
    intro t' cs' he j hj
    exfalso
    cases he
    have key : ∀ l : List D, PV.rgmL j (l.map (.d true)) = false := by
      intro l
      induction l with
      | nil => rfl
      | cons z r ih => simp [PV.rgmL, PV.rgm, ih]
    simp [PV.rgmL, PV.rgm, key] at hj
  have hw1 := h.writeG k _ (.box t (.d fr y :: ds'.map (.d true))) hk (w' := w.setRow (ρ k).1 cur') rfl rfl rfl (by simp) (fun b _ hne => setRow_other w _ b _ fun ee => hne ee)
    (fun _ => Iff.rfl) (by simp) hrb hok (Nat.le_refl _)
  have hb : Bel (w.setRow (ρ k).1 cur').heap.size (w.setRow (ρ k).1 cur') w' := by
    refine ⟨⟨h1, h2, h3, by rw [hsz]; exact h4, fun b hb => ?_⟩, hdr⟩
    rw [hsz] at hb
    by_cases hbk : b = (ρ k).1
    · rw [hbk, h6, setRow_heap w _ cur _ _ _ e1]
    · rw [setRow_other w _ b _ hbk]
      exact h5 b hb hbk
  obtain ⟨ρ', hfin⟩ := call_in hw1 hd hb (by rw [hsz]; exact hres) hnew
  exact ⟨_, rfl, hK ρ' _ _ hfin⟩

def andQ : List Prop → Prop → Prop
  | [], q => q
  | p :: r, q => p ∧ andQ r q

theorem andQ_ok : ∀ {l : List Prop} {q : Prop}, andQ l q → (∀ p ∈ l, p) ∧ q
  | [], _, h => ⟨by simp, h⟩
  | p :: r, q, h => by
    obtain ⟨h1, h2⟩ := h
    obtain ⟨h3, h4⟩ := andQ_ok h2
    refine ⟨fun x hx => ?_, h4⟩
    rcases List.mem_cons.1 hx with rfl | hx
    · exact h1
    · exact h3 x hx

/-- A call whose results are some of which something is so: what it asks, and what comes behind it. -/
def exStep (P : Program) (X : Ex) (o : Oper) (σ : Env) (st : Store) (next : X.γ → Env → Store → Prop) : Prop :=
  match o.guard, o.op with
  | none, .call c =>
    match c.callee, c.args.toList with
    | .value (.func f), l =>
      match X.cell, l with
      | false, xs =>
        andQ (snapL st (xs.map (evP σ)) ++ [PE P f ((xs.map (evP σ)).map (snapV 4 st)) X])
          (X.all fun g => X.Q g → (newOk σ st (resNew (o.dst.getD 0) 0 (X.r g).list) = true ∧ next g (eput σ o.dst (resPV (o.dst.getD 0) (X.r g))) (resNew (o.dst.getD 0) 0 (X.r g).list ++ st)))
      | true, x :: xs =>
        match evP σ x with
        | .ptr k 0 =>
          match aget st k with
          | some (.box t (.d fr y :: cs)) =>
            match cellDs cs with
            | some ds => andQ (snapL (adel st k) (xs.map (evP σ)) ++ [PKE P f t y.unl ds ((xs.map (evP σ)).map (snapV 4 (adel st k))) X])
                (X.all fun g => X.Q g → ((flatDs (X.ds g) && newOk σ ((k, .box t (.d fr y :: (X.ds g).map (.d true))) :: adel st k) (resNew (o.dst.getD 0) 0 (X.r g).list)) = true ∧
                  next g (eput σ o.dst (resPV (o.dst.getD 0) (X.r g))) (resNew (o.dst.getD 0) 0 (X.r g).list ++ ((k, .box t (.d fr y :: (X.ds g).map (.d true))) :: adel st k))))
            | _ => False
          | _ => False
        | _ => False
      | _, _ => False
    | _, _ => False
  | _, _ => False

theorem exStep_wanted {P : Program} {X : Ex} {next : X.γ → Env → Store → Prop} (hp : exStep P X o σ st next) (a : Act) : Region.wanted o (yielded all a.tmps) = true := by
  unfold exStep at hp
  split at hp
  · rename_i c hg ho
    simp [Region.wanted, hg]
  · exact hp.elim

theorem exStep_good (h : StR S ρ a w σ st) (hd : ∀ d, o.dst = some d → d < S.n) {X : Ex} {next : X.γ → Env → Store → Prop} {K : Act → World → Prop} {Q : Exit → Act → World → Prop} (hp : exStep S.P X o σ st next)
    (hn : ∀ g ρ' a' w' σ' st', StR S ρ' a' w' σ' st' → next g σ' st' → K a' w') : o.wp S.P a w K Q := by
  unfold exStep at hp
  split at hp
  rotate_left
  · exact hp.elim
  rename_i c hg ho
  split at hp
  rotate_left
  · exact hp.elim
  rename_i f hc
  split at hp
  · -- a plain call
    obtain ⟨hl, hall⟩ := andQ_ok hp
    have hsn : ∀ q ∈ snapL st (c.args.toList.map (evP σ)), q := fun q hq => hl q (by simp [hq])
    obtain ⟨hbody, hcall⟩ : PE S.P f ((c.args.toList.map (evP σ)).map (snapV 4 st)) X := hl _ (by simp)
    have hrest : All2 (R w.cell? S.O) (c.args.toList.map a.eval) ((c.args.toList.map (evP σ)).map (snapV 4 st)) := by
      refine ⟨by simp, fun j v d hv hd => ?_⟩
      simp only [List.getElem?_map, Option.map_eq_some_iff] at hv hd
      obtain ⟨y, hy, rfl⟩ := hv
      obtain ⟨p, ⟨y', hy', rfl⟩, rfl⟩ := hd
      rw [hy] at hy'; cases hy'
      exact snap_ok h 4 _ _ (evP_ok h y) (snapL_P st _ hsn _ (List.mem_map_of_mem (List.mem_of_getElem? hy)))
    have := hcall w S.O (c.args.toList.map a.eval) (fun b hb => Nat.lt_of_lt_of_le (h.ob b hb) h.frm.size) hrest
    unfold Oper.wp
    rw [call_exec ho hc hbody]
    have ea : c.args.map a.eval = (c.args.toList.map a.eval).toArray := by rw [← Array.toList_map]
    rw [ea]
    refine Calls.mono this fun en w' he => ?_
    obtain ⟨v, rfl, hb, g, hQ, hres⟩ := he
    obtain ⟨hnew, hnx⟩ := X.allOk _ hall g hQ
    obtain ⟨ρ', hfin⟩ := call_in h hd hb hres hnew
    exact hn g ρ' _ _ _ _ hfin hnx
  · -- a call that turns a record
    rename_i x xs hX hargs0
    have hargs : c.args = (x :: xs).toArray := by rw [← hargs0]
    split at hp
    rotate_left
    · exact hp.elim
    rename_i k hx1
    split at hp
    rotate_left
    · exact hp.elim
    rename_i t fr y cs hk
    split at hp
    rotate_left
    · exact hp.elim
    rename_i ds hcs
    obtain ⟨hl, hall⟩ := andQ_ok hp
    have hsn : ∀ p ∈ snapL (adel st k) (xs.map (evP σ)), p := fun p hq => hl p (List.mem_append_left _ hq)
    have hpk : PKE S.P f t y.unl ds ((xs.map (evP σ)).map (snapV 4 (adel st k))) X := hl _ (List.mem_append_right _ (List.mem_singleton.2 rfl))
    have hs := h.shutG hk (by simp)
    have hrest : All2 (R w.cell? (fun b => S.O b ∨ blk (.box t (.d fr y :: cs)) (ρ k) b)) (xs.map a.eval) ((xs.map (evP σ)).map (snapV 4 (adel st k))) := by
      refine ⟨by simp, fun j v d hv hd => ?_⟩
      simp only [List.getElem?_map, Option.map_eq_some_iff] at hv hd
      obtain ⟨y, hy, rfl⟩ := hv
      obtain ⟨p, ⟨y', hy', rfl⟩, rfl⟩ := hd
      rw [hy] at hy'; cases hy'
      exact snap_ok hs 4 _ _ (evP_ok hs y) (snapL_P (adel st k) _ hsn _ (List.mem_map_of_mem (List.mem_of_getElem? hy)))
    have hvx := evP_ok h x
    rw [hx1] at hvx
    have hv : a.eval x = .pointer (some ⟨(ρ k).1, 0, none⟩) := by
      revert hvx
      generalize a.eval x = u
      intro hvx
      cases hvx
      rfl
    unfold Oper.wp
    rw [call_exec ho hc hpk.1]
    have ea : c.args.map a.eval = (.pointer (some ⟨(ρ k).1, 0, none⟩) :: xs.map a.eval).toArray := by rw [hargs, ← hv]; simp
    rw [ea]
    refine Calls.mono (cell_coreE (d := o.dst.getD 0) h hd hk hcs hrest hpk (K := K) fun g hQ => ?_) fun en w' he => ?_
    · obtain ⟨hb, hnx⟩ := X.allOk _ hall g hQ
      rw [Bool.and_eq_true] at hb
      exact ⟨hb.1, hb.2, fun ρ' a' w' hst => hn g ρ' a' w' _ _ hst hnx⟩
    · obtain ⟨v, rfl, hv2⟩ := he
      exact hv2
  · exact hp.elim
end Go.Proofs.Ytomnmacmlhkceaa
