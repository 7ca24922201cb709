/- The pure layer, calls whose results are not told: they are some of which something is so. No function of the program is named here. -/
import Derived.Test.YtomnmacmlhkceaaQm2
set_option linter.unusedVariables false
set_option linter.unusedSimpArgs false
namespace Go.Proofs.Ytomnmacmlhkceaa
open Go
variable {S : Setting} {ρ : Nat → Nm} {a : Act} {w : World} {σ : Env} {st : Store} {o : Oper} {all : Array Oper}
structure Ex : Type 1 where
 γ : Type
 all : (γ → Prop) → Prop
 allOk : ∀ p, all p → ∀ g, p g
 ex : (γ → Prop) → Prop
 exOk : ∀ p, ex p → ∃ g, p g
 kind : Nat
 Q : γ → Prop
 ds : γ → List D
 r : γ → Res
def PE (P : Program) (f : FuncId) (args : List D) (X : Ex) : Prop :=
 Body P f ∧ ∀ (w : World) (O : Nat → Prop) (vs : List Value), (∀ b, O b → b < w.heap.size) → All2 (R w.cell? O) vs args →
  Calls P f vs.toArray w fun e w' => ∃ v, e = .returned v ∧ Bel w.heap.size w w' ∧ ∃ g, X.Q g ∧ ResOk w.heap.size w' v (X.r g)
def PKE (P : Program) (f : FuncId) (t : TypeId) (kx : D) (ds : List D) (rest : List D) (X : Ex) : Prop :=
 Body P f ∧ ∀ (w : World) (O : Nat → Prop) (g : Nat) (cur : Array Value) (vs : List Value),
  w.heap[g]? = some (.cells cur t (0, 0)) → cur.size = ds.length + 1 → (∀ b, O b → b < w.heap.size) → O g →
  (∀ (j : Nat) (x : D), (kx :: ds)[j]? = some x → ∃ u, cur[j]? = some u ∧ u.oneCell' = true ∧ R w.cell? O u x) → All2 (R w.cell? O) vs rest →
  Calls P f (.pointer (some ⟨g, 0, none⟩) :: vs).toArray w fun en w' => ∃ v, en = .returned v ∧
   w'.os = w.os ∧ w'.tape = w.tape ∧ w'.output = w.output ∧ w.heap.size ≤ w'.heap.size ∧ w.drawn ≤ w'.drawn ∧ (∀ b, b < w.heap.size → b ≠ g → w'.heap[b]? = w.heap[b]?) ∧
   ∃ x : X.γ, X.Q x ∧ (X.ds x).length = ds.length ∧ (∃ cur' : Array Value, w'.heap[g]? = some (.cells cur' t (0, 0)) ∧ cur'.size = ds.length + 1 ∧ cur'[0]? = cur[0]? ∧
    ∀ (j : Nat) (z : D), (X.ds x)[j]? = some z → ∃ u, cur'[j + 1]? = some u ∧ u.oneCell' = true ∧ ∃ g1 O1, R g1 O1 u z) ∧ ResOk w.heap.size w' v (X.r x)
theorem cell_coreE (h : StR S ρ a w σ st) (hd : ∀ d, o.dst = some d → d < S.n) {f : FuncId} {ds : List D} {rest : List D} {X : Ex} {d k : Nat} {t : TypeId} {fr : Bool} {y : D} {cs : List PV} {vs : List Value} {K : Act → World → Prop}
  (hk : aget st k = some (.box t (.d fr y :: cs))) (hcs : cellDs cs = some ds)
  (hrest : All2 (R w.cell? (fun b => S.O b ∨ blk (.box t (.d fr y :: cs)) (ρ k) b)) vs rest) (hpk : PKE S.P f t y.unl ds rest X)
  (hK : ∀ x, X.Q x → flatDs (X.ds x) = true ∧ newOk σ ((k, .box t (.d fr y :: (X.ds x).map (.d true))) :: adel st k) (resNew d 0 (X.r x).list) = true ∧
   ∀ ρ' a' w', StR S ρ' a' w' (eput σ o.dst (resPV d (X.r x))) (resNew d 0 (X.r x).list ++ ((k, .box t (.d fr y :: (X.ds x).map (.d true))) :: adel st k)) → K a' w') :
  Calls S.P f (.pointer (some ⟨(ρ k).1, 0, none⟩) :: vs).toArray w (fun en w' => ∃ v, en = .returned v ∧ K (a.put o.dst v) w') := by
 obtain ⟨hcl, hcg⟩ := cellDs_get hcs
 obtain ⟨hbody, hcall⟩ := hpk
 have hs := h.shutG hk (by simp)
 obtain ⟨cur, e1, e2, e3⟩ := h.ents k _ hk
 have e2 : cur.size = cs.length + 1 := by simpa using e2
 have hlt : (ρ k).1 < w.heap.size := (Array.getElem?_eq_some_iff.1 e1).1
 have := hcall w _ (ρ k).1 cur vs e1 (by rw [e2, hcl]) hs.ob (.inr rfl) (fun j z hz => by
  cases j with
  | zero =>
   simp at hz
   subst hz
   obtain ⟨u, hu, h1c, hr⟩ := e3 0 (.d fr y) rfl
   refine ⟨u, hu, h1c, ?_⟩
   cases hr with
   | d _ _ _ hr =>
    exact R.unl (hr.plain.step fun b _ hb => ⟨rfl, fun ho => hb (by
     rcases ho with ho | ho
     ·exact .inl ho
     ·exact .inr ⟨k, _, hk, ho⟩)⟩)
  | succ j =>
   obtain ⟨hfz, hcz, fr2, hj⟩ := hcg j z (by simpa using hz)
   obtain ⟨u, hu, h1c, hr⟩ := e3 (j + 1) (.d fr2 z) (by simpa using hj)
   refine ⟨u, hu, h1c, ?_⟩
   cases hr with
   | d _ _ _ hr => exact hr.plain.flat hfz) hrest
 refine Calls.mono this fun en w' he => ?_
 obtain ⟨v, rfl, h1, h2, h3, h4, hdr, h5, x, hQ, hlen, ⟨cur', h6, h7, h8, h9⟩, hres⟩ := he
 obtain ⟨hflat, hnew, hK⟩ := hK x hQ
 revert hflat hnew hK hlen h9 hres
 generalize X.ds x = ds'
 generalize X.r x = r
 intro hlen hres h9 hflat hnew hK
 -- the world with the record alone turned
 have hsz : (w.setRow (ρ k).1 cur').heap.size = w.heap.size := by simp
 have hlow : ∀ b, liveO S.O ρ ((k, .box t (.d fr y :: ds'.map (.d true))) :: adel st k) b → liveO S.O ρ st b := by
  intro b h3
  rcases h3 with h3 | ⟨j, e1, hj, hbj⟩
  ·exact .inl h3
  ·rcases aget_cons hj with ⟨rfl, rfl⟩ | ⟨_, hj⟩
   ·exact .inr ⟨j, _, hk, hbj⟩
   ·exact .inr ⟨j, e1, (aget_adel hj).2, hbj⟩
 have hok : EntOk (w.setRow (ρ k).1 cur') (liveO S.O ρ ((k, .box t (.d fr y :: ds'.map (.d true))) :: adel st k)) S.F ρ k (.box t (.d fr y :: ds'.map (.d true))) := by
  refine ⟨cur', setRow_heap w _ cur _ _ _ e1, by simp [h7, hlen], fun j p hp => ?_⟩
  cases j with
  | zero =>
   simp at hp
   subst hp
   obtain ⟨u, hu, h1c, hr⟩ := e3 0 (.d fr y) rfl
   refine ⟨u, by rw [h8]; exact hu, h1c, ?_⟩
   cases hr with
   | d _ _ _ hr =>
    exact .d _ _ _ (hr.step fun b hb hn => ⟨setRow_other w _ b _ fun ee => hn (.inr ⟨k, _, hk, ee⟩), fun h3 => hn (hlow b h3)⟩)
  | succ j =>
   simp only [List.getElem?_cons_succ, List.getElem?_map, Option.map_eq_some_iff] at hp
   obtain ⟨z, hz, rfl⟩ := hp
   obtain ⟨u, hu, h1c, g1, O1, hr⟩ := h9 j z hz
   have hfz := (List.all_eq_true.1 hflat) z (List.mem_of_getElem? hz)
   simp only [Bool.and_eq_true] at hfz
   exact ⟨u, hu, h1c, .d _ _ _ (RD.mk hr (D.flats_of_flat hfz.1))⟩
 have hrb : ∀ t' cs', Ent.box t (.d fr y :: ds'.map (.d true)) = .box t' cs' → ∀ j, PV.rgmL j cs' = true → aget st j = some .reg := by
  intro t' cs' he j hj
  exfalso
  cases he
  have key : ∀ l : List D, PV.rgmL j (l.map (.d true)) = false := by
   intro l
   induction l with
   | nil => rfl
   | cons z r ih => simp [PV.rgmL, PV.rgm, ih]
  simp [PV.rgmL, PV.rgm, key] at hj
 have hw1 := h.writeG k _ (.box t (.d fr y :: ds'.map (.d true))) hk (w' := w.setRow (ρ k).1 cur') rfl rfl rfl (by simp) (fun b _ hne => setRow_other w _ b _ fun ee => hne ee)
  (fun _ => Iff.rfl) (by simp) hrb hok (Nat.le_refl _)
 have hb : Bel (w.setRow (ρ k).1 cur').heap.size (w.setRow (ρ k).1 cur') w' := by
  refine ⟨⟨h1, h2, h3, by rw [hsz]; exact h4, fun b hb => ?_⟩, hdr⟩
  rw [hsz] at hb
  by_cases hbk : b = (ρ k).1
  ·rw [hbk, h6, setRow_heap w _ cur _ _ _ e1]
  ·rw [setRow_other w _ b _ hbk]
   exact h5 b hb hbk
 obtain ⟨ρ', hfin⟩ := call_in hw1 hd hb (by rw [hsz]; exact hres) hnew
 exact ⟨_, rfl, hK ρ' _ _ hfin⟩
end Go.Proofs.Ytomnmacmlhkceaa
