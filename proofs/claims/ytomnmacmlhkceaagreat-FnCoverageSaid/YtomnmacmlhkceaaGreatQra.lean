/- The pure layer: contracts of functions whose results are some of which something is so. No function of the program is named here. -/
import Derived.Test.YtomnmacmlhkceaaGreatQr
set_option linter.unusedVariables false
set_option linter.unusedSimpArgs false
namespace Go.Proofs.YtomnmacmlhkceaaGreat
open Go
variable {S : Setting} {ρ : Nat → Nm} {a : Act} {w : World} {σ : Env} {st : Store}
def retX (P : Program) (rvs : List ResultVar) (X : Ex) : Post := fun e σ st =>
 match e with
 | .normal => X.ex fun g => allP (X.Q g :: retPs P rvs (X.r g) σ st)
 | .ret => X.ex fun g => allP (X.Q g :: retPs P rvs (X.r g) σ st)
 | _ => False
theorem pe_of {P : Program} {f : FuncId} {fn : Func} {c : Code} (hm : P.follows .mixedOrders = true) (hf : P.funcs[f]? = some fn) (hbody : Body P f) (hb : fn.body = some c) (C : FuncId → List D → Orc) (A : Ann) {args : List D} {X : Ex}
  (hB : (Nat.ble args.length fn.ntmps && codeB fn.ntmps c) = true) (hv : vc P C c A (env0 0 args) [] (retX P fn.results.toList X)) : PE P f args X := by
 refine ⟨hbody, fun w O vs hO hall => ?_⟩
 simp only [Bool.and_eq_true] at hB
 have hle := Nat.le_of_ble_eq_true hB.1
 refine calls_of_wp hf hb ?_
 let S : Setting := { P := P, n := fn.ntmps, w0 := w, O := O, may := fun _ => False, F := fun b => b < w.heap.size, fb := fun _ h => h }
 have hst : StR S (fun _ => nm 0 0) { tmps := vs.toArray ++ Array.replicate (fn.ntmps - vs.toArray.size) undef, defers := [] } w (env0 0 args) [] := by
  have hvl := hall.1
  refine ⟨?_, rfl, hO, fun k e hk => by simp [aget] at hk, fun k e hk => by simp [aget] at hk, fun k k' e e' hk => by simp [aget] at hk, fun t p hp => ?_, ⟨rfl, rfl, rfl, Nat.le_refl _, Nat.le_refl _, fun _ _ _ => rfl⟩, fun t p hp j hj => ?_, fun k t cs hk => by simp [aget] at hk, fun _ hg => by cases hg⟩
  ·show (vs.toArray ++ Array.replicate (fn.ntmps - vs.toArray.size) undef).size = fn.ntmps
   simp; omega
  ·obtain ⟨j, x, h1, h2, h3⟩ := env0_get args 0 t p hp
   rw [Nat.zero_add] at h1
   subst h1 h3
   have hj : t < args.length := (List.getElem?_eq_some_iff.1 h2).1
   refine ⟨by show t < fn.ntmps; omega, ?_⟩
   have hjv : t < vs.length := by omega
   have hv := List.getElem?_eq_getElem hjv
   have hr := hall.2 t _ x hv h2
   have e : (vs.toArray ++ Array.replicate (fn.ntmps - vs.toArray.size) undef).getD t undef = vs[t] := by
    simp [Array.getD, Array.getElem_append, hjv]
    omega
   show RP w _ _ _ ((vs.toArray ++ Array.replicate (fn.ntmps - vs.toArray.size) undef).getD t undef) _
   rw [e]
   refine .d _ _ _ (hr.step fun b hb hn => ⟨rfl, fun ho => ?_⟩)
   rcases ho with ho | ⟨k, e, hk, _⟩
   ·exact hn ho
   ·simp [aget] at hk
  ·obtain ⟨j', x, _, _, h3⟩ := env0_get args 0 t p hp
   subst h3
   simp [PV.rgm] at hj
 refine vc_ok (S := S) hm (fun _ h => h.elim) c A _ _ _ _ _ _ _ hB.2 hst hv ?_
 intro e ρ a' w' σ' st' hst' hk
 have fin : (X.ex fun g => allP (X.Q g :: retPs P fn.results.toList (X.r g) σ' st')) → a'.defers = [] ∧ ∃ v, (results fn a'.tmps).run P w' = .ok v w' ∧ ∃ v', (Ending.returned v : Ending) = .returned v' ∧ Bel w.heap.size w w' ∧ ∃ g, X.Q g ∧ ResOk w.heap.size w' v' (X.r g) := by
  intro hk
  obtain ⟨g, hk⟩ := X.exOk _ hk
  obtain ⟨v, h1, h2⟩ := ret_ok hst' (fun _ h => h) (fun _ h => h) (fun q hq => allP_mem hk q (List.mem_cons_of_mem _ hq))
  refine ⟨hst'.dfr, v, h1, v, rfl, ?_, g, allP_mem hk _ List.mem_cons_self, h2⟩
  exact ⟨⟨hst'.frm.os, hst'.frm.tape, hst'.frm.output, hst'.frm.size, fun b hb => hst'.frm.block b hb fun h => h⟩, hst'.frm.drawn⟩
 cases e with
 | normal => exact fin hk
 | ret => exact fin hk
 | _ => exact hk.elim
theorem pe_by {P : Program} {f : FuncId} {fn : Func} {Q : Prop} (hm : P.follows .mixedOrders = true) (hf : P.funcs[f]? = some fn) (hbody : Body P f) (hb : fn.body = some (bodyOf fn)) (C : FuncId → List D → Orc) (A : Ann) {args : List D} {X : Ex}
  (hB : (Nat.ble args.length fn.ntmps && codeB fn.ntmps (bodyOf fn)) = true) (hq : Q) (hv : vc P C (bodyOf fn) A (env0 0 args) [] (retX P fn.results.toList X) = Q) : PE P f args X :=
 pe_of hm hf hbody hb C A hB (hv ▸ hq)
def retKX (P : Program) (rvs : List ResultVar) (t : TypeId) (kx : D) (n : Nat) (X : Ex) : Post := fun e σ st =>
 let go : Prop := match aget st 0 with
  | some (.box t' (.d _ y :: cs)) => match cellDs cs, Nat.beq t t' with
   | some ds1, true => X.ex fun x => allP (X.Q x :: ((flatDs (X.ds x) && Nat.beq (X.ds x).length n) = true) :: (y = kx) :: (aEq ds1 (X.ds x) ++ retPsA [0] P rvs (X.r x) σ st))
   | _, _ => False
  | _ => False
 match e with
 | .normal => go
 | .ret => go
 | _ => False
theorem pke_of {P : Program} {f : FuncId} {fn : Func} {c : Code} (hm : P.follows .mixedOrders = true) (hf : P.funcs[f]? = some fn) (hbody : Body P f) (hb : fn.body = some c) (C : FuncId → List D → Orc) (A : Value → Ann) {t : TypeId} {kx : D} {ds rest : List D} {X : Ex}
  (hB : (Nat.ble (rest.length + 1) fn.ntmps && codeB fn.ntmps c && flatDs ds) = true)
  (hv : ∀ u : Value, vc P C c (A u) ((0, .ptr 0 0) :: env0 1 rest) [(0, .box t (.d false (.lit u kx) :: ds.map (.d false)))] (retKX P fn.results.toList t (.lit u kx) ds.length X)) : PKE P f t kx ds rest X := by
 simp only [Bool.and_eq_true] at hB
 obtain ⟨⟨hle, hcb⟩, hfl⟩ := hB
 have hle := Nat.le_of_ble_eq_true hle
 refine ⟨hbody, fun w O g cur vs hg hsz hO hOg hcells hall => ?_⟩
 refine calls_of_wp hf hb ?_
 obtain ⟨u, hu, hu1, hur⟩ := hcells 0 kx rfl
 have hglt : g < w.heap.size := hO g hOg
 let S : Setting := { P := P, n := fn.ntmps, w0 := w, O := fun b => O b ∧ b ≠ g, may := fun b => b = g, F := fun b => b < w.heap.size ∧ b ≠ g, fb := fun _ h => h.1, pin := some g }
 have hlive : ∀ b, liveO S.O (fun _ => nm g 0) [(0, .box t (.d false (.lit u kx) :: ds.map (.d false)))] b → O b := by
  intro b hb
  rcases hb with hb | ⟨k, e, hk, hbk⟩
  ·exact hb.1
  ·rcases aget_cons hk with ⟨rfl, rfl⟩ | ⟨_, hk⟩
   ·have : b = g := hbk
    rw [this]; exact hOg
   ·simp [aget] at hk
 have hst : StR S (fun _ => nm g 0) { tmps := (.pointer (some ⟨g, 0, none⟩) :: vs).toArray ++ Array.replicate (fn.ntmps - (.pointer (some ⟨g, 0, none⟩) :: vs).toArray.size) undef, defers := [] } w ((0, .ptr 0 0) :: env0 1 rest)
   [(0, .box t (.d false (.lit u kx) :: ds.map (.d false)))] := by
  have hvl := hall.1
  have h0 : ∀ k e, aget [(0, Ent.box t (.d false (.lit u kx) :: ds.map (.d false)))] k = some e → k = 0 ∧ e = .box t (.d false (.lit u kx) :: ds.map (.d false)) := by
   intro k e hk
   rcases aget_cons hk with h | ⟨_, hk⟩
   ·exact h
   ·simp [aget] at hk
  refine ⟨?_, rfl, fun b hb => hO b hb.1, fun k e hk => ?_, fun k e hk b hbk => ?_, fun k k' e e' hk hk' _ _ _ => by rw [(h0 k e hk).1, (h0 k' e' hk').1], fun t' p hp => ?_, ⟨rfl, rfl, rfl, Nat.le_refl _, Nat.le_refl _, fun _ _ _ => rfl⟩, fun t' p hp j hj => ?_, fun k t' cs hk j hj => ?_, fun _ hg => by cases hg; exact ⟨rfl, _, _, rfl⟩⟩
  ·show ((Value.pointer (some ⟨g, 0, none⟩) :: vs).toArray ++ Array.replicate (fn.ntmps - (Value.pointer (some ⟨g, 0, none⟩) :: vs).toArray.size) undef).size = fn.ntmps
   simp; omega
  ·obtain ⟨rfl, rfl⟩ := h0 k e hk
   refine ⟨cur, hg, by simp [hsz], fun j p hp => ?_⟩
   cases j with
   | zero =>
    simp at hp
    subst hp
    exact ⟨u, hu, hu1, .d _ _ _ (.lit u kx hu1 (hur.step fun b _ hn => ⟨rfl, fun h3 => hn (hlive b h3)⟩))⟩
   | succ j =>
    simp only [List.getElem?_cons_succ, List.getElem?_map, Option.map_eq_some_iff] at hp
    obtain ⟨z, hz, rfl⟩ := hp
    obtain ⟨u2, h1, h2, h3⟩ := hcells (j + 1) z (by simpa using hz)
    have hfz := (List.all_eq_true.1 hfl) z (List.mem_of_getElem? hz)
    simp only [Bool.and_eq_true] at hfz
    exact ⟨u2, h1, h2, .d _ _ _ (h3.flat hfz.1)⟩
  ·obtain ⟨rfl, rfl⟩ := h0 k e hk
   have : b = g := hbk
   subst this
   exact ⟨hglt, fun h => h.2 rfl, .inr rfl⟩
  ·rcases aget_cons hp with ⟨rfl, rfl⟩ | ⟨_, hp⟩
   ·refine ⟨by show 0 < fn.ntmps; omega, ?_⟩
    have e : ((Value.pointer (some ⟨g, 0, none⟩) :: vs).toArray ++ Array.replicate (fn.ntmps - (Value.pointer (some ⟨g, 0, none⟩) :: vs).toArray.size) undef).getD 0 undef = .pointer (some ⟨g, 0, none⟩) := by
     simp [Array.getD, Array.getElem_append]
    show RP w _ _ _ (((Value.pointer (some ⟨g, 0, none⟩) :: vs).toArray ++ Array.replicate (fn.ntmps - (Value.pointer (some ⟨g, 0, none⟩) :: vs).toArray.size) undef).getD 0 undef) _
    rw [e]
    exact RP.ptr (ρ := fun _ => nm g 0) 0 0
   ·obtain ⟨j, x, h1, h2, h3⟩ := env0_get rest 1 t' p hp
    subst h1 h3
    have hj : j < rest.length := (List.getElem?_eq_some_iff.1 h2).1
    refine ⟨by show 1 + j < fn.ntmps; omega, ?_⟩
    have hjv : j < vs.length := by omega
    have hr := hall.2 j _ x (List.getElem?_eq_getElem hjv) h2
    have e : ((Value.pointer (some ⟨g, 0, none⟩) :: vs).toArray ++ Array.replicate (fn.ntmps - (Value.pointer (some ⟨g, 0, none⟩) :: vs).toArray.size) undef).getD (1 + j) undef = vs[j] := by
     have h1 : 1 + j = j + 1 := by omega
     have h2 : j + 1 < fn.ntmps := by omega
     simp [Array.getD, Array.getElem_append, hjv, h1]
     omega
    show RP w _ _ _ (((Value.pointer (some ⟨g, 0, none⟩) :: vs).toArray ++ Array.replicate (fn.ntmps - (Value.pointer (some ⟨g, 0, none⟩) :: vs).toArray.size) undef).getD (1 + j) undef) _
    rw [e]
    exact .d _ _ _ (hr.step fun b hb hn => ⟨rfl, fun h3 => hn (hlive b h3)⟩)
  ·rcases aget_cons hp with ⟨rfl, rfl⟩ | ⟨_, hp⟩
   ·simp [PV.rgm] at hj
   ·obtain ⟨j', x, _, _, h3⟩ := env0_get rest 1 t' p hp
    subst h3
    simp [PV.rgm] at hj
  ·obtain ⟨rfl, he⟩ := h0 k _ hk
   cases he
   exfalso
   have key : ∀ l : List D, PV.rgmL j (l.map (.d false)) = false := by
    intro l
    induction l with
    | nil => rfl
    | cons z r ih => simp [PV.rgmL, PV.rgm, ih]
   simp [PV.rgmL, PV.rgm, key] at hj
 refine vc_ok (S := S) hm (fun b hb h => h.2 hb) c (A u) _ _ _ _ _ _ _ hcb hst (hv u) ?_
 intro e ρ a' w' σ' st' hst' hk
 have fin : (match aget st' 0 with
  | some (.box t' (.d _ y :: cs)) => match cellDs cs, Nat.beq t t' with
   | some ds1, true => X.ex fun x => allP (X.Q x :: ((flatDs (X.ds x) && Nat.beq (X.ds x).length ds.length) = true) :: (y = .lit u kx) :: (aEq ds1 (X.ds x) ++ retPsA [0] P fn.results.toList (X.r x) σ' st'))
   | _, _ => False
  | _ => False) → a'.defers = [] ∧ ∃ v, (results fn a'.tmps).run P w' = .ok v w' ∧ ∃ v', (Ending.returned v : Ending) = .returned v' ∧
   w'.os = w.os ∧ w'.tape = w.tape ∧ w'.output = w.output ∧ w.heap.size ≤ w'.heap.size ∧ w.drawn ≤ w'.drawn ∧ (∀ b, b < w.heap.size → b ≠ g → w'.heap[b]? = w.heap[b]?) ∧
   ∃ x : X.γ, X.Q x ∧ (X.ds x).length = ds.length ∧ (∃ cur' : Array Value, w'.heap[g]? = some (.cells cur' t (0, 0)) ∧ cur'.size = ds.length + 1 ∧ cur'[0]? = cur[0]? ∧
    ∀ (j : Nat) (z : D), (X.ds x)[j]? = some z → ∃ u, cur'[j + 1]? = some u ∧ u.oneCell' = true ∧ ∃ g1 O1, R g1 O1 u z) ∧ ResOk w.heap.size w' v' (X.r x) := by
  intro hk
  split at hk
  rotate_left
  ·exact hk.elim
  rename_i t' fr y cs h0
  split at hk
  rotate_left
  ·exact hk.elim
  rename_i ds1 hcs ht
  have ht := beq_true.1 ht
  subst ht
  obtain ⟨x, hk⟩ := X.exOk _ hk
  have hall' := allP_mem hk
  have hQ : X.Q x := hall' _ List.mem_cons_self
  have hfl' := hall' _ (List.mem_cons_of_mem _ List.mem_cons_self)
  rw [Bool.and_eq_true] at hfl'
  have hlen := beq_true.1 hfl'.2
  have hall' := fun q hq => hall' q (List.mem_cons_of_mem _ (List.mem_cons_of_mem _ hq))
  have hy : y = .lit u kx := hall' _ List.mem_cons_self
  subst hy
  have haq : ∀ q ∈ aEq ds1 (X.ds x), q := fun q hq => hall' q (List.mem_cons_of_mem _ (List.mem_append_left _ hq))
  obtain ⟨cur', c1, c2, c3⟩ := hst'.ents 0 _ h0
  obtain ⟨hcl, hcg⟩ := cellDs_get hcs
  have hl1 := aEq_len haq
  -- the record is the caller's
  have hblk : (ρ 0).1 = g := (hst'.pn g rfl).1
  rw [hblk] at c1
  obtain ⟨v, h1, h2⟩ := ret_okA [0] hst' (fun b hb h => h.2 hb) (fun b hb => by
   by_cases hbg : b = g
   ·exact .inr ⟨0, _, List.mem_singleton.2 rfl, h0, by rw [hbg, ← hblk]; rfl⟩
   ·exact .inl ⟨hb, hbg⟩) (fun k e hk hnb b hbk => by
   rcases (hst'.own k _ hk _ hbk).2.2 with h7 | h7
   ·exact h7
   ·exfalso
    have h7 : b = g := h7
    have := hst'.inj k 0 _ _ hk h0 b hbk (by rw [h7, ← hblk]; rfl)
    subst this
    rw [h0] at hk; cases hk
    exact hnb _ _ rfl) (fun q hq => hall' q (List.mem_cons_of_mem _ (List.mem_append_right _ hq)))
  refine ⟨hst'.dfr, v, h1, v, rfl, hst'.frm.os, hst'.frm.tape, hst'.frm.output, hst'.frm.size, hst'.frm.drawn, fun b hb hbg => hst'.frm.block b hb hbg, x, hQ, hlen, ⟨cur', c1, by rw [c2]; simp [hcl, hl1, hlen], ?_, fun j z hz => ?_⟩, h2⟩
  ·obtain ⟨u0, hu0, _, hr0⟩ := c3 0 _ rfl
   have : u0 = u := by
    cases hr0 with
    | d _ _ _ hr0 =>
     have hr0 := hr0.plain
     cases hr0
     rfl
   rw [hu0, hu, this]
  ·have hj : j < ds1.length := by rw [hl1]; exact (List.getElem?_eq_some_iff.1 hz).1
   obtain ⟨hfz, hcz, fr2, hjc⟩ := hcg j ds1[j] (List.getElem?_eq_getElem hj)
   obtain ⟨u2, hu2, ho2, hr2⟩ := c3 (j + 1) _ (by simpa using hjc)
   refine ⟨u2, hu2, ho2, w'.cell?, liveO S.O ρ st', ?_⟩
   cases hr2 with
   | d _ _ _ hr2 => exact aEq_get haq j u2 z (fun z hz => by rw [List.getElem?_eq_getElem hj] at hz; cases hz; exact hr2.plain) hz
 cases e with
 | normal => exact fin hk
 | ret => exact fin hk
 | _ => exact hk.elim
theorem pke_by {P : Program} {f : FuncId} {fn : Func} {Q : Value → Prop} (hm : P.follows .mixedOrders = true) (hf : P.funcs[f]? = some fn) (hbody : Body P f) (hb : fn.body = some (bodyOf fn)) (C : FuncId → List D → Orc) (A : Value → Ann) {t : TypeId} {kx : D} {ds rest : List D} {X : Ex}
  (hB : (Nat.ble (rest.length + 1) fn.ntmps && codeB fn.ntmps (bodyOf fn) && flatDs ds) = true) (hq : ∀ u, Q u)
  (hv : ∀ u : Value, vc P C (bodyOf fn) (A u) ((0, .ptr 0 0) :: env0 1 rest) [(0, .box t (.d false (.lit u kx) :: ds.map (.d false)))] (retKX P fn.results.toList t (.lit u kx) ds.length X) = Q u) : PKE P f t kx ds rest X :=
 pke_of hm hf hbody hb C A hB fun u => hv u ▸ hq u
theorem ret_okN {fn : Func} (av : List Nat) (h : StR S ρ a w σ st) (hmay : ∀ b, S.may b → ¬ S.F b) 
  {N : Nat → Prop} (hN : ∀ b, ¬ N b → S.F b ∨ ∃ k e, k ∈ av ∧ aget st k = some e ∧ blk e (ρ k) b)
  (hown : ∀ k e, aget st k = some e → (∀ t cs, e ≠ .box t cs) → ∀ b, blk e (ρ k) b → N b) {r : Res} (hp : ∀ q ∈ retPsA av S.P fn.results.toList r σ st, q) :
  ∃ v, (results fn a.tmps).run S.P w = .ok v w ∧ ResOkN N w v r := by
 unfold retPsA at hp
 simp only at hp
 split at hp
 rotate_left
 ·exact (hp _ (List.mem_singleton.2 rfl)).elim
 rename_i hb
 simp only [Bool.and_eq_true] at hb
 obtain ⟨hnd, hlen⟩ := hb
 obtain ⟨vs0, h1, h2, h3, h4⟩ := retVals_ok h fn.results.toList fun q hq => hp q (List.mem_append_left _ hq)
 obtain ⟨h5, h6⟩ := retAll_get _ _ fun q hq => hp q (List.mem_append_right _ hq)
 have hrun : (results fn a.tmps).run S.P w = .ok (if hh : vs0.toArray.size = 1 then vs0.toArray[0] else .tuple vs0.toArray) w := by
  have e0 : results fn a.tmps = (do
    let vs ← fn.results.mapM (resVal a.tmps)
    pure (if h : vs.size = 1 then vs[0] else .tuple vs)) := by
   unfold results
   congr 1
  rw [e0]
  have e : fn.results = fn.results.toList.toArray := by simp
  rw [e]
  simp only [List.mapM_toArray, Sem.run_bind, Sem.run_map, h3]
  rfl
 clear h3 hp
 revert hnd hlen h2 h4 h5 h6
 generalize (retVals S.P σ st fn.results.toList).2 = L
 intro hnd hlen h2 h4 h5 h6
 obtain ⟨vs, hval, hvl', hvs⟩ : ∃ vs : List Value, (if hh : vs0.toArray.size = 1 then vs0.toArray[0] else .tuple vs0.toArray) = r.value vs ∧ vs.length = (partsOf r L).length ∧
   ∀ (j : Nat) (v : Value) (p : PV), vs[j]? = some v → (partsOf r L)[j]? = some p → RPs S ρ w st v p := by
  cases r with
  | one re =>
   refine ⟨vs0, ?_, h1.trans h2.symm, h4⟩
   have hl1 : vs0.toArray.size = 1 := by rw [List.size_toArray, h1]; exact beq_true.1 hlen
   rw [dif_pos hl1]
   have : 0 < vs0.length := by simpa using (by omega : 0 < vs0.toArray.size)
   simp [Res.value, List.getD, this]
  | tup rs =>
   refine ⟨vs0, ?_, h1.trans h2.symm, h4⟩
   have hl1 : ¬ vs0.toArray.size = 1 := by
    rw [List.size_toArray, h1]
    simp only [Bool.not_eq_true'] at hlen
    exact beq_false.1 hlen
   rw [dif_neg hl1]
   rfl
  | agg rs =>
   have : ∃ qs, L = [.agg qs] := by
    have hlen : isAgg L = true := hlen
    unfold isAgg at hlen
    split at hlen
    ·exact ⟨_, rfl⟩
    ·cases hlen
   obtain ⟨qs, rfl⟩ := this
   have hv1 : vs0.length = 1 := by rw [h1, ← h2]; rfl
   obtain ⟨v0, rfl⟩ : ∃ v0, vs0 = [v0] := by
    match vs0, hv1 with
    | [v0], _ => exact ⟨v0, rfl⟩
   have hrp : RPs S ρ w st v0 (.agg qs) := h4 0 v0 _ rfl rfl
   cases hrp with
   | agg us _ hl hr => exact ⟨us, by simp [Res.value], hl, hr⟩
 clear h1 h2 h4 hlen
 revert hnd h5 h6 hvl' hvs
 generalize partsOf r L = M
 intro hnd h5 h6 hvl' hvs
 refine ⟨_, hrun, retρ ρ M, vs, hval, hvl'.trans h5, fun i j x y e e' b hi hj hxe hye hb1 hb2 => ?_, fun i v x hv hx => ?_⟩
 ·obtain ⟨k, n, e1, q1, q2, q3⟩ := ret_blk h6 h5 hi hxe hb1
  obtain ⟨k', n', e1', q1', q2', q3'⟩ := ret_blk h6 h5 hj hye hb2
  have := h.inj k k' _ _ q2 q2' b q3 q3'
  subst this
  exact ownIds_inj _ _ i j k n n' x y e e' hnd q1 hi hxe q1' hj hye
 ·have hil : i < M.length := by rw [← hvl']; exact (List.getElem?_eq_some_iff.1 hv).1
  have hq := List.getElem?_eq_getElem hil
  revert hq
  generalize M[i] = p
  intro hq
  have hrp := hvs i v p hv hq
  have hx6 := h6 i p x hq hx
  have hOb : ∀ b, ownB (retρ ρ M) r.list b → ∃ k e, k ∈ ownIds M r.list ∧ aget st k = some e ∧ blk e (ρ k) b := by
   intro b hb
   obtain ⟨j, y, e, hj, hye, hbe⟩ := hb
   obtain ⟨k, n, e1, q1, q2, q3⟩ := ret_blk h6 h5 hj hye hbe
   exact ⟨k, e1, ownIds_get _ _ j k n y e q1 hj hye, q2, q3⟩
  cases x with
  | d y =>
   rw [retOne_d] at hx6
   split at hx6
   ·rename_i hf
    have hOb2 : ∀ b, (ownB (retρ ρ M) r.list b ∨ ∃ k e, k ∈ av ∧ aget st k = some e ∧ blk e (ρ k) b) → ∃ k e, k ∈ av ++ ownIds M r.list ∧ aget st k = some e ∧ blk e (ρ k) b := by
     intro b hb
     rcases hb with hb | ⟨k, e, hk1, hk2, hk3⟩
     ·obtain ⟨k, e, q1, q2, q3⟩ := hOb b hb
      exact ⟨k, e, List.mem_append_right _ q1, q2, q3⟩
     ·exact ⟨k, e, List.mem_append_left _ hk1, hk2, hk3⟩
    exact dEq_ok (R.mono (snap_fresh h hmay hOb2 4 v p hrp (fun q hq => hx6 q (List.mem_append_left _ hq)) hf) fun ad z h1 h2 => ⟨h1, fun h3 => h2 (by
     rcases h3 with h3 | h3
     ·exact .inl (.inl h3)
     ·rcases hN _ h3 with h4 | h4
      ·exact .inr h4
      ·exact .inl (.inr h4))⟩) fun q hq => hx6 q (List.mem_append_right _ hq)
   ·exact (hx6 _ (List.mem_singleton.2 rfl)).elim
  | own e m =>
   cases p with
   | own k n =>
    obtain ⟨fr, mm, hk, hb2, hn, hm⟩ := retOne_own hx6
    subst hm
    obtain ⟨cur, g1, g2, g3, g4, g5⟩ := h.ents k _ hk
    simp only [ReOkN, retρ_own hq]
    refine ⟨?_, fun hpos => ?_, cur, g1, g2, g3, g4, fun i2 c hi hc => ?_⟩
    ·cases hrp with
     | own => exact .inl (by rw [hn])
     | ownN _ hc => exact .inr ⟨rfl, hn.symm, hc⟩
    ·exact hown k _ hk (by simp) _ ⟨rfl, hpos⟩
    ·obtain ⟨u, hu, hd⟩ := g5 i2 c hi hc
     refine ⟨u, hu, ?_⟩
     have hd' : RD w (liveO S.O ρ st) S.F true u (mm.get i2 c) := by
      rcases hb2 with hf | hf
      ·rw [hf] at hd; exact hd
      ·exact RD.of_flats hd (Mem.flat_get hf _ _)
     refine R.mono hd' fun ad v h1 h2 => ⟨h1, fun h3 => h2 ?_⟩
     rcases h3 with h3 | h3
     ·obtain ⟨k', e', _, q2, q3⟩ := hOb _ h3
      exact .inl (.inr ⟨k', e', q2, q3⟩)
     ·rcases hN _ h3 with h4 | ⟨k', e', _, hk', hb'⟩
      ·exact .inr h4
      ·exact .inl (.inr ⟨k', e', hk', hb'⟩)
   | d fr y =>
    cases y with
    | nil =>
     simp only [retOne] at hx6
     have hm : m.len = 0 := hx6 _ (List.mem_singleton.2 rfl)
     have hvn := (RPs.d_inv hrp).nil_inv
     have hr0 : retρ ρ M i = nm 0 0 := by simp only [retρ, hq]
     simp only [ReOkN, hr0]
     exact ⟨.inr ⟨hvn, hm, trivial⟩, by simp, #[], by simp, by simp, by simp, by rw [hm]; simp, fun i2 c hi _ => by omega⟩
    | _ => exact (hx6 False (by show False ∈ [False]; exact List.mem_singleton.2 rfl)).elim
   | _ => exact (hx6 False (by show False ∈ [False]; exact List.mem_singleton.2 rfl)).elim
  | mat e eo xss =>
   cases p with
   | own k n =>
    obtain ⟨hk, hn⟩ := retOne_mat hx6
    subst hn
    simp only [ReOkN, retρ_own hq]
    exact ⟨hrp.own_inv, h.ents k _ hk, fun b hb => ⟨hown k _ hk (by simp) b hb, (h.own k _ hk b hb).1⟩⟩
   | d fr y =>
    cases y with
    | nil =>
     have hm : xss.length = 0 := hx6 _ (by simp [retOne])
     have hvn := (RPs.d_inv hrp).nil_inv
     have hr0 : retρ ρ M i = nm 0 0 := by simp only [retρ, hq]
     simp only [ReOkN, hr0]
     refine ⟨.inr ⟨hvn, hm, trivial⟩, matNil w e eo hm, fun b hb => ?_⟩
     rcases hb with hb | ⟨j, hj, _⟩
     ·exact absurd hb.2 (by simp)
     ·omega
    | _ => exact (hx6 False (by show False ∈ [False]; exact List.mem_singleton.2 rfl)).elim
   | _ => exact (hx6 False (by show False ∈ [False]; exact List.mem_singleton.2 rfl)).elim
def pkvρ (g : Nat) (p1 p2 : Nm) : Nat → Nm
 | 0 => nm g 0
 | 1 => p1
 | _ => p2
theorem pkv_of {P : Program} {f : FuncId} {fn : Func} {c : Code} (hm : P.follows .mixedOrders = true) (hf : P.funcs[f]? = some fn) (hbody : Body P f) (hb : fn.body = some c) (C : FuncId → List D → Orc) (A : Value → Ann) {t : TypeId} {kx : D} {ds : List D}
  {e1 : TypeId} {xs : List Int} {e eo : TypeId} {xss : List (List Int)} {X : Ex} (hB : (Nat.ble 2 fn.ntmps && codeB fn.ntmps c && flatDs ds) = true)
  (hv : ∀ u : Value, vc P C c (A u) [(0, .ptr 0 0), (1, .agg [.own 1 xs.length, .own 2 xss.length])] [(0, .box t (.d false (.lit u kx) :: ds.map (.d false))), (1, .arr true e1 (.ints xs)), (2, .mat e eo xss none)] (retKX P fn.results.toList t (.lit u kx) ds.length X)) : PKV P f t kx ds e1 xs e eo xss X := by
 simp only [Bool.and_eq_true] at hB
 obtain ⟨⟨hle, hcb⟩, hfl⟩ := hB
 have hle := Nat.le_of_ble_eq_true hle
 refine ⟨hbody, fun w O g cur p1 p2 v1 v2 cu1 hg hsz hO hOg hcells hv1 ha1 ha2 ha3 ha4 ha5 hv2 hmat hMO hdis => ?_⟩
 refine calls_of_wp hf hb ?_
 obtain ⟨u, hu, hu1, hur⟩ := hcells 0 kx rfl
 have hglt : g < w.heap.size := hO g hOg
 let S : Setting := { P := P, n := fn.ntmps, w0 := w, O := fun b => O b ∧ ¬ (b = g ∨ mvB p1 p2 e eo xss b), may := fun b => b = g ∨ mvB p1 p2 e eo xss b, F := fun b => b < w.heap.size ∧ ¬ (b = g ∨ mvB p1 p2 e eo xss b), fb := fun _ h => h.1, pin := some g }
 have h0 : ∀ k en, aget ([(0, .box t (.d false (.lit u kx) :: ds.map (.d false))), (1, .arr true e1 (.ints xs)), (2, .mat e eo xss none)] : Store) k = some en → (k = 0 ∧ en = .box t (.d false (.lit u kx) :: ds.map (.d false))) ∨ (k = 1 ∧ en = .arr true e1 (.ints xs)) ∨ (k = 2 ∧ en = .mat e eo xss none) := by
  intro k en hk
  rcases aget_cons hk with h | ⟨_, hk⟩
  ·exact .inl h
  ·rcases aget_cons hk with h | ⟨_, hk⟩
   ·exact .inr (.inl h)
   ·rcases aget_cons hk with h | ⟨_, hk⟩
    ·exact .inr (.inr h)
    ·simp [aget] at hk
 have hblk : ∀ k en b, aget ([(0, .box t (.d false (.lit u kx) :: ds.map (.d false))), (1, .arr true e1 (.ints xs)), (2, .mat e eo xss none)] : Store) k = some en → blk en (pkvρ g p1 p2 k) b → b = g ∨ mvB p1 p2 e eo xss b := by
  intro k en b hk hbk
  rcases h0 k en hk with ⟨rfl, rfl⟩ | ⟨rfl, rfl⟩ | ⟨rfl, rfl⟩
  ·exact .inl hbk
  ·exact .inr (.inl hbk)
  ·exact .inr (.inr hbk)
 have hlive : ∀ b, liveO S.O (pkvρ g p1 p2) [(0, .box t (.d false (.lit u kx) :: ds.map (.d false))), (1, .arr true e1 (.ints xs)), (2, .mat e eo xss none)] b → O b := by
  intro b hb
  rcases hb with hb | ⟨k, en, hk, hbk⟩
  ·exact hb.1
  ·rcases hblk k en b hk hbk with rfl | h
   ·exact hOg
   ·exact (hMO b h).1
 have hst : StR S (pkvρ g p1 p2) { tmps := [Value.pointer (some ⟨g, 0, none⟩), .agg [v1, v2].toArray].toArray ++ Array.replicate (fn.ntmps - [Value.pointer (some ⟨g, 0, none⟩), .agg [v1, v2].toArray].toArray.size) undef, defers := [] } w [(0, .ptr 0 0), (1, .agg [.own 1 xs.length, .own 2 xss.length])]
   [(0, .box t (.d false (.lit u kx) :: ds.map (.d false))), (1, .arr true e1 (.ints xs)), (2, .mat e eo xss none)] := by
  refine ⟨?_, rfl, fun b hb => hO b hb.1, fun k en hk => ?_, fun k en hk b hbk => ?_, fun k k' en en' hk hk' b hb1 hb2 => ?_, fun t' p hp => ?_, ⟨rfl, rfl, rfl, Nat.le_refl _, Nat.le_refl _, fun _ _ _ => rfl⟩, fun t' p hp j hj => ?_, fun k t' cs hk j hj => ?_, fun _ hg => by cases hg; exact ⟨rfl, _, _, rfl⟩⟩
  ·show ([Value.pointer (some ⟨g, 0, none⟩), .agg [v1, v2].toArray].toArray ++ Array.replicate (fn.ntmps - [Value.pointer (some ⟨g, 0, none⟩), .agg [v1, v2].toArray].toArray.size) undef).size = fn.ntmps
   simp; omega
  ·rcases h0 k en hk with ⟨rfl, rfl⟩ | ⟨rfl, rfl⟩ | ⟨rfl, rfl⟩
   ·refine ⟨cur, hg, by simp [hsz], fun j p hp => ?_⟩
    cases j with
    | zero =>
     simp at hp
     subst hp
     exact ⟨u, hu, hu1, .d _ _ _ (.lit u kx hu1 (hur.step fun b _ hn => ⟨rfl, fun h3 => hn (hlive b h3)⟩))⟩
    | succ j =>
     simp only [List.getElem?_cons_succ, List.getElem?_map, Option.map_eq_some_iff] at hp
     obtain ⟨z, hz, rfl⟩ := hp
     obtain ⟨u2, h1, h2, h3⟩ := hcells (j + 1) z (by simpa using hz)
     have hfz := (List.all_eq_true.1 hfl) z (List.mem_of_getElem? hz)
     simp only [Bool.and_eq_true] at hfz
     exact ⟨u2, h1, h2, .d _ _ _ (h3.flat hfz.1)⟩
   ·refine ⟨cu1, ha1, ha2, by rw [ha3]; simp [Mem.width, pkvρ], ha4, fun i c hi hc => ?_⟩
    have hi : i < xs.length := hi
    have hc : c < 1 := hc
    have e0 : i * (Mem.ints xs).width + c = i := by show i * 1 + c = i; omega
    rw [e0]
    exact ⟨_, ha5 i hi, RD.mk (g := w.cell?) (O1 := fun _ => False) (.int _ _) rfl⟩
   ·exact hmat
  ·have hMb := hblk k en b hk hbk
   refine ⟨?_, fun h => h.2 hMb, .inr hMb⟩
   rcases hMb with rfl | h
   ·exact hglt
   ·exact hO b (hMO b h).1
  ·rcases h0 k en hk with ⟨rfl, rfl⟩ | ⟨rfl, rfl⟩ | ⟨rfl, rfl⟩ <;> rcases h0 k' en' hk' with ⟨rfl, rfl⟩ | ⟨rfl, rfl⟩ | ⟨rfl, rfl⟩
   ·rfl
   ·exact ((hMO b (.inl hb2)).2 hb1).elim
   ·exact ((hMO b (.inr hb2)).2 hb1).elim
   ·exact ((hMO b (.inl hb1)).2 hb2).elim
   ·rfl
   ·exact (hdis b hb1 hb2).elim
   ·exact ((hMO b (.inr hb1)).2 hb2).elim
   ·exact (hdis b hb2 hb1).elim
   ·rfl
  ·rcases aget_cons hp with ⟨rfl, rfl⟩ | ⟨_, hp⟩
   ·refine ⟨by show 0 < fn.ntmps; omega, ?_⟩
    have e : ([Value.pointer (some ⟨g, 0, none⟩), .agg [v1, v2].toArray].toArray ++ Array.replicate (fn.ntmps - [Value.pointer (some ⟨g, 0, none⟩), .agg [v1, v2].toArray].toArray.size) undef).getD 0 undef = .pointer (some ⟨g, 0, none⟩) := by
     simp [Array.getD, Array.getElem_append]
    show RP w _ _ _ (([Value.pointer (some ⟨g, 0, none⟩), .agg [v1, v2].toArray].toArray ++ Array.replicate (fn.ntmps - [Value.pointer (some ⟨g, 0, none⟩), .agg [v1, v2].toArray].toArray.size) undef).getD 0 undef) _
    rw [e]
    exact RP.ptr (ρ := pkvρ g p1 p2) 0 0
   ·rcases aget_cons hp with ⟨rfl, rfl⟩ | ⟨_, hp⟩
    ·refine ⟨by show 1 < fn.ntmps; omega, ?_⟩
     have e : ([Value.pointer (some ⟨g, 0, none⟩), .agg [v1, v2].toArray].toArray ++ Array.replicate (fn.ntmps - [Value.pointer (some ⟨g, 0, none⟩), .agg [v1, v2].toArray].toArray.size) undef).getD 1 undef = .agg [v1, v2].toArray := by
      simp [Array.getD, Array.getElem_append]
      intro h8; omega
     show RP w _ _ _ (([Value.pointer (some ⟨g, 0, none⟩), .agg [v1, v2].toArray].toArray ++ Array.replicate (fn.ntmps - [Value.pointer (some ⟨g, 0, none⟩), .agg [v1, v2].toArray].toArray.size) undef).getD 1 undef) _
     rw [e]
     refine .agg [v1, v2] _ rfl fun j v p hv hp => ?_
     match j, hv, hp with
     | 0, hv, hp =>
      simp at hv hp
      subst hv hp
      exact RP.ofOwn hv1
     | 1, hv, hp =>
      simp at hv hp
      subst hv hp
      exact RP.ofOwn hv2
     | j + 2, hv, hp => simp at hv
    ·simp [aget] at hp
  ·rcases aget_cons hp with ⟨rfl, rfl⟩ | ⟨_, hp⟩
   ·simp [PV.rgm] at hj
   ·rcases aget_cons hp with ⟨rfl, rfl⟩ | ⟨_, hp⟩
    ·simp [PV.rgm, PV.rgmL] at hj
    ·simp [aget] at hp
  ·rcases h0 k _ hk with ⟨rfl, he⟩ | ⟨rfl, he⟩ | ⟨rfl, he⟩ <;> cases he
   exfalso
   have key : ∀ l : List D, PV.rgmL j (l.map (.d false)) = false := by
    intro l
    induction l with
    | nil => rfl
    | cons z r ih => simp [PV.rgmL, PV.rgm, ih]
   simp [PV.rgmL, PV.rgm, key] at hj
 refine vc_ok (S := S) hm (fun b hb h => h.2 hb) c (A u) _ _ _ _ _ _ _ hcb hst (hv u) ?_
 intro ex ρ a' w' σ' st' hst' hk
 have fin : (match aget st' 0 with
  | some (.box t' (.d _ y :: cs)) => match cellDs cs, Nat.beq t t' with
   | some ds1, true => X.ex fun x => allP (X.Q x :: ((flatDs (X.ds x) && Nat.beq (X.ds x).length ds.length) = true) :: (y = .lit u kx) :: (aEq ds1 (X.ds x) ++ retPsA [0] P fn.results.toList (X.r x) σ' st'))
   | _, _ => False
  | _ => False) → a'.defers = [] ∧ ∃ v, (results fn a'.tmps).run P w' = .ok v w' ∧ ∃ v', (Ending.returned v : Ending) = .returned v' ∧
   w'.os = w.os ∧ w'.tape = w.tape ∧ w'.output = w.output ∧ w.heap.size ≤ w'.heap.size ∧ w.drawn ≤ w'.drawn ∧ (∀ b, b < w.heap.size → b ≠ g → ¬ mvB p1 p2 e eo xss b → w'.heap[b]? = w.heap[b]?) ∧
   ∃ x : X.γ, X.Q x ∧ (X.ds x).length = ds.length ∧ (∃ cur' : Array Value, w'.heap[g]? = some (.cells cur' t (0, 0)) ∧ cur'.size = ds.length + 1 ∧ cur'[0]? = cur[0]? ∧
    ∀ (j : Nat) (z : D), (X.ds x)[j]? = some z → ∃ u, cur'[j + 1]? = some u ∧ u.oneCell' = true ∧ ∃ g1 O1, R g1 O1 u z) ∧ ResOkN (fun b => w.heap.size ≤ b ∨ mvB p1 p2 e eo xss b) w' v' (X.r x) := by
  intro hk
  split at hk
  rotate_left
  ·exact hk.elim
  rename_i t' fr y cs h0
  split at hk
  rotate_left
  ·exact hk.elim
  rename_i ds1 hcs ht
  have ht := beq_true.1 ht
  subst ht
  obtain ⟨x, hk⟩ := X.exOk _ hk
  have hall' := allP_mem hk
  have hQ : X.Q x := hall' _ List.mem_cons_self
  have hfl' := hall' _ (List.mem_cons_of_mem _ List.mem_cons_self)
  rw [Bool.and_eq_true] at hfl'
  have hlen := beq_true.1 hfl'.2
  have hall' := fun q hq => hall' q (List.mem_cons_of_mem _ (List.mem_cons_of_mem _ hq))
  have hy : y = .lit u kx := hall' _ List.mem_cons_self
  subst hy
  have haq : ∀ q ∈ aEq ds1 (X.ds x), q := fun q hq => hall' q (List.mem_cons_of_mem _ (List.mem_append_left _ hq))
  obtain ⟨cur', c1, c2, c3⟩ := hst'.ents 0 _ h0
  obtain ⟨hcl, hcg⟩ := cellDs_get hcs
  have hl1 := aEq_len haq
  -- the record is the caller's
  have hblk : (ρ 0).1 = g := (hst'.pn g rfl).1
  rw [hblk] at c1
  obtain ⟨v, h1, h2⟩ := ret_okN [0] (N := fun b => w.heap.size ≤ b ∨ mvB p1 p2 e eo xss b) hst' (fun b hb h => h.2 hb) (fun b hb => by
   by_cases hbg : b = g
   ·exact .inr ⟨0, _, List.mem_singleton.2 rfl, h0, by rw [hbg, ← hblk]; rfl⟩
   ·refine .inl ⟨?_, fun h8 => ?_⟩
    ·exact Nat.lt_of_not_le fun h9 => hb (.inl h9)
    ·rcases h8 with h8 | h8
     ·exact hbg h8
     ·exact hb (.inr h8)) (fun k en hk hnb b hbk => by
   rcases (hst'.own k _ hk _ hbk).2.2 with h7 | h7
   ·exact .inl h7
   ·rcases h7 with h7 | h7
    ·exfalso
     have := hst'.inj k 0 _ _ hk h0 b hbk (by rw [h7, ← hblk]; rfl)
     subst this
     rw [h0] at hk; cases hk
     exact hnb _ _ rfl
    ·exact .inr h7) (fun q hq => hall' q (List.mem_cons_of_mem _ (List.mem_append_right _ hq)))
  refine ⟨hst'.dfr, v, h1, v, rfl, hst'.frm.os, hst'.frm.tape, hst'.frm.output, hst'.frm.size, hst'.frm.drawn, fun b hb hbg hmb => hst'.frm.block b hb fun h8 => h8.elim hbg hmb, x, hQ, hlen, ⟨cur', c1, by rw [c2]; simp [hcl, hl1, hlen], ?_, fun j z hz => ?_⟩, h2⟩
  ·obtain ⟨u0, hu0, _, hr0⟩ := c3 0 _ rfl
   have : u0 = u := by
    cases hr0 with
    | d _ _ _ hr0 =>
     have hr0 := hr0.plain
     cases hr0
     rfl
   rw [hu0, hu, this]
  ·have hj : j < ds1.length := by rw [hl1]; exact (List.getElem?_eq_some_iff.1 hz).1
   obtain ⟨hfz, hcz, fr2, hjc⟩ := hcg j ds1[j] (List.getElem?_eq_getElem hj)
   obtain ⟨u2, hu2, ho2, hr2⟩ := c3 (j + 1) _ (by simpa using hjc)
   refine ⟨u2, hu2, ho2, w'.cell?, liveO S.O ρ st', ?_⟩
   cases hr2 with
   | d _ _ _ hr2 => exact aEq_get haq j u2 z (fun z hz => by rw [List.getElem?_eq_getElem hj] at hz; cases hz; exact hr2.plain) hz
 cases ex with
 | normal => exact fin hk
 | ret => exact fin hk
 | _ => exact hk.elim
theorem pkv_by {P : Program} {f : FuncId} {fn : Func} {Q : Value → Prop} (hm : P.follows .mixedOrders = true) (hf : P.funcs[f]? = some fn) (hbody : Body P f) (hb : fn.body = some (bodyOf fn)) (C : FuncId → List D → Orc) (A : Value → Ann) {t : TypeId} {kx : D} {ds : List D}
  {e1 : TypeId} {xs : List Int} {e eo : TypeId} {xss : List (List Int)} {X : Ex} (hB : (Nat.ble 2 fn.ntmps && codeB fn.ntmps (bodyOf fn) && flatDs ds) = true) (hq : ∀ u, Q u)
  (hv : ∀ u : Value, vc P C (bodyOf fn) (A u) [(0, .ptr 0 0), (1, .agg [.own 1 xs.length, .own 2 xss.length])] [(0, .box t (.d false (.lit u kx) :: ds.map (.d false))), (1, .arr true e1 (.ints xs)), (2, .mat e eo xss none)] (retKX P fn.results.toList t (.lit u kx) ds.length X) = Q u) : PKV P f t kx ds e1 xs e eo xss X :=
 pkv_of hm hf hbody hb C A hB fun u => hv u ▸ hq u
end Go.Proofs.YtomnmacmlhkceaaGreat
