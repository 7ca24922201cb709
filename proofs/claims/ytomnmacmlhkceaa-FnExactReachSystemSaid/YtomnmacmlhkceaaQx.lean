/- The pure layer, part X: regions whose order is drawn: every order leaves what the text's order leaves. No function of the program is named here. -/
import Derived.Test.YtomnmacmlhkceaaQp
import Derived.Orders
set_option linter.unusedVariables false
set_option linter.unusedSimpArgs false
namespace Go.Proofs.Ytomnmacmlhkceaa
open Go
variable {S : Setting} {ρ : Nat → Nm} {a : Act} {w : World} {σ σ' : Env} {st st' : Store} {all : Array Oper}
def reachN : Nat → Store → PV → List Nat
 | 0, _, _ => []
 | n + 1, st, p =>
  match p with
  | .own k _ => [k]
  | .ptr k _ => k :: (match aget st k with
   | some (.box _ ps) => ps.flatMap (reachN n st)
   | _ => [])
  | .eadr k _ _ _ => [k]
  | .reg k _ => [k]
  | .vw k _ => [k]
  | .rw k _ _ => [k]
  | .radr k _ _ => [k]
  | .fn _ _ ps => ps.flatMap (reachN n st)
  | .agg ps => ps.flatMap (reachN n st)
  | .tup ps => ps.flatMap (reachN n st)
  | _ => []
def Agrees (st st' : Store) (l : List Nat) : Prop := ∀ k ∈ l, aget st' k = aget st k
theorem Agrees.flat {n : Nat} {ps : List PV} (h : Agrees st st' (ps.flatMap (reachN n st))) {q : PV} (hq : q ∈ ps) : Agrees st st' (reachN n st q) :=
 fun k hk => h k (List.mem_flatMap.2 ⟨q, hq, hk⟩)
theorem snapV_congr : ∀ (n : Nat) (p : PV), Agrees st st' (reachN n st p) → snapV n st' p = snapV n st p
 | 0, _, _ => rfl
 | n + 1, p, h => by
  have lst : ∀ ps : List PV, Agrees st st' (ps.flatMap (reachN n st)) → ps.map (snapV n st') = ps.map (snapV n st) := fun ps hp =>
   List.map_congr_left fun q hq => snapV_congr n q (hp.flat hq)
  cases p with
  | own k l => have e := h k (by simp [reachN]); simp only [snapV, e]
  | ptr k c =>
   have e := h k (by simp [reachN])
   simp only [snapV, e]
   cases hk : aget st k with
   | none => rfl
   | some en =>
    cases en with
    | box t ps => simp only; rw [lst ps fun j hj => h j (by simp only [reachN, hk]; exact List.mem_cons_of_mem _ hj)]
    | _ => rfl
  | fn f k ps => simp only [snapV]; rw [lst ps h]
  | agg ps => simp only [snapV]; rw [lst ps h]
  | tup ps => simp only [snapV]; rw [lst ps h]
  | reg k x => have e := h k (by simp [reachN]); simp only [snapV, e]
  | vw k n => have e := h k (by simp [reachN]); simp only [snapV, e]
  | rw k i n => have e := h k (by simp [reachN]); simp only [snapV, e]
  | _ => rfl
theorem snapPs_congr : ∀ (n : Nat) (p : PV), Agrees st st' (reachN n st p) → snapPs n st' p = snapPs n st p
 | 0, _, _ => rfl
 | n + 1, p, h => by
  have lst : ∀ ps : List PV, Agrees st st' (ps.flatMap (reachN n st)) → ps.foldr (fun q r => snapPs n st' q ++ r) [] = ps.foldr (fun q r => snapPs n st q ++ r) [] := by
   intro ps
   induction ps with
   | nil => intro _; rfl
   | cons q r ih =>
    intro hp
    simp only [List.foldr_cons]
    rw [snapPs_congr n q (hp.flat List.mem_cons_self), ih fun k hk => hp k (by simp only [List.flatMap_cons]; exact List.mem_append_right _ hk)]
  cases p with
  | own k l => have e := h k (by simp [reachN]); simp only [snapPs, e]
  | ptr k c =>
   have e := h k (by simp [reachN])
   simp only [snapPs, e]
   cases hk : aget st k with
   | none => rfl
   | some en =>
    cases en with
    | box t ps => simp only; rw [lst ps fun j hj => h j (by simp only [reachN, hk]; exact List.mem_cons_of_mem _ hj)]
    | _ => rfl
  | fn f k ps => simp only [snapPs]; rw [lst ps h]
  | agg ps => simp only [snapPs]; rw [lst ps h]
  | tup ps => simp only [snapPs]; rw [lst ps h]
  | vw k n => have e := h k (by simp [reachN]); simp only [snapPs, e]
  | rw k i n => have e := h k (by simp [reachN]); simp only [snapPs, e]
  | _ => rfl
theorem loadRun_congr {g : Bool} {n : Nat} {x : PV} (h : Agrees st st' (reachN 1 st x)) : loadRun g n (aget st') x = loadRun g n (aget st) x := by
 cases x with
 | ptr k c => have e := h k (by simp [reachN]); simp only [loadRun, e]
 | eadr k wd i c => have e := h k (by simp [reachN]); simp only [loadRun, e]
 | radr k i c => have e := h k (by simp [reachN]); simp only [loadRun, e]
 | d fr y => cases y <;> rfl
 | _ => rfl
theorem takeRun_congr {g : Bool} {dst : Nat} {x : PV} (h : Agrees st st' (reachN 1 st x)) : takeRun g dst (aget st') x = takeRun g dst (aget st) x := by
 cases x with
 | eadr k wd i c => have e := h k (by simp [reachN]); simp only [takeRun, e]
 | _ => rfl
theorem storeRun_congr {n : Nat} {x y : PV} (h : Agrees st st' (reachN 1 st x)) (hy : Agrees st st' (reachN 1 st y)) : storeRun n (aget st') x y = storeRun n (aget st) x y := by
 cases x with
 | ptr k c => have e := h k (by simp [reachN]); simp only [storeRun, e]
 | eadr k wd i c =>
  have e := h k (by simp [reachN])
  simp only [storeRun, e]
  cases hk : aget st k with
  | none => first | rfl | (cases y <;> rfl)
  | some en =>
   cases en with
   | mat te teo xss hole =>
    cases hole with
    | none => first | rfl | (cases y <;> rfl)
    | some i0 =>
     cases y with
     | own k' n' => have e' := hy k' (by simp [reachN]); simp only [e']
     | _ => rfl
   | _ => first | rfl | (cases y <;> rfl)
 | radr k i c => have e := h k (by simp [reachN]); simp only [storeRun, e]
 | _ => rfl
theorem reachN_unl {st : Store} {n : Nat} {p : PV} : reachN n st p.unl = reachN n st p := by
 cases p <;> cases n <;> rfl
theorem lenRun_congr {P : Program} {t : TypeId} {x : PV} (h : Agrees st st' (reachN 1 st x)) : lenRun P t (aget st') x = lenRun P t (aget st) x := by
 unfold lenRun
 cases tyElem P t with
 | none => rfl
 | some e =>
  cases x with
  | own k n => have e := h k (by simp [reachN]); simp only [e]
  | d fr y => cases y <;> rfl
  | _ => rfl
theorem rowOf_congr {x : PV} (h : Agrees st st' (reachN 1 st x)) : rowOf (aget st') x = rowOf (aget st) x := by
 cases x with
 | own k n => have e := h k (by simp [reachN]); simp only [rowOf, e]
 | d fr y => cases y <;> rfl
 | _ => rfl
theorem matOf_congr {x : PV} (h : Agrees st st' (reachN 1 st x)) : matOf (aget st') x = matOf (aget st) x := by
 cases x with
 | own k n => have e := h k (by simp [reachN]); simp only [matOf, e]
 | _ => rfl
theorem appendRun_congr {P : Program} {t : TypeId} {dst : Nat} {s x : PV} (h : Agrees st st' (reachN 1 st s)) (hx : Agrees st st' (reachN 1 st x)) : appendRun P t dst (aget st') s x = appendRun P t dst (aget st) s x := by
 unfold appendRun
 rw [matOf_congr hx]
 have e1 : ∀ k2 n2 e2 eo2 yss, appendMat P t dst (aget st') s k2 n2 e2 eo2 yss = appendMat P t dst (aget st) s k2 n2 e2 eo2 yss := by
  intro k2 n2 e2 eo2 yss
  unfold appendMat
  cases s with
  | own k n => have e := h k (by simp [reachN]); simp only [e]
  | d fr y => cases y <;> rfl
  | _ => rfl
 have e2 : appendArr P t dst (aget st') s x = appendArr P t dst (aget st) s x := by
  unfold appendArr
  rw [rowOf_congr hx]
  cases s with
  | own k n => have e := h k (by simp [reachN]); simp only [e]
  | d fr y => cases y <;> rfl
  | _ => rfl
 rw [e2]
 cases matOf (aget st) x with
 | none => rfl
 | some r => exact e1 _ _ _ _ _
theorem rowArg_congr : ∀ {xs : List PV}, (∀ x ∈ xs, Agrees st st' (reachN 1 st x)) → rowArg (aget st') xs = rowArg (aget st) xs
 | [], _ => rfl
 | [.own k n], h => by have e := h _ List.mem_cons_self k (by simp [reachN]); simp only [rowArg, e]
 | p :: _ :: _, _ => by cases p <;> rfl
 | [.d _ _], _ => rfl
 | [.ptr _ _], _ => rfl
 | [.eadr _ _ _ _], _ => rfl
 | [.fn _ _ _], _ => rfl
 | [.agg _], _ => rfl
 | [.tup _], _ => rfl
 | [.opt _ _], _ => rfl
 | [.reg _ _], _ => rfl
 | [.vw _ _], _ => rfl
 | [.rw _ _ _], _ => rfl
 | [.radr _ _ _], _ => rfl
theorem buildSliceRun_congr {P : Program} {oc : Orc} {t : TypeId} {n : Nat} {parts : List (Nat × Operand)} {dst : Nat} {xs : List PV} (h : ∀ x ∈ xs, Agrees st st' (reachN 1 st x)) :
  buildSliceRun P oc t n parts dst (aget st') xs = buildSliceRun P oc t n parts dst (aget st) xs := by
 unfold buildSliceRun
 rw [rowArg_congr h]
theorem callee_agrees {c : PV} {f : FuncId} {fronts caps : List PV} (hcal : calleeOf c = some (f, (fronts, caps))) (hc : Agrees st st' (reachN 5 st c)) : ∀ p, p ∈ fronts ∨ p ∈ caps → Agrees st st' (reachN 4 st p) := by
 intro p hp
 cases c with
 | fn g k ps =>
  simp only [calleeOf, Option.some.injEq, Prod.mk.injEq] at hcal
  obtain ⟨_, rfl, rfl⟩ := hcal
  exact Agrees.flat (n := 4) hc (hp.elim List.mem_of_mem_take List.mem_of_mem_drop)
 | d fr y =>
  cases y with
  | fn g k cs =>
   simp only [calleeOf, Option.some.injEq, Prod.mk.injEq] at hcal
   obtain ⟨_, rfl, rfl⟩ := hcal
   have : ∃ z, p = .d fr z := by
    rcases hp with hp | hp
    ·obtain ⟨z, _, rfl⟩ := List.mem_map.1 hp
     exact ⟨z, rfl⟩
    ·obtain ⟨z, _, rfl⟩ := List.mem_map.1 hp
     exact ⟨z, rfl⟩
   obtain ⟨z, rfl⟩ := this
   intro k hk
   simp [reachN] at hk
  | _ => simp [calleeOf] at hcal
 | _ => simp [calleeOf] at hcal
theorem reachN_adel {k : Nat} : ∀ (n : Nat) (p : PV) (j : Nat), j ∈ reachN n (adel st k) p → j ∈ reachN n st p
 | 0, _, _, h => h
 | n + 1, p, j, h => by
  have lst : ∀ ps : List PV, j ∈ ps.flatMap (reachN n (adel st k)) → j ∈ ps.flatMap (reachN n st) := by
   intro ps hj
   obtain ⟨q, hq, hj⟩ := List.mem_flatMap.1 hj
   exact List.mem_flatMap.2 ⟨q, hq, reachN_adel n q j hj⟩
  cases p with
  | ptr i c =>
   simp only [reachN] at h ⊢
   rcases List.mem_cons.1 h with h | h
   ·rw [h]; exact List.mem_cons_self
   ·by_cases e : i = k
    ·rw [e, aget_adel_same] at h; simp at h
    ·rw [aget_adel_ne _ e] at h
     refine List.mem_cons_of_mem _ ?_
     cases hk : aget st i with
     | none => rw [hk] at h; simp at h
     | some en =>
      rw [hk] at h
      cases en with
      | box t ps => exact lst ps h
      | _ => simp at h
  | fn f i ps => exact lst ps h
  | agg ps => exact lst ps h
  | tup ps => exact lst ps h
  | _ => exact h
theorem Agrees.del {k n : Nat} {p : PV} (h : Agrees st st' (reachN n st p)) : Agrees (adel st k) (adel st' k) (reachN n (adel st k) p) := by
 intro j hj
 have := h j (reachN_adel n p j hj)
 by_cases e : j = k
 ·rw [e, aget_adel_same, aget_adel_same]
 ·rw [aget_adel_ne _ e, aget_adel_ne _ e, this]
theorem snapL_congr : ∀ {l : List PV}, (∀ p ∈ l, Agrees st st' (reachN 4 st p)) → snapL st' l = snapL st l
 | [], _ => rfl
 | q :: r, h => by
  have ih := snapL_congr (l := r) fun p hp => h p (List.mem_cons_of_mem _ hp)
  unfold snapL at ih ⊢
  simp only [List.foldr_cons]
  rw [snapPs_congr 4 q (h q List.mem_cons_self), ih]
theorem callRun_congr {P : Program} {oc : Orc} {dst : Nat} {c : PV} {xs : List PV} (hc : Agrees st st' (reachN 5 st c)) (hx : ∀ p ∈ xs, Agrees st st' (reachN 4 st p)) : callRun P oc dst st' c xs = callRun P oc dst st c xs := by
 unfold callRun
 cases hcal : calleeOf c with
 | none => rfl
 | some fc =>
  obtain ⟨f, fronts, caps⟩ := fc
  have hcaps := callee_agrees hcal hc
  have hall : ∀ p ∈ fronts ++ (xs ++ caps), Agrees st st' (reachN 4 st p) := fun p hp => (List.mem_append.1 hp).elim (fun h1 => hcaps p (.inl h1)) fun h1 => (List.mem_append.1 h1).elim (hx p) fun h2 => hcaps p (.inr h2)
  have e1 : (fronts ++ (xs ++ caps)).map (snapV 4 st') = (fronts ++ (xs ++ caps)).map (snapV 4 st) := List.map_congr_left fun p hp => snapV_congr 4 p (hall p hp)
  have e2 : snapL st' (fronts ++ (xs ++ caps)) = snapL st (fronts ++ (xs ++ caps)) := snapL_congr hall
  cases oc with
  | cell ds' r =>
   simp only
   revert hall
   generalize fronts ++ (xs ++ caps) = l
   intro hall
   cases l with
   | nil => rfl
   | cons p rest =>
    cases p with
    | ptr k c =>
     cases c with
     | zero =>
      have ek : aget st' k = aget st k := hall _ List.mem_cons_self k (by simp [reachN])
      have f1 : ∀ p ∈ rest, Agrees (adel st k) (adel st' k) (reachN 4 (adel st k) p) := fun p hp => (hall p (List.mem_cons_of_mem _ hp)).del
      have f2 : rest.map (snapV 4 (adel st' k)) = rest.map (snapV 4 (adel st k)) := List.map_congr_left fun p hp => snapV_congr 4 p (f1 p hp)
      simp only [ek, f2, snapL_congr f1]
     | succ c => rfl
    | _ => rfl
  | _ => simp only [e1, e2]
def reachA (st : Store) (p : PV) : List Nat := reachN 5 st p ++ reachN 4 st p
def reachOp (op : Op) (st : Store) (p : PV) : List Nat :=
 match op with
 | .load _ _ => reachN 1 st p
 | .store _ _ _ => reachN 1 st p
 | .buildSlice _ _ _ => reachN 1 st p
 | .call c => match c.callee with
  | .value _ => reachA st p
  | _ => reachN 1 st p
 | _ => []
theorem opRun_congr {P : Program} {oc : Orc} {dst : Nat} {op : Op} {as : List PV} (h : ∀ p ∈ as, Agrees st st' (reachOp op st p)) : opRun P oc dst st' op as = opRun P oc dst st op as := by
 cases op with
 | load t z =>
  match as with
  | [] => rfl
  | [x] =>
   have hx : Agrees st st' (reachN 1 st x) := h x (by simp)
   unfold opRun
   simp only
   cases tyAgg P t <;> cases tySize P t <;> first | rfl | (cases oc <;> first | exact takeRun_congr hx | exact loadRun_congr hx)
  | _ :: _ :: _ => rfl
 | store t z1 z2 =>
  match as with
  | [] => rfl
  | [x] => rfl
  | [x, v] =>
   show (match tySize P t with | some n => storeRun n (aget st') x (stV x v) | _ => .bad) = (match tySize P t with | some n => storeRun n (aget st) x (stV x v) | _ => .bad)
   have hv : Agrees st st' (reachN 1 st (stV x v)) := by
    have h1 : Agrees st st' (reachN 1 st v) := h v (by simp)
    unfold stV
    split
    ·split
     ·exact fun k hk => by simp [reachN] at hk
     ·exact h1
    ·exact h1
   cases tySize P t <;> first | rfl | exact storeRun_congr (h x (by simp)) hv
  | _ :: _ :: _ :: _ => rfl
 | buildSlice t n ps => exact buildSliceRun_congr h
 | call c =>
  obtain ⟨callee, args, ats⟩ := c
  cases callee with
  | value f =>
   have h2 : ∀ p ∈ as, Agrees st st' (reachA st p) := h
   have h4 : ∀ p ∈ as, Agrees st st' (reachN 4 st p) := fun p hp k hk => h2 p hp k (List.mem_append_right _ hk)
   have h5 : ∀ p ∈ as, Agrees st st' (reachN 5 st p) := fun p hp k hk => h2 p hp k (List.mem_append_left _ hk)
   match as with
   | [] => rfl
   | callee :: xs => exact callRun_congr (h5 _ (by simp)) fun p hp => h4 p (by simp [hp])
  | invoke r m => unfold opRun; simp only
  | builtin b =>
   have h1 : ∀ p ∈ as, Agrees st st' (reachN 1 st p) := h
   unfold opRun
   simp only
   split <;> try rfl
   ·split <;> try rfl
    exact lenRun_congr (by rw [reachN_unl]; exact h1 _ (by simp))
   ·split <;> try rfl
    split <;> try rfl
    exact appendRun_congr (h1 _ (by simp)) (h1 _ (by simp))
   ·contradiction
 | _ => unfold opRun; simp only <;> (split <;> first | rfl | contradiction)
def orcBase (C : FuncId → List D → Orc) (o : Oper) (σ : Env) (st : Store) : Orc :=
 match o.op with
 | .call c => match c.callee, o.op.operands.toList.map fun x => (evP σ x).ov with
  | .value _, callee :: xs => match calleeOf callee with
   | some (f, (fronts, caps)) => C f ((fronts ++ (xs ++ caps)).map (snapV 4 st))
   | none => .no
  | _, _ => .no
 | _ => .no
def toG : Orc → Orc
 | .call c r => .callG c r
 | o => o
def orcOf (C : FuncId → List D → Orc) (fl : List (Nat × Orc)) (i : Nat) (o : Oper) (σ : Env) (st : Store) : Orc :=
 match aget fl i with
 | some .g => toG (orcBase C o σ st)
 | some oc => oc
 | none => orcBase C o σ st
structure Alike (all : Array Oper) (o : Oper) (σ : Env) (st : Store) (σ' : Env) (st' : Store) : Prop where
 slots : ∀ t ∈ o.looksAt all, aget σ' t = aget σ t
 names : ∀ x ∈ o.op.operands.toList, Agrees st st' (reachOp o.op st (evP σ x).ov)
theorem Alike.ev {o : Oper} (h : Alike all o σ st σ' st') (x : Operand) (hx : x ∈ o.op.operands.toList) : evP σ' x = evP σ x := by
 cases x with
 | tmp t =>
  have : t ∈ o.looksAt all := by
   unfold Oper.looksAt
   exact List.mem_append_left _ (List.mem_filterMap.2 ⟨.tmp t, hx, rfl⟩)
  simp only [evP, h.slots t this]
 | _ => rfl
theorem Alike.guard {o : Oper} (h : Alike all o σ st σ' st') : guardB all σ' o = guardB all σ o := by
 unfold guardB
 cases hg : o.guard with
 | none => rfl
 | some jw =>
  obtain ⟨j, want⟩ := jw
  simp only
  cases ht : (all[j]?).bind (·.dst) with
  | none => rfl
  | some t =>
   have : t ∈ o.looksAt all := by
    unfold Oper.looksAt
    rw [hg]
    simp only
    rw [ht]
    exact List.mem_append_right _ (by simp)
   simp only [h.slots t this]
theorem Alike.evs {o : Oper} (h : Alike all o σ st σ' st') : (o.op.operands.toList.map fun x => (evP σ' x).ov) = o.op.operands.toList.map fun x => (evP σ x).ov :=
 List.map_congr_left fun x hx => by rw [h.ev x hx]
theorem orcBase_alike {C : FuncId → List D → Orc} {o : Oper} (h : Alike all o σ st σ' st') : orcBase C o σ' st' = orcBase C o σ st := by
  unfold orcBase
  rw [h.evs]
  cases hop : o.op with
  | call c =>
   simp only
   split <;> try rfl
   rename_i f callee xs h1 h2
   have hmem : ∀ p ∈ callee :: xs, Agrees st st' (reachA st p) := by
    intro p hp
    rw [← h2] at hp
    obtain ⟨x, hx, rfl⟩ := List.mem_map.1 hp
    have h3 := h.names x (by rw [hop]; exact hx)
    rw [hop] at h3
    simp only [reachOp, h1] at h3
    exact h3
   cases hcal : calleeOf callee with
   | none => rfl
   | some fc =>
    obtain ⟨g, fronts, caps⟩ := fc
    simp only
    have e1 : (fronts ++ (xs ++ caps)).map (snapV 4 st') = (fronts ++ (xs ++ caps)).map (snapV 4 st) := by
     refine List.map_congr_left fun p hp => snapV_congr 4 p ?_
     have hc : Agrees st st' (reachN 5 st callee) := fun k hk => hmem callee List.mem_cons_self k (List.mem_append_left _ hk)
     rcases List.mem_append.1 hp with hp | hp
     ·exact callee_agrees hcal hc p (.inl hp)
     ·rcases List.mem_append.1 hp with hp | hp
      ·exact fun k hk => hmem p (List.mem_cons_of_mem _ hp) k (List.mem_append_right _ hk)
      ·exact callee_agrees hcal hc p (.inr hp)
    rw [e1]
  | _ => rfl
theorem orcOf_alike {C : FuncId → List D → Orc} {fl : List (Nat × Orc)} {i : Nat} {o : Oper} (h : Alike all o σ st σ' st') : orcOf C fl i o σ' st' = orcOf C fl i o σ st := by
 unfold orcOf
 rw [orcBase_alike h]
theorem opStep_alike {P : Program} {oc : Orc} {o : Oper} (h : Alike all o σ st σ' st') (hp : ∀ q ∈ (opStep P all oc o σ st).pre, q) (hn : newOk σ' st' (opStep P all oc o σ st).new = true) (hrw : rwOk σ' st' (opStep P all oc o σ st) = true) :
  opStep P all oc o σ' st' = opStep P all oc o σ st := by
 cases hg : guardB all σ o with
 | none => rw [opStep_none hg] at hp; exact (bad_pre hp).elim
 | some g =>
  have hg' : guardB all σ' o = some g := by rw [h.guard]; exact hg
  by_cases hpk : ∃ c x y, o.op = .pick c x y
  ·obtain ⟨c, x, y, hop⟩ := hpk
   rw [opStep_pick hg hop, opStep_pick hg' hop, h.ev c (by simp [hop, Op.operands]), h.ev x (by simp [hop, Op.operands]), h.ev y (by simp [hop, Op.operands])]
  ·have hop : ∀ c x y, o.op ≠ .pick c x y := fun c x y e => hpk ⟨c, x, y, e⟩
   rw [opStep_op hg hop] at hp hn hrw ⊢
   rw [opStep_op hg' hop, h.evs]
   have e2 : o.op.operands.toList.map (evP σ') = o.op.operands.toList.map (evP σ) := List.map_congr_left fun x hx => h.ev x hx
   have e3 : opRun P oc (o.dst.getD 0) st' o.op (o.op.operands.toList.map fun x => (evP σ x).ov) = opRun P oc (o.dst.getD 0) st o.op (o.op.operands.toList.map fun x => (evP σ x).ov) := by
    refine opRun_congr fun p hp => ?_
    obtain ⟨x, hx, rfl⟩ := List.mem_map.1 hp
    exact h.names x hx
   rw [e2, e3]
   revert hp hn hrw
   generalize isMove o.op = mv
   generalize opRun P oc (o.dst.getD 0) st o.op (o.op.operands.toList.map fun x => (evP σ x).ov) = out
   generalize o.op.operands.toList.map (evP σ) = as
   intro hrw hn hp
   cases g with
   | none =>
    simp only [gOut] at hp hn hrw ⊢
    obtain ⟨h1, h2, _⟩ := chk_pre hp
    rw [h2] at hn hrw
    have e4 : rwOk σ' st' out = true := hrw
    rw [h1, show newOk σ' st' out.new = true from hn, e4]
    rfl
   | some gb => rfl
end Go.Proofs.Ytomnmacmlhkceaa
