/- The pure layer, part O: operations under guards, and regions in the text's order. No function of the program is named here. -/
import Derived.Test.YtomnmacmlhkceaaQn
set_option linter.unusedVariables false
set_option linter.unusedSimpArgs false
namespace Go.Proofs.Ytomnmacmlhkceaa
open Go
variable {S : Setting} {ρ : Nat → Nm} {a : Act} {w : World} {σ : Env} {st : Store} {o : Oper} {all : Array Oper}
def StepGood (S : Setting) (all : Array Oper) (a : Act) (w : World) (σ : Env) (st : Store) (o : Oper) (out : Out) : Prop :=
 ∀ (K : Act → World → Prop) (Q : Exit → Act → World → Prop), (∀ ρ' a' w', StR S ρ' a' w' (eput σ o.dst out.val) (out.app st) → K a' w') →
  (Region.wanted o (yielded all a.tmps) = true → o.wp S.P a w K Q) ∧ (Region.wanted o (yielded all a.tmps) = false → K (a.put o.dst undef) w)
theorem RP.bool_inv {O : Nat → Prop} {base : Nat → Prop} {fr : Bool} {v : Value} {b : Bool} (h : RP w O base ρ v (.d fr (.bool b))) : v = .bool b := RPs.bool_inv h
theorem guardB_ok (h : StR S ρ a w σ st) {g : Option Bool} (hg : guardB all σ o = some g) :
  (g = none ∧ Region.wanted o (yielded all a.tmps) = true) ∨ ∃ gb, g = some gb ∧ Region.wanted o (yielded all a.tmps) = gb := by
 unfold guardB at hg
 unfold Region.wanted
 cases ho : o.guard with
 | none => simp only [ho] at hg ⊢; cases hg; exact .inl ⟨rfl, trivial⟩
 | some jw =>
  obtain ⟨j, want⟩ := jw
  simp only [ho] at hg ⊢
  cases ht : (all[j]?).bind (·.dst) with
  | none => simp only [ht] at hg; cases hg
  | some t =>
   simp only [ht] at hg
   have key : ∀ p, aget σ t = some p → RP w (liveO S.O ρ st) S.F ρ (a.tmps.getD t undef) p ∧
     yielded all a.tmps j = (match a.tmps.getD t undef with | .bool b => some b | _ => none) := by
    intro p hp
    obtain ⟨hlt, hrp⟩ := h.env t p hp
    refine ⟨hrp, ?_⟩
    have hs : t < a.tmps.size := by rw [h.sz]; exact hlt
    rw [show a.tmps.getD t undef = a.tmps[t] by simp [hs]]
    simp only [yielded, ht, Option.bind_some]
    rw [Array.getElem?_eq_getElem hs]
    cases a.tmps[t] <;> rfl
   cases hp : aget σ t with
   | none => simp only [hp] at hg; cases hg
   | some p =>
    obtain ⟨hrp, hy⟩ := key p hp
    rw [hp] at hg
    cases p with
    | d fr x =>
     cases x with
     | bool b =>
      simp only [Option.some.injEq] at hg
      subst hg
      refine .inr ⟨_, rfl, ?_⟩
      rw [hy, hrp.bool_inv]
      cases want <;> cases b <;> rfl
     | _ => simp at hg
    | opt gb q =>
     cases q with
     | d fr x =>
      cases x with
      | bool b =>
       simp only [Option.some.injEq] at hg
       subst hg
       refine .inr ⟨_, rfl, ?_⟩
       rw [hy]
       generalize hv : a.tmps.getD t undef = v at hrp
       cases hrp with
       | optF p => cases want <;> rfl
       | optT p v hq => rw [hq.bool_inv]; cases want <;> cases b <;> rfl
      | _ => simp at hg
     | _ => simp at hg
    | _ => simp at hg
theorem ogAll_og {g : Option Bool} : ∀ {l : List PV}, (∀ q ∈ ogAll g l, q) → (g = none ∨ g = some true) → ∀ p ∈ l, p.og = true
 | [], _, _, p, hp => by cases hp
 | x :: r, h, hg, p, hp => by
  have hr : ∀ q ∈ ogAll g r, q := fun q hq => h q (by cases x <;> simp [ogAll, hq])
  rcases List.mem_cons.1 hp with rfl | hp
  ·cases p with
   | opt gb y =>
    have := h _ (by simp only [ogAll]; exact List.mem_cons_self)
    rcases hg with rfl | rfl
    ·exact this
    ·exact this rfl
   | _ => rfl
  ·exact ogAll_og hr hg p hp
theorem ov_ment {p : PV} {k : Nat} (h : p.ment k = false) : p.ov.ment k = false := by
 cases p <;> simp_all [PV.ov, PV.ment]
theorem ofV_ment (v : Value) (k : Nat) : (PV.ofV v).ment k = false := rfl
theorem evP_ment {k : Nat} (hu : unment k σ st = true) (x : Operand) : (evP σ x).ment k = false := by
 unfold evP
 cases x with
 | tmp t =>
  cases hp : aget σ t with
  | none => simp only [hp]; rfl
  | some p => simp only [hp]; exact unment_env hu hp
 | const v => exact ofV_ment v k
 | func f => rfl
 | global g => rfl
theorem pick_good (h : StR S ρ a w σ st) (hd : ∀ d, o.dst = some d → d < S.n) {c x y : Operand} (hop : o.op = .pick c x y) {g : Option Bool}
  (hg : (g = none ∧ Region.wanted o (yielded all a.tmps) = true) ∨ ∃ gb, g = some gb ∧ Region.wanted o (yielded all a.tmps) = gb)
  (hpre : ∀ q ∈ (pickRun g (evP σ c) (evP σ x) (evP σ y)).pre, q) : StepGood S all a w σ st o (pickRun g (evP σ c) (evP σ x) (evP σ y)) := by
 have hc := evP_ok h c
 have hx := evP_ok h x
 have hy := evP_ok h y
 revert hpre hc hx hy
 generalize evP σ c = pc
 generalize evP σ x = px
 generalize evP σ y = py
 intro hpre hc hx hy K Q hK
 simp only [pickRun] at hpre hK
 have run : ∀ cb xb yb fc fx fy, pc.ov = .d fc (.bool cb) → px.ov = .d fx (.bool xb) → py.ov = .d fy (.bool yb) → pc.og = true → (cb = true → px.og = true) → (cb = false → py.og = true) →
   (execOp a.eval o).run S.P w = .ok (.value (.bool (cond cb xb yb))) w := by
  intro cb xb yb fc fx fy ec ex ey gc gx gy
  have h1 := PV.og_ov hc gc
  rw [ec] at h1
  have hv := h1.bool_inv
  cases cb with
  | true =>
   have h2 := PV.og_ov hx (gx rfl)
   rw [ex] at h2
   simp [execOp, hop, hv, h2.bool_inv, asBool]
  | false =>
   have h2 := PV.og_ov hy (gy rfl)
   rw [ey] at h2
   simp [execOp, hop, hv, h2.bool_inv, asBool]
 split at hpre
 ·rename_i fc cb fx xb fy yb ec ex ey
  simp only [ec, ex, ey] at hK
  rcases hg with ⟨rfl, hw⟩ | ⟨gb, rfl, hw⟩
  ·simp only at hpre hK
   refine ⟨fun _ => ?_, fun hf => by rw [hw] at hf; cases hf⟩
   have r := run cb xb yb _ _ _ ec ex ey (hpre _ (by simp [Out.dd])) (hpre _ (by simp [Out.dd])) (hpre _ (by simp [Out.dd]))
   exact wp_value r (hK ρ _ _ (h.val o.dst _ _ hd (.d _ _ _ (RD.mk (O1 := fun _ => False) (g := w.cell?) (.bool _) rfl)) (fun _ hj => by simp [Out.dd, PV.rgm] at hj)))
  ·simp only at hpre hK
   refine ⟨fun ht => ?_, fun hf => ?_⟩
   ·rw [hw] at ht
    subst ht
    have r := run cb xb yb _ _ _ ec ex ey (hpre (true = true → pc.og = true) (by simp [Out.ok]) rfl) (hpre (true = true → cb = true → px.og = true) (by simp [Out.ok]) rfl) (hpre (true = true → cb = false → py.og = true) (by simp [Out.ok]) rfl)
    exact wp_value r (hK ρ _ _ (h.val o.dst _ _ hd (.optT _ _ (.d _ _ _ (RD.mk (O1 := fun _ => False) (g := w.cell?) (.bool _) rfl))) (fun _ hj => by simp [Out.ok, PV.rgm] at hj)))
   ·rw [hw] at hf
    subst hf
    exact hK ρ _ _ (h.val o.dst _ _ hd (.optF _) (fun _ hj => by simp [Out.ok, PV.rgm] at hj))
 ·exact (bad_pre hpre).elim
theorem opStep_none {P : Program} {oc : Orc} (hg : guardB all σ o = none) : opStep P all oc o σ st = .bad := by
 simp only [opStep, hg]
theorem opStep_pick {P : Program} {oc : Orc} {g : Option Bool} {c x y : Operand} (hg : guardB all σ o = some g) (hop : o.op = .pick c x y) :
  opStep P all oc o σ st = pickRun g (evP σ c) (evP σ x) (evP σ y) := by
 simp [opStep, hg, hop, Op.operands]
def gOut (st : Store) (σ : Env) (mv : Bool) (g : Option Bool) (as : List PV) (out : Out) : Out :=
 match g with
 | none => chk (newOk σ st out.new && rwOk σ st out) { out with pre := ogAll none as ++ out.pre }
 | some gb =>
  match out.new, out.dead, out.up with
  | [], none, none => chk (PV.nr out.val || mv) (.ok (ogAll (some gb) as ++ out.pre.map fun p => (gb = true → p)) (.opt gb out.val))
  | _, _, _ => .bad
theorem opStep_op {P : Program} {oc : Orc} {g : Option Bool} (hg : guardB all σ o = some g) (hop : ∀ c x y, o.op ≠ .pick c x y) :
  opStep P all oc o σ st = gOut st σ (isMove o.op) g (o.op.operands.toList.map (evP σ)) (opRun P oc (o.dst.getD 0) st o.op (o.op.operands.toList.map fun x => (evP σ x).ov)) := by
 have e : (o.op.operands.toList.map (evP σ)).map PV.ov = o.op.operands.toList.map fun x => (evP σ x).ov := by simp
 rw [← e]
 simp only [opStep, hg, gOut]
 generalize o.op.operands.toList.map (evP σ) = as
 split
 ·rename_i h1
  exact absurd h1 (hop _ _ _)
 ·rfl
theorem StR.optIn {dst : Option Nat} {p : PV} (h : StR S ρ a w (eput σ dst p) st) : StR S ρ a w (eput σ dst (.opt true p)) st := by
 cases dst with
 | none => exact h
 | some d =>
  refine { h with env := fun t q hq => ?_, rg := fun t q hq j hj => ?_ }
  ·rcases aget_cons (show aget ((d, PV.opt true p) :: _) t = some q from hq) with ⟨rfl, rfl⟩ | ⟨hne, hq⟩
   ·obtain ⟨h1, h2⟩ := h.env t p (aget_cons_same _ _ _)
    exact ⟨h1, .optT _ _ h2⟩
   ·exact h.env t q (by show aget ((d, p) :: _) t = some q; rw [aget_cons_ne (Ne.symm hne)]; exact hq)
  ·rcases aget_cons (show aget ((d, PV.opt true p) :: _) t = some q from hq) with ⟨rfl, rfl⟩ | ⟨hne, hq⟩
   ·exact h.rg t p (aget_cons_same _ _ _) j hj
   ·exact h.rg t q (by show aget ((d, p) :: _) t = some q; rw [aget_cons_ne (Ne.symm hne)]; exact hq) j hj
theorem opStep_good (h : StR S ρ a w σ st) (hd : ∀ d, o.dst = some d → d < S.n) {oc : Orc} (hpre : ∀ q ∈ (opStep S.P all oc o σ st).pre, q) :
  StepGood S all a w σ st o (opStep S.P all oc o σ st) := by
 cases hg : guardB all σ o with
 | none => rw [opStep_none hg] at hpre; exact (bad_pre hpre).elim
 | some g =>
  have hgo := guardB_ok h hg
  by_cases hpk : ∃ c x y, o.op = .pick c x y
  ·obtain ⟨c, x, y, hop⟩ := hpk
   rw [opStep_pick hg hop] at hpre ⊢
   exact pick_good h hd hop hgo hpre
  ·have hop : ∀ c x y, o.op ≠ .pick c x y := fun c x y e => hpk ⟨c, x, y, e⟩
   rw [opStep_op hg hop] at hpre ⊢
   have good : (∀ p ∈ o.op.operands.toList.map (evP σ), p.og = true) → (∀ q ∈ (opRun S.P oc (o.dst.getD 0) st o.op (o.op.operands.toList.map fun x => (evP σ x).ov)).pre, q) →
     newOk σ st (opRun S.P oc (o.dst.getD 0) st o.op (o.op.operands.toList.map fun x => (evP σ x).ov)).new = true →
     rwOk σ st (opRun S.P oc (o.dst.getD 0) st o.op (o.op.operands.toList.map fun x => (evP σ x).ov)) = true →
     Good S a w σ st o (opRun S.P oc (o.dst.getD 0) st o.op (o.op.operands.toList.map fun x => (evP σ x).ov)) := by
    intro hog hp hn hrw
    exact opRun_good h hd (fun x => (evP σ x).ov) (fun x hx => PV.og_ov (evP_ok h x) (hog _ (List.mem_map.2 ⟨x, hx, rfl⟩)))
     (fun x j hj => evP_rg h x j (PV.ov_rgm hj)) (fun x k hu => ov_ment (evP_ment hu x)) hp hn hrw
   have hmv : isMove o.op = true → ∀ j, (opRun S.P oc (o.dst.getD 0) st o.op (o.op.operands.toList.map fun x => (evP σ x).ov)).val.rgm j = true → aget st j = some .reg := by
    intro hm j hj
    cases hop2 : o.op with
    | move x => rw [hop2] at hj; exact evP_rg h x j (PV.ov_rgm hj)
    | assign x => rw [hop2] at hj; exact evP_rg h x j (PV.ov_rgm hj)
    | _ => rw [hop2] at hm; cases hm
   revert hpre good hmv
   generalize isMove o.op = mv
   generalize opRun S.P oc (o.dst.getD 0) st o.op (o.op.operands.toList.map fun x => (evP σ x).ov) = out
   generalize o.op.operands.toList.map (evP σ) = as
   intro hpre good hmv
   rcases hgo with ⟨rfl, hw⟩ | ⟨gb, rfl, hw⟩
   ·simp only [gOut] at hpre ⊢
    obtain ⟨hn, e, hp⟩ := chk_pre hpre
    rw [e]
    simp only [Bool.and_eq_true] at hn
    intro K Q hK
    refine ⟨fun _ => ?_, fun hf => by rw [hw] at hf; cases hf⟩
    exact good (ogAll_og (fun q hq => hp q (by simp [hq])) (.inl rfl)) (fun q hq => hp q (by simp [hq])) hn.1 hn.2 K Q hK
   ·simp only [gOut] at hpre ⊢
    split at hpre
    ·rename_i e1 e2 e3
     obtain ⟨hn, e, hp⟩ := chk_pre hpre
     rw [e]
     intro K Q hK
     refine ⟨fun ht => ?_, fun hf => ?_⟩
     ·rw [hw] at ht
      subst ht
      refine good (ogAll_og (fun q hq => hp q (by simp [Out.ok, hq])) (.inr rfl)) (fun q hq => hp (true = true → q) (by simp only [Out.ok, List.mem_append, List.mem_map]; exact .inr ⟨q, hq, rfl⟩) rfl) (by rw [e1]; rfl) (by simp [rwOk, Out.moves, e2]) K Q fun ρ' a' w' hst => hK ρ' a' w' ?_
      have ea : out.app st = st := by simp [Out.app, e1, e2, e3]
      have eb : (Out.ok (ogAll (some true) as ++ out.pre.map fun p => (true = true → p)) (.opt true out.val)).app st = st := rfl
      rw [ea] at hst
      rw [eb]
      exact hst.optIn
     ·rw [hw] at hf
      subst hf
      exact hK ρ _ _ (h.val o.dst _ _ hd (.optF _) (fun j hj => by
       have hj' : out.val.rgm j = true := hj
       rcases Bool.or_eq_true _ _ ▸ hn with hn | hn
       ·rw [PV.nr_rgm j _ hn] at hj'; cases hj'
       ·exact hmv hn j hj'))
    ·exact (bad_pre hpre).elim
theorem wpOps_text (hdst : ∀ (i : Nat) (o : Oper), all[i]? = some o → ∀ d, o.dst = some d → d < S.n) {oc : Nat → Oper → Env → Store → Orc} {Q : Exit → Act → World → Prop} :
  ∀ (ops : List Oper) (i : Nat) (ρ : Nat → Nm) (a : Act) (w : World) (σ : Env) (st : Store), (∀ j, ops[j]? = all[i + j]?) → StR S ρ a w σ st →
   (∀ q ∈ (runOps S.P all oc i ops σ st).1, q) →
   (∀ ρ' a' w', StR S ρ' a' w' (runOps S.P all oc i ops σ st).2.1 (runOps S.P all oc i ops σ st).2.2 → Q .normal a' w') →
   wpOps S.P all Q ((List.range ops.length).map (i + ·)) a w
 | [], i, ρ, a, w, σ, st, _, h, _, hQ => hQ ρ a w h
 | o :: r, i, ρ, a, w, σ, st, hl, h, hp, hQ => by
  have h0 : all[i]? = some o := by have := hl 0; simpa using this.symm
  have er : (List.range (o :: r).length).map (i + ·) = i :: (List.range r.length).map (i + 1 + ·) := by
   simp only [List.length_cons, List.range_succ_eq_map, List.map_cons, List.map_map, Nat.add_zero, List.cons.injEq, true_and]
   apply List.map_congr_left
   intro j _
   simp only [Function.comp]
   omega
  rw [er]
  have hgood := opStep_good (all := all) (oc := oc i o σ st) h (hdst i o h0) (fun q hq => hp q (by simp only [runOps]; exact List.mem_append_left _ hq))
  have next := hgood (wpOps S.P all Q ((List.range r.length).map (i + 1 + ·))) Q fun ρ' a' w' hst =>
   wpOps_text hdst r (i + 1) ρ' a' w' _ _ (fun j => by have := hl (j + 1); simp only [List.getElem?_cons_succ] at this; rw [this]; congr 1; omega) hst
    (fun q hq => hp q (by simp only [runOps]; exact List.mem_append_right _ hq)) hQ
  simp only [wpOps, h0]
  cases hw : Region.wanted o (yielded all a.tmps) with
  | true => simp only [if_true]; exact .inl (next.1 hw)
  | false => exact next.2 hw
def dstB (n : Nat) (ops : List Oper) : Bool :=
 ops.all fun o => match o.dst with
  | some d => Nat.blt d n
  | none => true
theorem dstB_ok {n : Nat} {ops : List Oper} (h : dstB n ops = true) (i : Nat) (o : Oper) (ho : ops[i]? = some o) (d : Nat) (hd : o.dst = some d) : d < n := by
 have := (List.all_eq_true.1 h) o (List.mem_of_getElem? ho)
 simp only [hd] at this
 have h2 : Nat.ble (d + 1) n = true := this
 exact Nat.le_of_ble_eq_true h2
theorem region_text {id : Nat} {ops : List Oper} {oc : Nat → Oper → Env → Store → Orc} {Q : Exit → Act → World → Prop} (h : StR S ρ a w σ st) (hb : dstB S.n ops = true)
  (hp : ∀ q ∈ (runOps S.P ops.toArray oc 0 ops σ st).1, q)
  (hQ : ∀ ρ' a' w', StR S ρ' a' w' (runOps S.P ops.toArray oc 0 ops σ st).2.1 (runOps S.P ops.toArray oc 0 ops σ st).2.2 → Q .normal a' w') :
  (Code.region id ops.toArray false).wp S.P Q a w := by
 refine wp_region ?_
 have e : List.range ops.toArray.size = (List.range ops.length).map (0 + ·) := by simp
 rw [e]
 exact wpOps_text (fun i o ho d hd => dstB_ok hb i o (by simpa using ho) d hd) ops 0 ρ a w σ st (fun j => by simp) h hp hQ
end Go.Proofs.Ytomnmacmlhkceaa
