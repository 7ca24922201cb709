/- The pure layer, part F: each operation does what part E says: loads, scalars, addresses. No function of the program is named here. -/
import Derived.Test.YtomnmacmlhkceaaQe
set_option linter.unusedVariables false
set_option linter.unusedSimpArgs false
namespace Go.Proofs.Ytomnmacmlhkceaa
open Go
variable {S : Setting} {ρ : Nat → Nm} {a : Act} {w : World} {σ : Env} {st : Store} {o : Oper}
def Good (S : Setting) (a : Act) (w : World) (σ : Env) (st : Store) (o : Oper) (out : Out) : Prop :=
 ∀ (K : Act → World → Prop) (Q : Exit → Act → World → Prop), (∀ ρ' a' w', StR S ρ' a' w' (eput σ o.dst out.val) (out.app st) → K a' w') → o.wp S.P a w K Q
theorem wp_value {P : Program} {K : Act → World → Prop} {Q : Exit → Act → World → Prop} {v : Value} {w' : World}
  (hr : (execOp a.eval o).run P w = .ok (.value v) w') (h : K (a.put o.dst v) w') : o.wp P a w K Q := by
 unfold Oper.wp; rw [hr]; exact h
theorem wp_skipped {P : Program} {K : Act → World → Prop} {Q : Exit → Act → World → Prop} {w' : World}
  (hr : (execOp a.eval o).run P w = .ok .skip w') (h : K (a.put o.dst undef) w') : o.wp P a w K Q := by
 unfold Oper.wp; rw [hr]; exact h
abbrev RPs (S : Setting) (ρ : Nat → Nm) (w : World) (st : Store) (v : Value) (p : PV) : Prop := RP w (liveO S.O ρ st) S.F ρ v p
theorem Good.val (h : StR S ρ a w σ st) (hd : ∀ d, o.dst = some d → d < S.n) {v : Value} {p : PV} {pre : List Prop}
  (hr : (execOp a.eval o).run S.P w = .ok (.value v) w) (hp : RPs S ρ w st v p) (hg : ∀ j, p.rgm j = true → aget st j = some .reg) :
  Good S a w σ st o (.ok pre p) := fun _ _ hk => wp_value hr (hk ρ _ _ (h.val o.dst v p hd hp hg))
theorem Good.dd (h : StR S ρ a w σ st) (hd : ∀ d, o.dst = some d → d < S.n) {v : Value} {x : D} {pre : List Prop}
  (hr : (execOp a.eval o).run S.P w = .ok (.value v) w) (hp : R w.cell? (fun _ => False) v x) (hf : x.flats = true) :
  Good S a w σ st o (.dd pre x) := Good.val h hd hr (.d _ _ _ (RD.mk hp hf)) (fun _ hj => by simp [PV.rgm] at hj)
theorem ofV_ok {O : Nat → Prop} {base : Nat → Prop} (v : Value) : RP w O base ρ v (PV.ofV v) := by
 have key : R w.cell? O v (D.ofV v) ∧ (D.ofV v).flats = true := by
  unfold D.ofV
  split
  ·exact ⟨.bool _, rfl⟩
  ·exact ⟨.int _ _, rfl⟩
  ·exact ⟨.nil, rfl⟩
  ·exact ⟨.undef _, rfl⟩
 exact .d _ _ _ (RD.mk key.1 key.2)
theorem evP_ok (h : StR S ρ a w σ st) (x : Operand) : RPs S ρ w st (a.eval x) (evP σ x) := by
 cases x with
 | tmp t =>
  simp only [evP]
  cases ht : aget σ t with
  | none => exact .d _ _ _ (R.undef _)
  | some p => exact (h.env t p ht).2
 | const v => exact ofV_ok v
 | global g => exact .d _ _ _ (R.undef _)
 | func f => exact .fn f 0 [] [] rfl (fun j v p hv _ => by simp at hv)
theorem evP_rg (h : StR S ρ a w σ st) (x : Operand) (j : Nat) (hj : (evP σ x).rgm j = true) : aget st j = some .reg := by
 cases x with
 | tmp t =>
  simp only [evP] at hj
  cases ht : aget σ t with
  | none => rw [ht] at hj; simp [PV.rgm] at hj
  | some p => rw [ht] at hj; exact h.rg t p ht j hj
 | const v => simp [evP, PV.ofV, PV.rgm] at hj
 | global g => simp [evP, PV.rgm] at hj
 | func f => simp [evP, PV.rgm, PV.rgmL] at hj
theorem PV.og_ov {O : Nat → Prop} {base : Nat → Prop} {v : Value} {p : PV} (h : RP w O base ρ v p) (hg : p.og = true) : RP w O base ρ v p.ov := by
 cases h <;> first | (simp only [PV.ov]; constructor <;> assumption) | simp_all [PV.og, PV.ov]
theorem PV.ov_rgm {p : PV} {j : Nat} (h : p.ov.rgm j = true) : p.rgm j = true := by
 cases p <;> simp_all [PV.ov, PV.rgm]
/- Types. -/
theorem run_isAgg {P : Program} {t : TypeId} {b : Bool} (h : tyAgg P t = some b) (w : World) : (isAgg t).run P w = .ok b w := by
 unfold tyAgg at h
 unfold isAgg
 rw [Sem.run_bind]
 cases hu : P.underlying t with
 | none => simp [hu] at h
 | some d =>
  rw [run_underlying hu w]
  cases d <;> simp_all
theorem run_sizeOf {P : Program} {t : TypeId} {n : Nat} (h : tySize P t = some n) (w : World) : (sizeOf t).run P w = .ok n w := by
 unfold tySize at h
 cases hi : P.info? t with
 | none => simp [hi] at h
 | some i =>
  simp [hi] at h
  simp [sizeOf, typeInfo, hi, h]
theorem run_loadVar1 {P : Program} {t : TypeId} {ad : Addr} {v : Value} (hg : tyAgg P t = some false) (hc : w.cell? ad = some v) : (loadVar t ad).run P w = .ok v w := by
 simp [loadVar, Sem.run_bind, run_isAgg hg, hc]
theorem run_loadVarN {P : Program} {t : TypeId} {ad : Addr} {n : Nat} {vs : List Value} (hg : tyAgg P t = some true) (hs : tySize P t = some n) (hl : vs.length = n)
  (hc : ∀ j v, vs[j]? = some v → w.cell? (ad.add j) = some v) : (loadVar t ad).run P w = .ok (.agg vs.toArray) w := by
 have h1 := run_loadCells_list (P := P) w ad vs hc
 rw [hl] at h1
 simp [loadVar, Sem.run_bind, run_isAgg hg, run_sizeOf hs, h1]
theorem getN_get (m : Mem) (i : Nat) : ∀ (n c j : Nat) (d : D), (getN m i c n)[j]? = some d → j < n ∧ d = m.get i (c + j)
 | 0, c, j, d, h => by simp [getN] at h
 | n + 1, c, 0, d, h => by simp [getN] at h; exact ⟨by omega, h.symm⟩
 | n + 1, c, j + 1, d, h => by
  simp [getN] at h
  obtain ⟨h1, h2⟩ := getN_get m i n (c + 1) j d h
  exact ⟨by omega, by rw [h2]; congr 1; omega⟩
theorem getN_len (m : Mem) (i : Nat) : ∀ (n c : Nat), (getN m i c n).length = n
 | 0, _ => rfl
 | n + 1, c => by simp [getN, getN_len m i n (c + 1)]
theorem R.adr_inv {g : Addr → Option Value} {O : Nat → Prop} {v : Value} {m : Mem} {i c : Nat} (h : R g O v (.adr m i c)) :
  ∃ ad, v = .pointer (some ad) ∧ ∀ k, i < m.len → c + k < m.width → ∃ u, g (ad.add k) = some u ∧ R g O u (m.get i (c + k)) := by
 cases h with
 | adr _ b _ _ f hc hr =>
  refine ⟨_, rfl, fun k hi hck => ⟨f i (c + k), ?_, hr i (c + k) hi hck⟩⟩
  rw [add_add, Nat.add_assoc]
  exact (hc i (c + k) hi hck).1
theorem R.bx_inv {g : Addr → Option Value} {O : Nat → Prop} {v : Value} {cs : List D} {c : Nat} (h : R g O v (.bx cs c)) :
  ∃ ad, v = .pointer (some ad) ∧ ∀ k d, cs[c + k]? = some d → ∃ u, g (ad.add k) = some u ∧ R g O u d := by
 cases h with
 | bx _ b _ f hc hr =>
  refine ⟨_, rfl, fun k d hd => ⟨f (c + k), ?_, hr (c + k) d hd⟩⟩
  rw [add_add]
  exact (hc (c + k) (List.getElem?_eq_some_iff.1 hd).1).1
theorem RD.adr_inv {O : Nat → Prop} {base : Nat → Prop} {fr : Bool} {v : Value} {m : Mem} {i c : Nat} (h : RD w O base fr v (.adr m i c)) :
  ∃ ad, v = .pointer (some ad) ∧ ∀ k, i < m.len → c + k < m.width → ∃ u, w.cell? (ad.add k) = some u ∧ RD w O base fr u (m.get i (c + k)) := by
 cases fr with
 | true =>
  obtain ⟨ad, h1, h2⟩ := R.adr_inv h
  exact ⟨ad, h1, fun k hi hc => let ⟨u, hu, hr⟩ := h2 k hi hc; ⟨u, (ucell_some hu).1, hr⟩⟩
 | false => exact R.adr_inv h
theorem RD.bx_inv {O : Nat → Prop} {base : Nat → Prop} {fr : Bool} {v : Value} {cs : List D} {c : Nat} (h : RD w O base fr v (.bx cs c)) :
  ∃ ad, v = .pointer (some ad) ∧ ∀ k d, cs[c + k]? = some d → ∃ u, w.cell? (ad.add k) = some u ∧ RD w O base fr u d := by
 cases fr with
 | true =>
  obtain ⟨ad, h1, h2⟩ := R.bx_inv h
  exact ⟨ad, h1, fun k d hd => let ⟨u, hu, hr⟩ := h2 k d hd; ⟨u, (ucell_some hu).1, hr⟩⟩
 | false => exact R.bx_inv h
theorem RD.agg_mk {O : Nat → Prop} {base : Nat → Prop} {fr : Bool} {vs : List Value} {cs : List D} (hl : vs.length = cs.length)
  (h : ∀ (j : Nat) (v : Value) (d : D), vs[j]? = some v → cs[j]? = some d → RD w O base fr v d) : RD w O base fr (.agg vs.toArray) (.agg cs) := by
 cases fr with
 | true => exact R.agg vs cs hl h
 | false => exact R.agg vs cs hl h
theorem RD.agg_inv {O : Nat → Prop} {base : Nat → Prop} {fr : Bool} {v : Value} {cs : List D} (h : RD w O base fr v (.agg cs)) :
  ∃ vs : List Value, v = .agg vs.toArray ∧ vs.length = cs.length ∧ ∀ (j : Nat) (v : Value) (d : D), vs[j]? = some v → cs[j]? = some d → RD w O base fr v d := by
 cases fr with
 | true => cases h with | agg vs _ hl hr => exact ⟨vs, rfl, hl, hr⟩
 | false => cases h with | agg vs _ hl hr => exact ⟨vs, rfl, hl, hr⟩
theorem RD.tup_inv {O : Nat → Prop} {base : Nat → Prop} {fr : Bool} {v : Value} {cs : List D} (h : RD w O base fr v (.tup cs)) :
  ∃ vs : List Value, v = .tuple vs.toArray ∧ vs.length = cs.length ∧ ∀ (j : Nat) (v : Value) (d : D), vs[j]? = some v → cs[j]? = some d → RD w O base fr v d := by
 cases fr with
 | true => cases h with | tup vs _ hl hr => exact ⟨vs, rfl, hl, hr⟩
 | false => cases h with | tup vs _ hl hr => exact ⟨vs, rfl, hl, hr⟩
theorem RD.int_inv {O : Nat → Prop} {base : Nat → Prop} {fr : Bool} {v : Value} {k : IntKind} {n : Int} (h : RD w O base fr v (.int k n)) : v = .int k n := by
 cases fr <;> cases h <;> rfl
theorem RD.bool_inv {O : Nat → Prop} {base : Nat → Prop} {fr : Bool} {v : Value} {b : Bool} (h : RD w O base fr v (.bool b)) : v = .bool b := by
 cases fr <;> cases h <;> rfl
theorem RD.nil_inv {O : Nat → Prop} {base : Nat → Prop} {fr : Bool} {v : Value} (h : RD w O base fr v .nil) : v = .slice none 0 0 := by
 cases fr <;> cases h <;> rfl
theorem RPs.int_inv {O : Nat → Prop} {base : Nat → Prop} {fr : Bool} {v : Value} {k : IntKind} {n : Int} (h : RP w O base ρ v (.d fr (.int k n))) : v = .int k n := by
 cases h with | d _ _ _ h => exact h.int_inv
theorem RPs.bool_inv {O : Nat → Prop} {base : Nat → Prop} {fr : Bool} {v : Value} {b : Bool} (h : RP w O base ρ v (.d fr (.bool b))) : v = .bool b := by
 cases h with | d _ _ _ h => exact h.bool_inv
theorem chk_pre {b : Bool} {out : Out} (h : ∀ p ∈ (chk b out).pre, p) : b = true ∧ chk b out = out ∧ ∀ p ∈ out.pre, p := by
 cases b with
 | true => exact ⟨rfl, rfl, h⟩
 | false => exact absurd (h False (by simp [chk, Out.bad])) id
theorem bad_pre (h : ∀ p ∈ Out.bad.pre, p) : False := h False (by simp [Out.bad])
theorem list_slice {α : Type} {l : List α} {c n : Nat} (h : c + n ≤ l.length) : ((l.drop c).take n).length = n := by simp; omega
theorem list_slice_get {α : Type} {l : List α} {c n j : Nat} {d : α} (h : ((l.drop c).take n)[j]? = some d) : l[c + j]? = some d := by
 rw [List.getElem?_take] at h
 split at h
 ·rw [List.getElem?_drop] at h; exact h
 ·cases h
theorem cell_in (h : StR S ρ a w σ st) {k : Nat} {e : Ent} (hk : aget st k = some e) {cur : Array Value} {ty : TypeId} (hh : w.heap[(ρ k).1]? = some (.cells cur ty (0, 0))) {c : Nat} {v : Value}
  (hv : cur[c]? = some v) : w.cell? ⟨(ρ k).1, c, none⟩ = some v := by
 rw [cell_of_row w _ _ _ _ _ hh, hv]
theorem RP.ofRow {w : World} {O base : Nat → Prop} {ρ : Nat → Nm} {v : Value} {k i n : Nat} (h : v = .slice (some ⟨((ρ k).rows i).1, 0, none⟩) n ((ρ k).rows i).2 ∨ (v = .slice none 0 0 ∧ n = 0 ∧ ((ρ k).rows i).2 = 0)) :
  RP w O base ρ v (.rw k i n) := by
 rcases h with rfl | ⟨rfl, rfl, h⟩
 ·exact .rw k i n
 ·exact .rwN k i h
theorem RP.unl {w : World} {O base : Nat → Prop} {ρ : Nat → Nm} {v : Value} {p : PV} (h : RP w O base ρ v p) : RP w O base ρ v p.unl := by
 unfold PV.unl
 split
 ·rename_i fr x
  cases h with
  | d _ _ _ hd =>
   refine .d fr _ _ ?_
   cases fr with
   | true => exact R.unl (g := ucell w) hd
   | false => exact R.unl (g := w.cell?) hd
 ·exact h
theorem load_good (h : StR S ρ a w σ st) (hd : ∀ d, o.dst = some d → d < S.n) {t : TypeId} {x : Operand} (ho : o.op = .load t x) {g : Bool} {n : Nat}
  (hg : tyAgg S.P t = some g) (hn : tySize S.P t = some n) {p : PV} {vx : Value} (hvx : a.eval x = vx) (hx : RPs S ρ w st vx p) (hpre : ∀ q ∈ (loadRun g n (aget st) p).pre, q) :
  Good S a w σ st o (loadRun g n (aget st) p) := by
 have run : ∀ (ad : Addr) (v : Value), vx = .pointer (some ad) → (loadVar t ad).run S.P w = .ok v w → (execOp a.eval o).run S.P w = .ok (.value v) w := by
  intro ad v h1 h2
  simp [execOp, ho, hvx, h1, Instr.loadAt, Instr.sureAddr, h2]
 cases p with
 | d fr y =>
  cases hx with
  | d _ _ _ hy =>
  cases y with
  | adr m i c =>
   obtain ⟨ad, h1, h2⟩ := hy.adr_inv
   cases g with
   | true =>
    simp only [loadRun, cond_true] at hpre ⊢
    obtain ⟨hb, he, hp⟩ := chk_pre hpre
    rw [he]
    have hi : i < m.len := hp _ (by simp [Out.ok])
    have hw : c + n ≤ m.width := by simpa using hb
    let vs : List Value := (List.range n).map fun k => (w.cell? (ad.add k)).getD undef
    have hvs : ∀ j v, vs[j]? = some v → j < n ∧ w.cell? (ad.add j) = some v := by
     intro j v hv
     simp only [vs, List.getElem?_map, Option.map_eq_some_iff] at hv
     obtain ⟨k, hk, rfl⟩ := hv
     have hk' := List.getElem?_eq_some_iff.1 hk
     obtain ⟨hlt, rfl⟩ := hk'
     simp at hlt
     obtain ⟨u, hu, _⟩ := h2 j hi (by omega)
     simp [hu, hlt]
    refine Good.val h hd (run ad _ h1 (run_loadVarN hg hn (vs := vs) (by simp [vs]) (fun j v hv => (hvs j v hv).2))) (.d _ _ _ (RD.agg_mk (by simp [vs, getN_len]) fun j v d hv hdd => ?_)) (fun j hj => by simp [PV.rgm] at hj)
    obtain ⟨hj, hc⟩ := hvs j v hv
    obtain ⟨_, rfl⟩ := getN_get _ _ _ _ _ _ hdd
    obtain ⟨u, hu, hr⟩ := h2 j hi (by omega)
    rw [hu] at hc; cases hc; exact hr
   | false =>
    simp only [loadRun, cond_false] at hpre ⊢
    obtain ⟨hb, he, hp⟩ := chk_pre hpre
    rw [he]
    have hi : i < m.len := hp _ (by simp [Out.ok])
    have hw : c < m.width := by simpa using hb
    obtain ⟨u, hu, hr⟩ := h2 0 hi (by omega)
    exact Good.val h hd (run ad _ h1 (run_loadVar1 hg (by rw [add_zero] at hu; exact hu))) (.d _ _ _ hr) (fun j hj => by simp [PV.rgm] at hj)
  | bx cs c =>
   obtain ⟨ad, h1, h2⟩ := hy.bx_inv
   cases g with
   | true =>
    simp only [loadRun, cond_true] at hpre ⊢
    obtain ⟨hb, he, hp⟩ := chk_pre hpre
    rw [he]
    have hw : c + n ≤ cs.length := by simpa using hb
    let vs : List Value := (List.range n).map fun k => (w.cell? (ad.add k)).getD undef
    have hvs : ∀ j v, vs[j]? = some v → j < n ∧ w.cell? (ad.add j) = some v := by
     intro j v hv
     simp only [vs, List.getElem?_map, Option.map_eq_some_iff] at hv
     obtain ⟨k, hk, rfl⟩ := hv
     have hk' := List.getElem?_eq_some_iff.1 hk
     obtain ⟨hlt, rfl⟩ := hk'
     simp at hlt
     obtain ⟨u, hu, _⟩ := h2 j _ (List.getElem?_eq_getElem (show c + j < cs.length by omega))
     simp [hu, hlt]
    refine Good.val h hd (run ad _ h1 (run_loadVarN hg hn (vs := vs) (by simp [vs]) (fun j v hv => (hvs j v hv).2))) (.d _ _ _ (RD.agg_mk (by simp [vs]; omega) fun j v d hv hdd => ?_)) (fun j hj => by simp [PV.rgm] at hj)
    obtain ⟨hj, hc⟩ := hvs j v hv
    obtain ⟨u, hu, hr⟩ := h2 j d (list_slice_get hdd)
    rw [hu] at hc; cases hc; exact hr
   | false =>
    simp only [loadRun, cond_false] at hpre ⊢
    cases hcs : cs[c]? with
    | none => simp only [hcs] at hpre; exact (bad_pre hpre).elim
    | some z =>
     simp only [hcs]
     obtain ⟨u, hu, hr⟩ := h2 0 z hcs
     exact Good.val h hd (run ad _ h1 (run_loadVar1 hg (by rw [add_zero] at hu; exact hu))) (.d _ _ _ hr) (fun j hj => by simp [PV.rgm] at hj)
  | _ => exact (bad_pre hpre).elim
 | ptr k c =>
  simp only [loadRun] at hpre ⊢
  cases hk : aget st k with
  | none => simp only [hk] at hpre; exact (bad_pre hpre).elim
  | some e =>
   cases e with
   | box ty ps =>
    obtain ⟨cur, e1, e2, e3⟩ := h.ents k _ hk
    have h1 : vx = .pointer (some ⟨(ρ k).1, c, none⟩) := by cases hx; rfl
    have hadd : ∀ j, (⟨(ρ k).1, c, none⟩ : Addr).add j = ⟨(ρ k).1, c + j, none⟩ := fun j => by unfold Addr.add; split <;> simp_all
    have hrb := h.rb k ty ps hk
    simp only [hk] at hpre ⊢
    cases g with
    | true =>
     simp only [cond_true] at hpre ⊢
     obtain ⟨hb, he, hp⟩ := chk_pre hpre
     rw [he]
     have hw : c + n ≤ ps.length := by simpa using hb
     let vs : List Value := (cur.toList.drop c).take n
     have hl : vs.length = n := list_slice (by simp [e2]; omega)
     have hvs : ∀ (j : Nat) (v : Value), vs[j]? = some v → cur[c + j]? = some v := fun j v hv => by simpa using list_slice_get hv
     refine Good.val h hd (run _ _ h1 (run_loadVarN hg hn hl fun j v hv => by rw [hadd]; exact cell_in h hk e1 (hvs j v hv))) (.agg vs _ (by rw [hl, list_slice hw]) fun j v q hv hq => ?_) (fun j hj => ?_)
     ·obtain ⟨u, hu, _, hr⟩ := e3 (c + j) q (list_slice_get hq)
      have := hvs j v hv
      rw [hu] at this; cases this; exact hr
     ·simp only [PV.rgm] at hj
      have hsub : ∀ (l : List PV), (∀ q ∈ l, q ∈ ps) → PV.rgmL j l = true → aget st j = some .reg := by
       intro l hl hj
       have : ∃ q ∈ l, q.rgm j = true := by
        clear hl
        induction l with
        | nil => simp [PV.rgmL] at hj
        | cons q r ih =>
         simp only [PV.rgmL, Bool.or_eq_true] at hj
         rcases hj with hj | hj
         ·exact ⟨q, by simp, hj⟩
         ·obtain ⟨q', h1, h2⟩ := ih hj; exact ⟨q', by simp [h1], h2⟩
       obtain ⟨q, hq, hqj⟩ := this
       obtain ⟨i, hi⟩ := List.mem_iff_getElem?.1 (hl q hq)
       exact hrb j (PV.rgmL_mem hi hqj)
      exact hsub _ (fun q hq => List.mem_of_mem_drop (List.mem_of_mem_take hq)) hj
    | false =>
     simp only [cond_false] at hpre ⊢
     cases hps : ps[c]? with
     | none => simp only [hps] at hpre; exact (bad_pre hpre).elim
     | some q =>
      simp only [hps]
      obtain ⟨u, hu, _, hr⟩ := e3 c q hps
      refine Good.val h hd (run _ _ h1 (run_loadVar1 hg (cell_in h hk e1 hu))) (RP.unl hr) (fun j hj => ?_)
      exact hrb j (PV.rgmL_mem hps (by revert hj; unfold PV.unl; split <;> simp [PV.rgm]))
   | arr fr ty m => simp only [hk] at hpre; exact (bad_pre hpre).elim
   | reg => simp only [hk] at hpre; exact (bad_pre hpre).elim
   | vw xs => simp only [hk] at hpre; exact (bad_pre hpre).elim
   | mat e eo xss hole => simp only [hk] at hpre; exact (bad_pre hpre).elim
 | eadr k wd i c =>
  simp only [loadRun] at hpre ⊢
  cases hk : aget st k with
  | none => simp only [hk] at hpre; exact (bad_pre hpre).elim
  | some e =>
   cases e with
   | arr fr ty m =>
    obtain ⟨cur, e1, _, e2, e3, e4⟩ := h.ents k _ hk
    have h1 : vx = .pointer (some ⟨(ρ k).1, i * wd + c, none⟩) := by cases hx; rfl
    have hadd : ∀ j, (⟨(ρ k).1, i * wd + c, none⟩ : Addr).add j = ⟨(ρ k).1, i * wd + c + j, none⟩ := fun j => by unfold Addr.add; split <;> simp_all
    simp only [hk] at hpre ⊢
    cases g with
    | true =>
     simp only [cond_true] at hpre ⊢
     obtain ⟨hb, he, hp⟩ := chk_pre hpre
     rw [he]
     have hi : i < m.len := hp _ (by simp [Out.ok])
     simp only [Bool.and_eq_true, beq_true, Nat.ble_eq] at hb
     obtain ⟨hwd, hw⟩ := hb
     subst hwd
     let vs : List Value := (List.range n).map fun j => cur.getD (i * m.width + c + j) undef
     have hvs : ∀ j v, vs[j]? = some v → j < n ∧ cur[i * m.width + c + j]? = some v := by
      intro j v hv
      simp only [vs, List.getElem?_map, Option.map_eq_some_iff] at hv
      obtain ⟨k', hk', rfl⟩ := hv
      obtain ⟨hlt, rfl⟩ := List.getElem?_eq_some_iff.1 hk'
      simp at hlt
      obtain ⟨u, hu, _⟩ := e4 i (c + j) hi (by omega)
      rw [← Nat.add_assoc] at hu
      simp [hu, hlt]
     refine Good.val h hd (run _ _ h1 (run_loadVarN hg hn (vs := vs) (by simp [vs]) fun j v hv => by rw [hadd]; exact cell_in h hk (e1 (by omega)) (hvs j v hv).2)) (.d _ _ _ (RD.agg_mk (by simp [vs, getN_len]) fun j v d hv hdd => ?_)) (fun j hj => by simp [PV.rgm] at hj)
     obtain ⟨hj, hc⟩ := hvs j v hv
     obtain ⟨_, rfl⟩ := getN_get _ _ _ _ _ _ hdd
     obtain ⟨u, hu, hr⟩ := e4 i (c + j) hi (by omega)
     rw [← Nat.add_assoc] at hu
     rw [hu] at hc; cases hc; exact hr
    | false =>
     simp only [cond_false] at hpre ⊢
     obtain ⟨hb, he, hp⟩ := chk_pre hpre
     rw [he]
     have hi : i < m.len := hp _ (by simp [Out.ok])
     simp only [Bool.and_eq_true, beq_true, Nat.blt_eq] at hb
     obtain ⟨hwd, hw⟩ := hb
     subst hwd
     obtain ⟨u, hu, hr⟩ := e4 i c hi hw
     exact Good.val h hd (run _ _ h1 (run_loadVar1 hg (cell_in h hk (e1 (by omega)) hu))) (.d _ _ _ hr) (fun j hj => by simp [PV.rgm] at hj)
   | box ty ps => simp only [hk] at hpre; exact (bad_pre hpre).elim
   | reg => simp only [hk] at hpre; exact (bad_pre hpre).elim
   | vw xs => simp only [hk] at hpre; exact (bad_pre hpre).elim
   | mat te teo xss hole =>
    cases hole with
    | some i0 => simp only [hk] at hpre; exact (bad_pre hpre).elim
    | none =>
     simp only [hk] at hpre ⊢
     cases g with
     | true => simp only [cond_true] at hpre; exact (bad_pre hpre).elim
     | false =>
      simp only [cond_false] at hpre ⊢
      obtain ⟨hb, he, hp⟩ := chk_pre hpre
      rw [he]
      have hi : i < xss.length := hp _ (by simp [Out.ok])
      simp only [Bool.and_eq_true, beq_true] at hb
      obtain ⟨rfl, rfl⟩ := hb
      have hm : MatOk w (ρ k) te teo xss none := h.ents k _ hk
      obtain ⟨cur, c1, c2, c3⟩ := hm.out
      have h1 : vx = .pointer (some ⟨(ρ k).1, i, none⟩) := by cases hx; simp
      obtain ⟨v, hv, hdv⟩ := c3 i hi (by simp)
      have hl := hm.len
      refine Good.val h hd (run _ _ h1 (run_loadVar1 hg (cell_in h hk (c1 (by omega)) hv))) ?_ (fun j hj => by simp [PV.rgm] at hj)
      exact RP.ofRow hdv
 | radr k i c =>
  simp only [loadRun] at hpre ⊢
  cases hk : aget st k with
  | none => simp only [hk] at hpre; exact (bad_pre hpre).elim
  | some e =>
   cases e with
   | mat te teo xss hole =>
    cases hole with
    | some _ => simp only [hk] at hpre; exact (bad_pre hpre).elim
    | none =>
    simp only [hk] at hpre ⊢
    cases g with
    | true => simp only [cond_true] at hpre; exact (bad_pre hpre).elim
    | false =>
     simp only [cond_false] at hpre ⊢
     have hi : i < xss.length := hpre _ (by simp [Out.ok])
     have hc : c < (xss.getD i []).length := hpre _ (by simp [Out.ok])
     have hm : MatOk w (ρ k) te teo xss none := h.ents k _ hk
     obtain ⟨g1, g2, cur, c1, c2, c3⟩ := hm.inn i hi (by simp)
     have h1 : vx = .pointer (some ⟨((ρ k).rows i).1, c, none⟩) := by cases hx; rfl
     refine Good.val h hd (run _ _ h1 (run_loadVar1 hg (?_ : w.cell? _ = some (.int .i64 ((xss.getD i []).getD c 0))))) (.d _ _ _ (RD.mk (R.int (g := w.cell?) (O := fun _ => False) _ _) rfl)) (fun j hj => by simp [PV.rgm] at hj)
     rw [cell_of_row w _ _ _ _ _ (c1 (by omega))]
     exact c3 c hc
   | _ => simp only [hk] at hpre; exact (bad_pre hpre).elim
 | rw k i n => exact (bad_pre hpre).elim
 | own k n => exact (bad_pre hpre).elim
 | vw k n => exact (bad_pre hpre).elim
 | fn f k cs => exact (bad_pre hpre).elim
 | agg cs => exact (bad_pre hpre).elim
 | tup cs => exact (bad_pre hpre).elim
 | opt g p => exact (bad_pre hpre).elim
 | reg k x => exact (bad_pre hpre).elim
end Go.Proofs.Ytomnmacmlhkceaa
