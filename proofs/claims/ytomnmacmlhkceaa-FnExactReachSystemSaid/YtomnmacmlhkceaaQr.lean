/- The pure layer, part R: a function's entry and return: contracts out of what a body asks. No function of the program is named here. -/
import Derived.Test.YtomnmacmlhkceaaQq
set_option linter.unusedVariables false
set_option linter.unusedSimpArgs false
namespace Go.Proofs.Ytomnmacmlhkceaa
open Go
variable {S : Setting} {ρ : Nat → Nm} {a : Act} {w : World} {σ : Env} {st : Store}
def freshB (avoid : List Nat) : Nat → Store → PV → Bool
 | 0, _, _ => true
 | n + 1, st, p =>
  match p with
  | .d fr x => fr || x.flats
  | .own k _ => match aget st k with
   | some (.arr fr _ m) => (fr || m.flat) && avoid.all fun j => !Nat.beq j k
   | some (.mat _ _ _ none) => avoid.all fun j => !Nat.beq j k
   | _ => true
  | .ptr k _ => match aget st k with
   | some (.box _ ps) => (ps.all (freshB avoid n st)) && avoid.all fun j => !Nat.beq j k
   | _ => true
  | .fn _ _ ps => ps.all (freshB avoid n st)
  | .agg ps => ps.all (freshB avoid n st)
  | .tup ps => ps.all (freshB avoid n st)
  | .reg _ _ => false
  | .vw _ _ => false
  | .rw _ _ _ => false
  | _ => true
theorem snap_fresh (h : StR S ρ a w σ st) (hmay : ∀ b, S.may b → ¬ S.F b) {avoid : List Nat} {Ob : Nat → Prop} (hOb : ∀ b, Ob b → ∃ k e, k ∈ avoid ∧ aget st k = some e ∧ blk e (ρ k) b) :
  ∀ (n : Nat) (v : Value) (p : PV), RP w (liveO S.O ρ st) S.F ρ v p → (∀ q ∈ snapPs n st p, q) → freshB avoid n st p = true → R (ucell w) (fun b => Ob b ∨ S.F b) v (snapV n st p) := by
 have hRD : ∀ {v : Value} {x : D}, RD w (liveO S.O ρ st) S.F true v x → R (ucell w) (fun b => Ob b ∨ S.F b) v x := by
  intro v x hx
  refine R.mono hx fun a v h1 h2 => ⟨h1, fun h3 => h2 ?_⟩
  rcases h3 with h3 | h3
  ·obtain ⟨k, e, _, hk, hb⟩ := hOb _ h3
   exact .inl (.inr ⟨k, e, hk, hb⟩)
  ·exact .inr h3
 have hno : ∀ k e, aget st k = some e → (avoid.all fun j => !Nat.beq j k) = true → ∀ b, blk e (ρ k) b → ¬ (Ob b ∨ S.F b) := by
  intro k e hk hav b hb ho
  rcases ho with ho | ho
  ·obtain ⟨k', e', hk', hg, hb'⟩ := hOb _ ho
   have := h.inj k k' e e' hk hg b hb hb'
   subst this
   have := (List.all_eq_true.1 hav) _ hk'
   simp [beq_self] at this
  ·rcases (h.own k e hk b hb).2.2 with h7 | h7
   ·have := S.fb _ ho; omega
   ·exact hmay _ h7 ho
 have lst : ∀ (n : Nat) (ps : List PV) (vs : List Value), (∀ (v : Value) (p : PV), RP w (liveO S.O ρ st) S.F ρ v p → (∀ q ∈ snapPs n st p, q) → freshB avoid n st p = true → R (ucell w) (fun b => Ob b ∨ S.F b) v (snapV n st p)) →
   (∀ (j : Nat) (v : Value) (p : PV), vs[j]? = some v → ps[j]? = some p → RP w (liveO S.O ρ st) S.F ρ v p) → (∀ q ∈ ps.foldr (fun q r => snapPs n st q ++ r) [], q) → ps.all (freshB avoid n st) = true →
   ∀ (j : Nat) (v : Value) (d : D), vs[j]? = some v → (ps.map (snapV n st))[j]? = some d → R (ucell w) (fun b => Ob b ∨ S.F b) v d := by
  intro n ps vs ih hr hq hf j v d hv hd
  simp only [List.getElem?_map, Option.map_eq_some_iff] at hd
  obtain ⟨p, hp, rfl⟩ := hd
  have hmem : ∀ (l : List PV) (p : PV), p ∈ l → ∀ x ∈ snapPs n st p, x ∈ l.foldr (fun q r => snapPs n st q ++ r) [] := by
   intro l
   induction l with
   | nil => intro p hp; cases hp
   | cons y r ihl =>
    intro p hp x hx
    simp only [List.foldr_cons, List.mem_append]
    rcases List.mem_cons.1 hp with rfl | hp
    ·exact .inl hx
    ·exact .inr (ihl p hp x hx)
  exact ih v p (hr j v p hv hp) (fun x hx => hq x (hmem ps p (List.mem_of_getElem? hp) x hx)) ((List.all_eq_true.1 hf) p (List.mem_of_getElem? hp))
 intro n
 induction n with
 | zero => intro v p _ _ _; exact .undef v
 | succ n ih =>
 intro v p hp hs hf
 cases hp with
 | d fr x v hd =>
  simp only [freshB, Bool.or_eq_true] at hf
  have h2 : RD w (liveO S.O ρ st) S.F true v x := by
   rcases hf with hf | hf
   ·rw [hf] at hd; exact hd
   ·exact RD.of_flats hd hf
  exact hRD h2
 | ownN k hc =>
  simp only [snapV]
  cases hk : aget st k with
  | none => exact .undef _
  | some e =>
   cases e with
   | arr fr t m =>
    simp only [snapPs, hk] at hs
    have hn : 0 = m.len := hs _ (List.mem_singleton.2 rfl)
    exact .slnil m hn.symm
   | box t cs => exact .undef _
   | reg => exact .undef _
   | vw xs => exact .undef _
   | mat t o xss hole =>
    cases hole with
    | some i => exact .undef _
    | none =>
     simp only [snapPs, hk] at hs
     have hn : 0 = xss.length := hs _ (List.mem_singleton.2 rfl)
     exact .slnil (.rows xss) hn.symm
 | own k len =>
  simp only [snapV]
  cases hk : aget st k with
  | none => exact .undef _
  | some e =>
   cases e with
   | arr fr t m =>
    simp only [snapPs, hk] at hs
    simp only [freshB, hk, Bool.and_eq_true, Bool.or_eq_true] at hf
    have hn : len = m.len := hs _ (List.mem_singleton.2 rfl)
    obtain ⟨cur, h1, h2, h3, h4, h5⟩ := h.ents k _ hk
    have hval : ∀ i c, i < m.len → c < m.width → w.cell? ⟨(ρ k).1, i * m.width + c, none⟩ = some (cur.getD (i * m.width + c) undef) := by
     intro i c hi hc
     obtain ⟨v, hv, _⟩ := h5 i c hi hc
     rw [cell_of_row w _ _ _ _ _ (h1 (by omega)), hv]
     simp [hv]
    refine .sl m ⟨(ρ k).1, 0, none⟩ len (ρ k).2 hn (by omega) (fun i c => cur.getD (i * m.width + c) undef) (fun i c hi hc => ⟨?_, ?_⟩) (fun i c hi hc => ?_)
    ·rw [add_lit0]; exact ucell_mk (hval i c hi hc) (frozen_of_row _ _ _ _ _ (h1 (by omega)))
    ·exact hno k _ hk hf.2 _ ⟨rfl, by omega⟩
    ·obtain ⟨v, hv, hd⟩ := h5 i c hi hc
     have e2 : cur.getD (i * m.width + c) undef = v := by simp [hv]
     rw [e2]
     rcases hf.1 with hf | hf
     ·rw [hf] at hd; exact hRD hd
     ·exact hRD (RD.of_flats hd (Mem.flat_get hf _ _))
   | box t cs => exact .undef _
   | reg => exact .undef _
   | vw xs => exact .undef _
   | mat t o xss hole =>
    cases hole with
    | some i => exact .undef _
    | none =>
     simp only [snapPs, hk] at hs
     simp only [freshB, hk] at hf
     have hn : len = xss.length := hs _ (List.mem_singleton.2 rfl)
     subst hn
     have hm : MatOk w (ρ k) t o xss none := h.ents k _ hk
     exact mat_read hm (hno k _ hk hf) (.inl rfl)
 | ptr k c =>
  simp only [snapV]
  cases hk : aget st k with
  | none => exact .undef _
  | some e =>
   cases e with
   | box t cs =>
    simp only [snapPs, hk] at hs
    simp only [freshB, hk, Bool.and_eq_true] at hf
    obtain ⟨cur, h1, h2, h3⟩ := h.ents k _ hk
    have e0 : (⟨(ρ k).1, c, none⟩ : Addr) = (⟨(ρ k).1, 0, none⟩ : Addr).add c := (add_lit0 _ _).symm
    rw [e0]
    refine .bx _ ⟨(ρ k).1, 0, none⟩ c (fun j => cur.getD j undef) (fun j hj => ⟨?_, ?_⟩) (fun j d hd => ?_)
    ·have hj' : j < cur.size := by rw [h2]; simpa using hj
     rw [add_lit0]
     exact ucell_mk (by rw [cell_of_row w _ _ _ _ _ h1]; simp [hj']) (frozen_of_row _ _ _ _ _ h1)
    ·exact hno k _ hk hf.2 _ rfl
    ·have hj : j < cs.length := by have := (List.getElem?_eq_some_iff.1 hd).1; simpa using this
     have hj' : j < cur.size := by rw [h2]; exact hj
     refine lst n cs cur.toList ih (fun j v p hv hp => ?_) hs hf.1 j _ d ?_ hd
     ·obtain ⟨u, hu, _, hq⟩ := h3 j p hp
      have : u = v := by simp at hv; rw [hu] at hv; exact Option.some.inj hv
      rw [← this]; exact hq
     ·simp [hj']
   | arr fr e m => exact .undef _
   | reg => exact .undef _
   | vw xs => exact .undef _
   | mat _ _ _ _ => exact .undef _
 | eadr k wd i c => exact .undef _
 | radr k i c => exact .undef _
 | rw k i n => simp [freshB] at hf
 | rwN k i hz => simp [freshB] at hf
 | fn f kk vs cs hl hr => exact .fn f kk vs _ (by simpa using hl) (lst n cs vs ih hr hs hf)
 | agg vs cs hl hr => exact .agg vs _ (by simpa using hl) (lst n cs vs ih hr hs hf)
 | tup vs cs hl hr => exact .tup vs _ (by simpa using hl) (lst n cs vs ih hr hs hf)
 | optF p => exact .undef _
 | optT p v hp => exact .undef _
 | reg k x v hx => simp [freshB] at hf
 | vw k n cap hc => simp [freshB] at hf
 | vwN k v hv => simp [freshB] at hf
def retVals (P : Program) (σ : Env) (st : Store) : List ResultVar → List Prop × List PV
 | [] => ([], [])
 | .tmp t :: r => ((retVals P σ st r).1, evP σ (.tmp t) :: (retVals P σ st r).2)
 | .cell t ty :: r =>
  match tyAgg P ty, tySize P ty, evP σ (.tmp t) with
  | some true, some n, .ptr k c =>
   match aget st k with
   | some (.box _ ps) => match Nat.ble (c + n) ps.length with
    | true => ((retVals P σ st r).1, .agg ((ps.drop c).take n) :: (retVals P σ st r).2)
    | false => ([False], [])
   | _ => ([False], [])
  | _, _, _ => ([False], [])
def ownIds : List PV → List Re → List Nat
 | .own k _ :: ps, .own _ _ :: rs => k :: ownIds ps rs
 | .own k _ :: ps, .mat _ _ _ :: rs => k :: ownIds ps rs
 | _ :: ps, _ :: rs => ownIds ps rs
 | _, _ => []
def nodupB : List Nat → Bool
 | [] => true
 | k :: r => (r.all fun j => !Nat.beq j k) && nodupB r
def retOne (avoid : List Nat) (st : Store) : PV → Re → List Prop
 | .own k n, .own e m => match aget st k with
  | some (.arr fr e' m') => match Nat.beq e e' && (fr || m'.flat) with
   | true => (n = m'.len) :: mEq m' m
   | false => [False]
  | _ => [False]
 | .d _ .nil, .own _ m => [m.len = 0]
 | .own k n, .mat e eo xss => match aget st k with
  | some (.mat e' eo' xss' none) => match Nat.beq e e' && Nat.beq eo eo' with
   | true => [n = xss'.length, xss' = xss]
   | false => [False]
  | _ => [False]
 | .d _ .nil, .mat _ _ xss => [xss.length = 0]
 | p, .d x => match freshB avoid 4 st p with
  | true => snapPs 4 st p ++ dEq (snapV 4 st p) x
  | false => [False]
 | _, _ => [False]
def retAll (avoid : List Nat) (st : Store) : List PV → List Re → List Prop
 | [], [] => []
 | p :: ps, r :: rs => retOne avoid st p r ++ retAll avoid st ps rs
 | _, _ => [False]
def isAgg : List PV → Bool
 | [.agg _] => true
 | _ => false
def isAgt (n : Nat) : List PV → Bool
 | .agg qs :: _ :: _ => Nat.beq qs.length n
 | _ => false
def partsOf : Res → List PV → List PV
 | .agg _, [.agg qs] => qs
 | .agt _ _, .agg qs :: ps => qs ++ ps
 | _, ps => ps
def retPsA (av : List Nat) (P : Program) (rvs : List ResultVar) (r : Res) (σ : Env) (st : Store) : List Prop :=
 let ps := partsOf r (retVals P σ st rvs).2
 match nodupB (ownIds ps r.list) && (match r with
  | .one _ => Nat.beq rvs.length 1
  | .tup _ => !Nat.beq rvs.length 1
  | .agg _ => isAgg (retVals P σ st rvs).2
  | .agt n _ => isAgt n (retVals P σ st rvs).2) with
 | true => (retVals P σ st rvs).1 ++ retAll (av ++ ownIds ps r.list) st ps r.list
 | false => [False]
def retPs (P : Program) (rvs : List ResultVar) (r : Res) (σ : Env) (st : Store) : List Prop := retPsA [] P rvs r σ st
def retK (P : Program) (rvs : List ResultVar) (r : Res) : Post := fun e σ st =>
 match e with
 | .normal => allP (retPs P rvs r σ st)
 | .ret => allP (retPs P rvs r σ st)
 | _ => False
def env0 : Nat → List D → Env
 | _, [] => []
 | i, x :: r => (i, .d false x) :: env0 (i + 1) r
theorem env0_get : ∀ (l : List D) (i t : Nat) (p : PV), aget (env0 i l) t = some p → ∃ j x, t = i + j ∧ l[j]? = some x ∧ p = .d false x
 | x :: r, i, t, p, h => by
  rcases aget_cons h with ⟨rfl, rfl⟩ | ⟨_, h⟩
  ·exact ⟨0, x, rfl, rfl, rfl⟩
  ·obtain ⟨j, y, h1, h2, h3⟩ := env0_get r (i + 1) t p h
   exact ⟨j + 1, y, by omega, h2, h3⟩
def resVal (tmps : Array Value) : ResultVar → Sem Value
 | .tmp t => pure (tmps.getD t undef)
 | .cell x t => do loadVar t (← asAddr (tmps.getD x undef))
theorem retVals_ok (h : StR S ρ a w σ st) : ∀ (rvs : List ResultVar), (∀ q ∈ (retVals S.P σ st rvs).1, q) →
  ∃ vs : List Value, vs.length = rvs.length ∧ (retVals S.P σ st rvs).2.length = rvs.length ∧
   (rvs.mapM (resVal a.tmps)).run S.P w = Result.ok vs w ∧
   ∀ (j : Nat) (v : Value) (p : PV), vs[j]? = some v → (retVals S.P σ st rvs).2[j]? = some p → RPs S ρ w st v p
 | [], _ => ⟨[], rfl, rfl, rfl, fun j v p hv => by simp at hv⟩
 | .tmp t :: r, hp => by
  obtain ⟨vs, h1, h2, h3, h4⟩ := retVals_ok h r hp
  refine ⟨a.tmps.getD t undef :: vs, by simp [h1], by simp [retVals, h2], ?_, fun j v p hv hpj => ?_⟩
  ·simp only [List.mapM_cons, resVal, Sem.run_bind, Sem.run_pure, Result.andThen_ok, h3]
  ·cases j with
   | zero =>
    simp only [retVals, List.getElem?_cons_zero, Option.some.injEq] at hv hpj
    subst hv hpj
    exact evP_ok h (.tmp t)
   | succ j => exact h4 j v p (by simpa using hv) (by simpa [retVals] using hpj)
 | .cell t ty :: r, hp => by
  simp only [retVals] at hp
  split at hp
  ·rename_i n k c hg hn hx
   split at hp
   ·rename_i bt ps hk
    split at hp
    ·rename_i hb
     obtain ⟨vs, h1, h2, h3, h4⟩ := retVals_ok h r hp
     have hb := Nat.le_of_ble_eq_true hb
     have hev := evP_ok h (.tmp t)
     rw [hx] at hev
     have hev' : a.tmps.getD t undef = .pointer (some ⟨(ρ k).1, c, none⟩) := by
      have : a.eval (.tmp t) = .pointer (some ⟨(ρ k).1, c, none⟩) := by
       revert hev
       generalize a.eval (.tmp t) = u
       intro hev
       cases hev
       rfl
      exact this
     obtain ⟨cur, e1, e2, e3⟩ := h.ents k _ hk
     have e2' : cur.size = ps.length := e2
     let us : List Value := ((cur.toList.drop c).take n)
     have hul : us.length = n := by simp [us]; omega
     have hus : ∀ (j : Nat) (v : Value), us[j]? = some v → cur[c + j]? = some v := by
      intro j v hv
      have := list_slice_get (l := cur.toList) hv
      simpa using this
     have hload : (loadVar ty ⟨(ρ k).1, c, none⟩).run S.P w = .ok (.agg us.toArray) w :=
      run_loadVarN hg hn hul fun j v hv => by
       have e : (⟨(ρ k).1, c, none⟩ : Addr).add j = ⟨(ρ k).1, c + j, none⟩ := by unfold Addr.add; split <;> simp_all
       rw [e]
       exact cell_in h hk e1 (hus j v hv)
     have er : retVals S.P σ st (.cell t ty :: r) = ((retVals S.P σ st r).1, .agg ((ps.drop c).take n) :: (retVals S.P σ st r).2) := by
      simp only [retVals, hg, hn, hx, hk]
      rw [show Nat.ble (c + n) ps.length = true from Nat.ble_eq_true_of_le hb]
     rw [er]
     refine ⟨.agg us.toArray :: vs, by simp [h1], by simp [h2], ?_, fun j v p hv hpj => ?_⟩
     ·simp only [List.mapM_cons, resVal, Sem.run_bind, hev', asAddr, Sem.run_pure, Result.andThen_ok, hload, h3]
     ·cases j with
      | zero =>
       simp only [List.getElem?_cons_zero, Option.some.injEq] at hv hpj
       subst hv hpj
       refine .agg us _ (by rw [hul]; exact (list_slice hb).symm) fun j v p hv hp => ?_
       obtain ⟨u, hu, _, hq⟩ := e3 (c + j) p (list_slice_get hp)
       have := hus j v hv
       rw [hu] at this
       cases this
       exact hq
      | succ j => exact h4 j v p (by simpa using hv) (by simpa using hpj)
    ·exact (hp _ (List.mem_singleton.2 rfl)).elim
   ·exact (hp _ (List.mem_singleton.2 rfl)).elim
  ·exact (hp _ (List.mem_singleton.2 rfl)).elim
theorem ownIds_get : ∀ (ps : List PV) (rs : List Re) (i : Nat) (k n : Nat) (q : Re) (e : Ent), ps[i]? = some (.own k n) → rs[i]? = some q → q.ent = some e → k ∈ ownIds ps rs
 | p :: ps, r :: rs, 0, k, n, q, e, h1, h2, h3 => by
  simp at h1 h2
  subst h1 h2
  cases r with
  | d x => simp [Re.ent] at h3
  | own _ _ => simp [ownIds]
  | mat _ _ _ => simp [ownIds]
 | p :: ps, r :: rs, i + 1, k, n, q, e, h1, h2, h3 => by
  have := ownIds_get ps rs i k n q e (by simpa using h1) (by simpa using h2) h3
  cases p <;> cases r <;> simp [ownIds, this]
theorem ownIds_inj (ps : List PV) : ∀ (rs : List Re) (i j : Nat) (k n n' : Nat) (q q' : Re) (e e' : Ent), nodupB (ownIds ps rs) = true → ps[i]? = some (.own k n) → rs[i]? = some q → q.ent = some e →
  ps[j]? = some (.own k n') → rs[j]? = some q' → q'.ent = some e' → i = j := by
 induction ps with
 | nil => intro rs i j k n n' q q' e e' _ h1; simp at h1
 | cons p ps ih =>
  intro rs i j k n n' q q' e e' hn h1 h2 h3 h4 h5 h6
  cases rs with
  | nil => simp at h2
  | cons r rs =>
   have head : ∀ (j n n' : Nat) (q q' : Re) (e e' : Ent), p = .own k n → r = q → q.ent = some e → ps[j]? = some (.own k n') → rs[j]? = some q' → q'.ent = some e' → False := by
    intro j n n' q q' e e' g1 g2 g3 g4 g5 g6
    have hm := ownIds_get ps rs j k n' q' e' g4 g5 g6
    subst g1 g2
    cases r with
    | d x => simp [Re.ent] at g3
    | own _ _ =>
     simp only [ownIds, nodupB, Bool.and_eq_true, List.all_eq_true] at hn
     have := hn.1 k hm
     simp [beq_self] at this
    | mat _ _ _ =>
     simp only [ownIds, nodupB, Bool.and_eq_true, List.all_eq_true] at hn
     have := hn.1 k hm
     simp [beq_self] at this
   cases i with
   | zero =>
    cases j with
    | zero => rfl
    | succ j => exact (head j n n' q q' e e' (by simpa using h1) (by simpa using h2) h3 (by simpa using h4) (by simpa using h5) h6).elim
   | succ i =>
    cases j with
    | zero => exact (head i n' n q' q e' e (by simpa using h4) (by simpa using h5) h6 (by simpa using h1) (by simpa using h2) h3).elim
    | succ j =>
     have hn' : nodupB (ownIds ps rs) = true := by
      cases p <;> cases r <;> simp only [ownIds, nodupB, Bool.and_eq_true] at hn <;> first | exact hn | exact hn.2
     have := ih rs i j k n n' q q' e e' hn' (by simpa using h1) (by simpa using h2) h3 (by simpa using h4) (by simpa using h5) h6
     omega
theorem retAll_get {avoid : List Nat} : ∀ (ps : List PV) (rs : List Re), (∀ q ∈ retAll avoid st ps rs, q) → ps.length = rs.length ∧ ∀ (i : Nat) (p : PV) (r : Re), ps[i]? = some p → rs[i]? = some r → ∀ q ∈ retOne avoid st p r, q
 | [], [], _ => ⟨rfl, fun i p r h => by simp at h⟩
 | [], _ :: _, h => (h False (List.mem_singleton.2 rfl)).elim
 | _ :: _, [], h => (h False (List.mem_singleton.2 rfl)).elim
 | p :: ps, r :: rs, h => by
  obtain ⟨h1, h2⟩ := retAll_get ps rs fun q hq => h q (by simp only [retAll]; exact List.mem_append_right _ hq)
  refine ⟨by simp [h1], fun i p' r' hp hr => ?_⟩
  cases i with
  | zero => simp at hp hr; subst hp hr; exact fun q hq => h q (by simp only [retAll]; exact List.mem_append_left _ hq)
  | succ i => exact h2 i p' r' (by simpa using hp) (by simpa using hr)
theorem retOne_d {avoid : List Nat} {p : PV} {x : D} : retOne avoid st p (.d x) = (match freshB avoid 4 st p with
  | true => snapPs 4 st p ++ dEq (snapV 4 st p) x
  | false => [False]) := by
 cases p with
 | d fr y => cases y <;> rfl
 | _ => rfl
def retρ (ρ : Nat → Nm) (L : List PV) (i : Nat) : Nm :=
 match L[i]? with
 | some (.own k _) => ρ k
 | _ => nm 0 0
theorem retρ_own {L : List PV} {i k n : Nat} (h : L[i]? = some (.own k n)) : retρ ρ L i = ρ k := by simp only [retρ, h]
theorem retOne_own {avoid : List Nat} {k n : Nat} {e : TypeId} {m : Mem} (h : ∀ q ∈ retOne avoid st (.own k n) (.own e m), q) : ∃ fr m', aget st k = some (.arr fr e m') ∧ (fr = true ∨ m'.flat = true) ∧ n = m'.len ∧ m' = m := by
 simp only [retOne] at h
 cases hk : aget st k with
 | none => rw [hk] at h; exact (h _ (List.mem_singleton.2 rfl)).elim
 | some en =>
  cases en with
  | arr fr t mm =>
   rw [hk] at h
   simp only at h
   split at h
   ·rename_i hbb
    simp only [Bool.and_eq_true, beq_true, Bool.or_eq_true] at hbb
    obtain ⟨hb1, hb2⟩ := hbb
    subst hb1
    exact ⟨fr, mm, rfl, hb2, h _ List.mem_cons_self, mEq_ok fun q hq => h q (List.mem_cons_of_mem _ hq)⟩
   ·exact (h _ (List.mem_singleton.2 rfl)).elim
  | _ => rw [hk] at h; exact (h _ (List.mem_singleton.2 rfl)).elim
theorem retOne_mat {avoid : List Nat} {k n : Nat} {e eo : TypeId} {xss : List (List Int)} (h : ∀ q ∈ retOne avoid st (.own k n) (.mat e eo xss), q) : aget st k = some (.mat e eo xss none) ∧ n = xss.length := by
 simp only [retOne] at h
 split at h
 ·rename_i e' eo' xss' hk
  split at h
  ·rename_i hbb
   simp only [Bool.and_eq_true, beq_true] at hbb
   obtain ⟨rfl, rfl⟩ := hbb
   have h1 : n = xss'.length := h _ (by simp)
   have h2 : xss' = xss := h _ (by simp)
   subst h2
   exact ⟨hk, h1⟩
  ·exact (h _ (List.mem_singleton.2 rfl)).elim
 ·exact (h _ (List.mem_singleton.2 rfl)).elim
theorem ret_blk {avoid : List Nat} {L : List PV} {rs : List Re} (h6 : ∀ (i : Nat) (p : PV) (r : Re), L[i]? = some p → rs[i]? = some r → ∀ q ∈ retOne avoid st p r, q) (h5 : L.length = rs.length) {i : Nat} {r : Re} {e : Ent} {b : Nat}
  (hi : rs[i]? = some r) (he : r.ent = some e) (hb : blk e (retρ ρ L i) b) : ∃ k n e1, L[i]? = some (.own k n) ∧ aget st k = some e1 ∧ blk e1 (ρ k) b := by
 have hil : i < L.length := by rw [h5]; exact (List.getElem?_eq_some_iff.1 hi).1
 have hp := List.getElem?_eq_getElem hil
 revert hp
 generalize L[i] = p
 intro hp
 have h7 := h6 i p r hp hi
 have non : (∀ k n, p ≠ .own k n) → blk e (nm 0 0) b := by
  intro hno
  have : retρ ρ L i = nm 0 0 := by
   unfold retρ
   rw [hp]
   cases p <;> first | rfl | exact absurd rfl (hno _ _)
  rw [this] at hb
  exact hb
 cases r with
 | d x => simp [Re.ent] at he
 | own t m =>
  simp only [Re.ent, Option.some.injEq] at he
  subst he
  cases p with
  | own k n =>
   obtain ⟨fr, m1, hk, _⟩ := retOne_own h7
   rw [retρ_own hp] at hb
   exact ⟨k, n, _, hp, hk, hb⟩
  | d fr y =>
   exact absurd (non (by simp)).2 (by simp)
  | _ => exact (h7 False (by show False ∈ [False]; exact List.mem_singleton.2 rfl)).elim
 | mat t o xss =>
  simp only [Re.ent, Option.some.injEq] at he
  subst he
  cases p with
  | own k n =>
   obtain ⟨hk, _⟩ := retOne_mat h7
   rw [retρ_own hp] at hb
   exact ⟨k, n, _, hp, hk, hb⟩
  | d fr y =>
   cases y with
   | nil =>
    have h0 : xss.length = 0 := h7 _ (by simp [retOne])
    rcases non (by simp) with h8 | ⟨j, hj, _⟩
    ·exact absurd h8.2 (by simp)
    ·omega
   | _ => exact (h7 False (by show False ∈ [False]; exact List.mem_singleton.2 rfl)).elim
  | _ => exact (h7 False (by show False ∈ [False]; exact List.mem_singleton.2 rfl)).elim
theorem parts_agt {n : Nat} {L : List PV} {vs0 : List Value} (hl : vs0.length = L.length) (ht : isAgt n L = true) (h4 : ∀ (j : Nat) (v : Value) (p : PV), vs0[j]? = some v → L[j]? = some p → RPs S ρ w st v p) (rs : List Re) :
  ∃ vs : List Value, (if hh : vs0.toArray.size = 1 then vs0.toArray[0] else .tuple vs0.toArray) = (Res.agt n rs).value vs ∧ vs.length = (partsOf (.agt n rs) L).length ∧
   ∀ (j : Nat) (v : Value) (p : PV), vs[j]? = some v → (partsOf (.agt n rs) L)[j]? = some p → RPs S ρ w st v p := by
 unfold isAgt at ht
 split at ht
 rotate_left
 ·cases ht
 rename_i qs p1 ps
 have hn := beq_true.1 ht
 obtain ⟨v0, v1, vr, rfl⟩ : ∃ v0 v1 vr, vs0 = v0 :: v1 :: vr := by
  match vs0, hl with
  | v0 :: v1 :: vr, _ => exact ⟨v0, v1, vr, rfl⟩
 have hrp : RPs S ρ w st v0 (.agg qs) := h4 0 v0 _ rfl rfl
 have hl1 : ¬ (v0 :: v1 :: vr).toArray.size = 1 := by simp
 rw [dif_neg hl1]
 cases hrp with
 | agg us _ hlu hr =>
  refine ⟨us ++ v1 :: vr, ?_, ?_, fun j v p hv hp => ?_⟩
  ·have hu : us.length = n := hlu.trans hn
   subst hu
   simp [Res.value]
  ·show (us ++ v1 :: vr).length = (qs ++ p1 :: ps).length
   simp only [List.length_append, List.length_cons] at hl ⊢
   omega
  ·have hp : (qs ++ p1 :: ps)[j]? = some p := hp
   by_cases hj : j < us.length
   ·rw [List.getElem?_append_left hj] at hv
    rw [List.getElem?_append_left (by omega)] at hp
    exact hr j v p hv hp
   ·rw [List.getElem?_append_right (by omega)] at hv hp
    rw [← hlu] at hp
    exact h4 (j - us.length + 1) v p (by simpa using hv) (by simpa using hp)
theorem ret_okA {fn : Func} (av : List Nat) (h : StR S ρ a w σ st) (hmay : ∀ b, S.may b → ¬ S.F b) (hF : ∀ b, b < S.w0.heap.size → S.F b ∨ ∃ k e, k ∈ av ∧ aget st k = some e ∧ blk e (ρ k) b)
  (hown : ∀ k e, aget st k = some e → (∀ t cs, e ≠ .box t cs) → ∀ b, blk e (ρ k) b → S.w0.heap.size ≤ b) {r : Res} (hp : ∀ q ∈ retPsA av S.P fn.results.toList r σ st, q) :
  ∃ v, (results fn a.tmps).run S.P w = .ok v w ∧ ResOk S.w0.heap.size w v r := by
 unfold retPsA at hp
 simp only at hp
 split at hp
 rotate_left
 ·exact (hp _ (List.mem_singleton.2 rfl)).elim
 rename_i hb
 simp only [Bool.and_eq_true] at hb
 obtain ⟨hnd, hlen⟩ := hb
 obtain ⟨vs0, h1, h2, h3, h4⟩ := retVals_ok h fn.results.toList fun q hq => hp q (List.mem_append_left _ hq)
 obtain ⟨h5, h6⟩ := retAll_get _ _ fun q hq => hp q (List.mem_append_right _ hq)
 have hrun : (results fn a.tmps).run S.P w = .ok (if hh : vs0.toArray.size = 1 then vs0.toArray[0] else .tuple vs0.toArray) w := by
  have e0 : results fn a.tmps = (do
    let vs ← fn.results.mapM (resVal a.tmps)
    pure (if h : vs.size = 1 then vs[0] else .tuple vs)) := by
   unfold results
   congr 1
  rw [e0]
  have e : fn.results = fn.results.toList.toArray := by simp
  rw [e]
  simp only [List.mapM_toArray, Sem.run_bind, Sem.run_map, h3]
  rfl
 clear h3 hp
 revert hnd hlen h2 h4 h5 h6
 generalize (retVals S.P σ st fn.results.toList).2 = L
 intro hnd hlen h2 h4 h5 h6
 obtain ⟨vs, hval, hvl', hvs⟩ : ∃ vs : List Value, (if hh : vs0.toArray.size = 1 then vs0.toArray[0] else .tuple vs0.toArray) = r.value vs ∧ vs.length = (partsOf r L).length ∧
   ∀ (j : Nat) (v : Value) (p : PV), vs[j]? = some v → (partsOf r L)[j]? = some p → RPs S ρ w st v p := by
  cases r with
  | one re =>
   refine ⟨vs0, ?_, h1.trans h2.symm, h4⟩
   have hl1 : vs0.toArray.size = 1 := by rw [List.size_toArray, h1]; exact beq_true.1 hlen
   rw [dif_pos hl1]
   have : 0 < vs0.length := by simpa using (by omega : 0 < vs0.toArray.size)
   simp [Res.value, List.getD, this]
  | tup rs =>
   refine ⟨vs0, ?_, h1.trans h2.symm, h4⟩
   have hl1 : ¬ vs0.toArray.size = 1 := by
    rw [List.size_toArray, h1]
    simp only [Bool.not_eq_true'] at hlen
    exact beq_false.1 hlen
   rw [dif_neg hl1]
   rfl
  | agg rs =>
   have : ∃ qs, L = [.agg qs] := by
    have hlen : isAgg L = true := hlen
    unfold isAgg at hlen
    split at hlen
    ·exact ⟨_, rfl⟩
    ·cases hlen
   obtain ⟨qs, rfl⟩ := this
   have hv1 : vs0.length = 1 := by rw [h1, ← h2]; rfl
   obtain ⟨v0, rfl⟩ : ∃ v0, vs0 = [v0] := by
    match vs0, hv1 with
    | [v0], _ => exact ⟨v0, rfl⟩
   have hrp : RPs S ρ w st v0 (.agg qs) := h4 0 v0 _ rfl rfl
   cases hrp with
   | agg us _ hl hr => exact ⟨us, by simp [Res.value], hl, hr⟩
  | agt n rs => exact parts_agt (h1.trans h2.symm) hlen h4 rs
 clear h1 h2 h4 hlen
 revert hnd h5 h6 hvl' hvs
 generalize partsOf r L = M
 intro hnd h5 h6 hvl' hvs
 refine ⟨_, hrun, retρ ρ M, vs, hval, hvl'.trans h5, fun i j x y e e' b hi hj hxe hye hb1 hb2 => ?_, fun i v x hv hx => ?_⟩
 ·obtain ⟨k, n, e1, q1, q2, q3⟩ := ret_blk h6 h5 hi hxe hb1
  obtain ⟨k', n', e1', q1', q2', q3'⟩ := ret_blk h6 h5 hj hye hb2
  have := h.inj k k' _ _ q2 q2' b q3 q3'
  subst this
  exact ownIds_inj _ _ i j k n n' x y e e' hnd q1 hi hxe q1' hj hye
 ·have hil : i < M.length := by rw [← hvl']; exact (List.getElem?_eq_some_iff.1 hv).1
  have hq := List.getElem?_eq_getElem hil
  revert hq
  generalize M[i] = p
  intro hq
  have hrp := hvs i v p hv hq
  have hx6 := h6 i p x hq hx
  have hOb : ∀ b, ownB (retρ ρ M) r.list b → ∃ k e, k ∈ ownIds M r.list ∧ aget st k = some e ∧ blk e (ρ k) b := by
   intro b hb
   obtain ⟨j, y, e, hj, hye, hbe⟩ := hb
   obtain ⟨k, n, e1, q1, q2, q3⟩ := ret_blk h6 h5 hj hye hbe
   exact ⟨k, e1, ownIds_get _ _ j k n y e q1 hj hye, q2, q3⟩
  cases x with
  | d y =>
   rw [retOne_d] at hx6
   split at hx6
   ·rename_i hf
    have hOb2 : ∀ b, (ownB (retρ ρ M) r.list b ∨ ∃ k e, k ∈ av ∧ aget st k = some e ∧ blk e (ρ k) b) → ∃ k e, k ∈ av ++ ownIds M r.list ∧ aget st k = some e ∧ blk e (ρ k) b := by
     intro b hb
     rcases hb with hb | ⟨k, e, hk1, hk2, hk3⟩
     ·obtain ⟨k, e, q1, q2, q3⟩ := hOb b hb
      exact ⟨k, e, List.mem_append_right _ q1, q2, q3⟩
     ·exact ⟨k, e, List.mem_append_left _ hk1, hk2, hk3⟩
    exact dEq_ok (R.mono (snap_fresh h hmay hOb2 4 v p hrp (fun q hq => hx6 q (List.mem_append_left _ hq)) hf) fun ad z h1 h2 => ⟨h1, fun h3 => h2 (by
     rcases h3 with h3 | h3
     ·exact .inl (.inl h3)
     ·rcases hF _ h3 with h4 | h4
      ·exact .inr h4
      ·exact .inl (.inr h4))⟩) fun q hq => hx6 q (List.mem_append_right _ hq)
   ·exact (hx6 _ (List.mem_singleton.2 rfl)).elim
  | own e m =>
   cases p with
   | own k n =>
    obtain ⟨fr, mm, hk, hb2, hn, hm⟩ := retOne_own hx6
    subst hm
    obtain ⟨cur, g1, g2, g3, g4, g5⟩ := h.ents k _ hk
    simp only [ReOk, retρ_own hq]
    refine ⟨?_, fun hpos => ?_, cur, g1, g2, g3, g4, fun i2 c hi hc => ?_⟩
    ·cases hrp with
     | own => exact .inl (by rw [hn])
     | ownN _ hc => exact .inr ⟨rfl, hn.symm, hc⟩
    ·exact hown k _ hk (by simp) _ ⟨rfl, hpos⟩
    ·obtain ⟨u, hu, hd⟩ := g5 i2 c hi hc
     refine ⟨u, hu, ?_⟩
     have hd' : RD w (liveO S.O ρ st) S.F true u (mm.get i2 c) := by
      rcases hb2 with hf | hf
      ·rw [hf] at hd; exact hd
      ·exact RD.of_flats hd (Mem.flat_get hf _ _)
     refine R.mono hd' fun ad v h1 h2 => ⟨h1, fun h3 => h2 ?_⟩
     rcases h3 with h3 | h3
     ·obtain ⟨k', e', _, q2, q3⟩ := hOb _ h3
      exact .inl (.inr ⟨k', e', q2, q3⟩)
     ·rcases hF _ h3 with h4 | ⟨k', e', _, hk', hb'⟩
      ·exact .inr h4
      ·exact .inl (.inr ⟨k', e', hk', hb'⟩)
   | d fr y =>
    cases y with
    | nil =>
     simp only [retOne] at hx6
     have hm : m.len = 0 := hx6 _ (List.mem_singleton.2 rfl)
     have hvn := (RPs.d_inv hrp).nil_inv
     have hr0 : retρ ρ M i = nm 0 0 := by simp only [retρ, hq]
     simp only [ReOk, hr0]
     exact ⟨.inr ⟨hvn, hm, trivial⟩, by simp, #[], by simp, by simp, by simp, by rw [hm]; simp, fun i2 c hi _ => by omega⟩
    | _ => exact (hx6 False (by show False ∈ [False]; exact List.mem_singleton.2 rfl)).elim
   | _ => exact (hx6 False (by show False ∈ [False]; exact List.mem_singleton.2 rfl)).elim
  | mat e eo xss =>
   cases p with
   | own k n =>
    obtain ⟨hk, hn⟩ := retOne_mat hx6
    subst hn
    simp only [ReOk, retρ_own hq]
    exact ⟨hrp.own_inv, h.ents k _ hk, fun b hb => ⟨hown k _ hk (by simp) b hb, (h.own k _ hk b hb).1⟩⟩
   | d fr y =>
    cases y with
    | nil =>
     have hm : xss.length = 0 := hx6 _ (by simp [retOne])
     have hvn := (RPs.d_inv hrp).nil_inv
     have hr0 : retρ ρ M i = nm 0 0 := by simp only [retρ, hq]
     simp only [ReOk, hr0]
     refine ⟨.inr ⟨hvn, hm, trivial⟩, matNil w e eo hm, fun b hb => ?_⟩
     rcases hb with hb | ⟨j, hj, _⟩
     ·exact absurd hb.2 (by simp)
     ·omega
    | _ => exact (hx6 False (by show False ∈ [False]; exact List.mem_singleton.2 rfl)).elim
   | _ => exact (hx6 False (by show False ∈ [False]; exact List.mem_singleton.2 rfl)).elim
theorem ret_ok {fn : Func} (h : StR S ρ a w σ st) (hmay : ∀ b, ¬ S.may b) (hF : ∀ b, b < S.w0.heap.size → S.F b) {r : Res} (hp : ∀ q ∈ retPs S.P fn.results.toList r σ st, q) :
  ∃ v, (results fn a.tmps).run S.P w = .ok v w ∧ ResOk S.w0.heap.size w v r :=
 ret_okA [] h (fun b hb => (hmay b hb).elim) (fun b hb => .inl (hF b hb)) (fun k e hk _ b hb => (h.own k _ hk b hb).2.2.elim id fun h7 => (hmay _ h7).elim) hp
theorem pc_of {P : Program} {f : FuncId} {fn : Func} {c : Code} (hm : P.follows .mixedOrders = true) (hf : P.funcs[f]? = some fn) (hbody : Body P f) (hb : fn.body = some c) (C : FuncId → List D → Orc) (A : Ann) {args : List D} {r : Res}
  (hB : (Nat.ble args.length fn.ntmps && codeB fn.ntmps c) = true) (hv : vc P C c A (env0 0 args) [] (retK P fn.results.toList r)) : PC P f args r := by
 refine ⟨hbody, fun w O vs hO hall => ?_⟩
 simp only [Bool.and_eq_true] at hB
 have hle := Nat.le_of_ble_eq_true hB.1
 refine calls_of_wp hf hb ?_
 let S : Setting := { P := P, n := fn.ntmps, w0 := w, O := O, may := fun _ => False, F := fun b => b < w.heap.size, fb := fun _ h => h }
 have hst : StR S (fun _ => nm 0 0) { tmps := vs.toArray ++ Array.replicate (fn.ntmps - vs.toArray.size) undef, defers := [] } w (env0 0 args) [] := by
  have hvl := hall.1
  refine ⟨?_, rfl, hO, fun k e hk => by simp [aget] at hk, fun k e hk => by simp [aget] at hk, fun k k' e e' hk => by simp [aget] at hk, fun t p hp => ?_, ⟨rfl, rfl, rfl, Nat.le_refl _, Nat.le_refl _, fun _ _ _ => rfl⟩, fun t p hp j hj => ?_, fun k t cs hk => by simp [aget] at hk, fun _ hg => by cases hg⟩
  ·show (vs.toArray ++ Array.replicate (fn.ntmps - vs.toArray.size) undef).size = fn.ntmps
   simp; omega
  ·obtain ⟨j, x, h1, h2, h3⟩ := env0_get args 0 t p hp
   rw [Nat.zero_add] at h1
   subst h1 h3
   have hj : t < args.length := (List.getElem?_eq_some_iff.1 h2).1
   refine ⟨by show t < fn.ntmps; omega, ?_⟩
   have hjv : t < vs.length := by omega
   have hv := List.getElem?_eq_getElem hjv
   have hr := hall.2 t _ x hv h2
   have e : (vs.toArray ++ Array.replicate (fn.ntmps - vs.toArray.size) undef).getD t undef = vs[t] := by
    simp [Array.getD, Array.getElem_append, hjv]
    omega
   show RP w _ _ _ ((vs.toArray ++ Array.replicate (fn.ntmps - vs.toArray.size) undef).getD t undef) _
   rw [e]
   refine .d _ _ _ (hr.step fun b hb hn => ⟨rfl, fun ho => ?_⟩)
   rcases ho with ho | ⟨k, e, hk, _⟩
   ·exact hn ho
   ·simp [aget] at hk
  ·obtain ⟨j', x, _, _, h3⟩ := env0_get args 0 t p hp
   subst h3
   simp [PV.rgm] at hj
 refine vc_ok (S := S) hm (fun _ h => h.elim) c A _ _ _ _ _ _ _ hB.2 hst hv ?_
 intro e ρ a' w' σ' st' hst' hk
 have fin : allP (retPs P fn.results.toList r σ' st') → a'.defers = [] ∧ ∃ v, (results fn a'.tmps).run P w' = .ok v w' ∧ ∃ v', (Ending.returned v : Ending) = .returned v' ∧ Bel w.heap.size w w' ∧ ResOk w.heap.size w' v' r := by
  intro hk
  obtain ⟨v, h1, h2⟩ := ret_ok hst' (fun _ h => h) (fun _ h => h) (allP_mem hk)
  refine ⟨hst'.dfr, v, h1, v, rfl, ?_, h2⟩
  exact ⟨⟨hst'.frm.os, hst'.frm.tape, hst'.frm.output, hst'.frm.size, fun b hb => hst'.frm.block b hb fun h => h⟩, hst'.frm.drawn⟩
 cases e with
 | normal => exact fin hk
 | ret => exact fin hk
 | _ => exact hk.elim
def bodyOf (fn : Func) : Code :=
 match fn.body with
 | some c => c
 | none => .skip
theorem pc_by {P : Program} {f : FuncId} {fn : Func} {Q : Prop} (hm : P.follows .mixedOrders = true) (hf : P.funcs[f]? = some fn) (hbody : Body P f) (hb : fn.body = some (bodyOf fn)) (C : FuncId → List D → Orc) (A : Ann) {args : List D} {r : Res}
  (hB : (Nat.ble args.length fn.ntmps && codeB fn.ntmps (bodyOf fn)) = true) (hq : Q) (hv : vc P C (bodyOf fn) A (env0 0 args) [] (retK P fn.results.toList r) = Q) : PC P f args r :=
 pc_of hm hf hbody hb C A hB (hv ▸ hq)
def nilTo : List (Option MK) → List D → List D
 | some k :: ks, .nil :: ds => .sl k.empty :: nilTo ks ds
 | _ :: ks, d :: ds => d :: nilTo ks ds
 | _, ds => ds
def hasNil : List (Option MK) → List D → Bool
 | some _ :: _, .nil :: _ => true
 | _ :: ks, _ :: ds => hasNil ks ds
 | _, _ => false
def orcN (ks : List (Option MK)) (f : List D → Option Res) (ds : List D) : Orc :=
 match hasNil ks ds with
 | true => match f (nilTo ks ds) with
  | some r => .call (some (nilTo ks ds)) r
  | none => .no
 | false => match f ds with
  | some r => .call none r
  | none => .no
end Go.Proofs.Ytomnmacmlhkceaa
