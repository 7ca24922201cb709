/- The pure layer, part N: each operation, guards, and regions in the text's order. No function of the program is named here. -/
import Derived.Test.YtomnmacmlhkceaaQna
set_option linter.unusedVariables false
set_option linter.unusedSimpArgs false
namespace Go.Proofs.Ytomnmacmlhkceaa
open Go
variable {S : Setting} {ρ : Nat → Nm} {a : Act} {w : World} {σ : Env} {st : Store} {o : Oper}
theorem opRun_load {P : Program} {oc : Orc} {dst : Nat} {t : TypeId} {x : Operand} {y : PV} : opRun P oc dst st (.load t x) [y] = (match tyAgg P t, tySize P t with
  | some g, some n => (match oc with
   | .take => takeRun g dst (aget st) y
   | _ => loadRun g n (aget st) y)
  | _, _ => .bad) := rfl
theorem opRun_good (h : StR S ρ a w σ st) (hd : ∀ d, o.dst = some d → d < S.n) (f : Operand → PV) {oc : Orc} {dst : Nat}
  (hf : ∀ x ∈ o.op.operands.toList, RPs S ρ w st (a.eval x) (f x)) (hg : ∀ x j, (f x).rgm j = true → aget st j = some .reg)
  (hm : ∀ x k, unment k σ st = true → (f x).ment k = false)
  (hpre : ∀ q ∈ (opRun S.P oc dst st o.op (o.op.operands.toList.map f)).pre, q) (hnew : newOk σ st (opRun S.P oc dst st o.op (o.op.operands.toList.map f)).new = true)
  (hrw : rwOk σ st (opRun S.P oc dst st o.op (o.op.operands.toList.map f)) = true) :
  Good S a w σ st o (opRun S.P oc dst st o.op (o.op.operands.toList.map f)) := by
 cases hop : o.op with
 | move x => rw [hop] at hf; exact move_good h hd (.inl hop) (hf x (by simp [Op.operands])) (hg x)
 | assign x => rw [hop] at hf; exact move_good h hd (.inr hop) (hf x (by simp [Op.operands])) (hg x)
 | alloc t => rw [hop] at hpre hnew; exact alloc_good h hd hop hpre hnew
 | box t x => rw [hop] at hf hpre hnew; exact box_good h hd hop rfl (hf x (by simp [Op.operands])) (hm x dst) (hg x) hpre hnew
 | build t ps =>
  rw [hop] at hf hpre
  have e : (Op.build t ps).operands.toList = ps.toList.map (·.2) := by simp [Op.operands]
  rw [e] at hf hpre ⊢
  refine build_good h hd hop (by simp) (fun j i x p hx hp => ?_) hpre
  simp only [List.getElem?_map, Option.map_eq_some_iff] at hp
  obtain ⟨y, ⟨z, hz, rfl⟩, rfl⟩ := hp
  have : ps.toList[j]? = some (i, x) := by simpa using hx
  rw [this] at hz; cases hz
  exact hf x (List.mem_map.2 ⟨(i, x), List.mem_of_getElem? this, rfl⟩)
 | buildSlice t n ps =>
  rw [hop] at hf hpre hnew
  have e : (Op.buildSlice t n ps).operands.toList = ps.toList.map (·.2) := by simp [Op.operands]
  rw [e] at hf hpre hnew ⊢
  refine buildSlice_good h hd hop (by simp) (fun j i x p hx hp => ?_) hpre hnew
  simp only [List.getElem?_map, Option.map_eq_some_iff] at hp
  obtain ⟨y, ⟨z, hz, rfl⟩, rfl⟩ := hp
  have : ps.toList[j]? = some (i, x) := by simpa using hx
  rw [this] at hz; cases hz
  exact hf x (List.mem_map.2 ⟨(i, x), List.mem_of_getElem? this, rfl⟩)
 | load t x =>
  rw [hop] at hf hpre hnew
  have e0 : opRun S.P oc dst st (.load t x) ((Op.load t x).operands.toList.map f) = _ := opRun_load
  cases h1 : tyAgg S.P t with
  | none => rw [e0, h1] at hpre; exact (bad_pre hpre).elim
  | some g =>
   cases h2 : tySize S.P t with
   | none => rw [e0, h1, h2] at hpre; exact (bad_pre hpre).elim
   | some n =>
    rw [e0, h1, h2] at hpre hnew ⊢
    have hl : ∀ {out : Out}, out = loadRun g n (aget st) (f x) → (∀ q ∈ out.pre, q) → Good S a w σ st o out := fun he hp => by
     subst he
     exact load_good h hd hop h1 h2 rfl (hf x (by simp [Op.operands])) hp
    cases oc with
    | take => exact take_good h hd hop h1 rfl (hf x (by simp [Op.operands])) hpre hnew
    | _ => exact hl rfl hpre
 | store t x y =>
  rw [hop] at hf hpre hrw
  have e0 : opRun S.P oc dst st (.store t x y) ((Op.store t x y).operands.toList.map f) = (match tySize S.P t with | some n => storeRun n (aget st) (f x) (stV (f x) (f y)) | _ => .bad) := rfl
  cases h2 : tySize S.P t with
  | none => rw [e0, h2] at hpre; exact (bad_pre hpre).elim
  | some n => rw [e0, h2] at hpre hrw ⊢; exact store_good h hd hop h2 rfl rfl (hf x (by simp [Op.operands])) (stV_ok (hf y (by simp [Op.operands]))) (fun j hj => hg y j (stV_rgm hj)) hpre hrw
 | nilCheck x => rw [hop] at hf hpre; exact nilCheck_good h hd hop rfl (hf x (by simp [Op.operands])) (hg x) hpre
 | binOp b t x y u => rw [hop] at hf hpre; exact bin_good h hd hop rfl rfl (hf x (by simp [Op.operands])) (hf y (by simp [Op.operands])) hpre
 | unOp u t x => rw [hop] at hf hpre; exact un_good h hd hop rfl (hf x (by simp [Op.operands])) hpre
 | convert s t x =>
  rw [hop] at hf hpre
  have e0 : opRun S.P oc dst st (.convert s t x) ((Op.convert s t x).operands.toList.map f) = (match S.P.underlying s with | some _ => convertRun S.P oc t (f x) | none => .bad) := rfl
  cases h2 : S.P.underlying s with
  | none => rw [e0, h2] at hpre; exact (bad_pre hpre).elim
  | some n => rw [e0, h2] at hpre ⊢; exact convert_good h hd hop rfl (hf x (by simp [Op.operands])) ⟨n, h2⟩ hpre
 | makeFunc fn first cap =>
  rw [hop] at hf hpre
  cases fn with
  | func g =>
   refine makeFunc_good h hd hop (ps := ((Op.makeFunc (.func g) first cap).operands.toList.map f)) (by simp [Op.operands]) (fun j x p hx hp => ?_) (fun j p hp i hi => ?_)
   ·simp only [Op.operands, Array.toList_append, List.getElem?_map, Option.map_eq_some_iff] at hp
    obtain ⟨y, hy, rfl⟩ := hp
    rw [hx] at hy; cases hy
    exact hf x (by simp only [Op.operands]; rw [Array.toList_append]; exact List.mem_of_getElem? hx)
   ·simp only [List.getElem?_map, Option.map_eq_some_iff] at hp
    obtain ⟨y, hy, rfl⟩ := hp
    exact hg y i hi
  | _ => exact (bad_pre hpre).elim
 | makeSlice t l c =>
  rw [hop] at hf hpre hnew
  have hl := hf l (by simp [Op.operands])
  have hc := hf c (by simp [Op.operands])
  cases oc with
  | take => exact makeMat_good h hd hop rfl rfl hl hc hpre hnew
  | _ => exact makeSlice_good h hd hop rfl rfl hl hc hpre hnew
 | slice t x lo hi mx =>
  rw [hop] at hf hpre
  cases mx with
  | some m => cases lo <;> cases hi <;> exact (bad_pre hpre).elim
  | none =>
   cases lo with
   | none =>
    cases hi with
    | none => exact (bad_pre hpre).elim
    | some y =>
     exact slice_good h hd hop rfl (RP.unl (hf x (by simp [Op.operands]))) (by simp) (by simp) (fun z hz => by cases hz; exact ⟨_, rfl, hf y (by simp [Op.operands])⟩) (by simp) hpre
   | some l =>
    cases hi with
    | none => exact slice_good h hd hop rfl (RP.unl (hf x (by simp [Op.operands]))) (fun z hz => by cases hz; exact ⟨_, rfl, hf l (by simp [Op.operands])⟩) (by simp) (by simp) (by simp) hpre
    | some y =>
     exact slice_good h hd hop rfl (RP.unl (hf x (by simp [Op.operands]))) (fun z hz => by cases hz; exact ⟨_, rfl, hf l (by simp [Op.operands])⟩) (by simp) (fun z hz => by cases hz; exact ⟨_, rfl, hf y (by simp [Op.operands])⟩) (by simp) hpre
 | fieldAddr s x i => rw [hop] at hf hpre; exact fieldAddr_good h hd hop rfl (hf x (by simp [Op.operands])) hpre
 | field s x i => rw [hop] at hf hpre; exact field_good h hd hop rfl (hf x (by simp [Op.operands])) (hg x) hpre
 | indexAddr t x i => rw [hop] at hf hpre; exact indexAddr_good h hd hop rfl rfl (RP.unl (hf x (by simp [Op.operands]))) (hf i (by simp [Op.operands])) hpre
 | extract x i => rw [hop] at hf hpre; exact extract_good h hd hop rfl (hf x (by simp [Op.operands])) (hg x) hpre
 | call c =>
  rw [hop] at hf hpre hnew
  obtain ⟨callee, ⟨args⟩, ⟨ats⟩⟩ := c
  cases callee with
  | value g =>
   have e : (Op.call { callee := .value g, args := ⟨args⟩, argTypes := ⟨ats⟩ }).operands.toList = g :: args := by simp [Op.operands, Call.operands]
   rw [e] at hf hpre hnew ⊢
   refine call_good h hd hop rfl (hf g (by simp)) (by simp) (fun j x p hx hp => ?_) hpre hnew
   simp only [List.getElem?_map, Option.map_eq_some_iff] at hp
   obtain ⟨y, hy, rfl⟩ := hp
   have : args[j]? = some x := by simpa using hx
   rw [this] at hy; cases hy
   exact hf x (by simp [List.mem_of_getElem? this])
  | invoke r m => exact (bad_pre hpre).elim
  | builtin b =>
   have e : (Op.call { callee := .builtin b, args := ⟨args⟩, argTypes := ⟨ats⟩ }).operands.toList = args := by simp [Op.operands, Call.operands]
   rw [e] at hf hpre hnew ⊢
   have hxs : ∀ (j : Nat) (x : Operand) (p : PV), (⟨args⟩ : Array Operand)[j]? = some x → (args.map f)[j]? = some p → RPs S ρ w st (a.eval x) p := by
    intro j x p hx hp
    simp only [List.getElem?_map, Option.map_eq_some_iff] at hp
    obtain ⟨y, hy, rfl⟩ := hp
    have : args[j]? = some x := by simpa using hx
    rw [this] at hy; cases hy
    exact hf x (List.mem_of_getElem? this)
   cases b with
   | len =>
    match args, ats with
    | [x], [t] => exact len_good h hd hop rfl (RP.unl (hf x (by simp))) hpre
    | [x], [] => exact (bad_pre hpre).elim
    | [x], _ :: _ :: _ => exact (bad_pre hpre).elim
    | [], _ => exact (bad_pre hpre).elim
    | _ :: _ :: _, _ => exact (bad_pre hpre).elim
   | append =>
    match args, ats with
    | [s, x], [t, u] =>
     have e0 : opRun S.P oc dst st (.call { callee := .builtin .append, args := ⟨[s, x]⟩, argTypes := ⟨[t, u]⟩ }) ([s, x].map f) = (match Nat.beq t u with | true => appendRun S.P t dst (aget st) (f s) (f x) | false => .bad) := rfl
     rw [e0] at hpre hnew ⊢
     cases htu : Nat.beq t u with
     | false => rw [htu] at hpre; exact (bad_pre hpre).elim
     | true =>
      rw [htu] at hpre hnew
      have := beq_true.1 htu
      subst this
      exact append_good h hd hop rfl rfl (hf s (by simp)) (hf x (by simp)) hpre hnew
    | [s, x], [] => exact (bad_pre hpre).elim
    | [s, x], [_] => exact (bad_pre hpre).elim
    | [s, x], _ :: _ :: _ :: _ => exact (bad_pre hpre).elim
    | [], _ => exact (bad_pre hpre).elim
    | [_], _ => exact (bad_pre hpre).elim
    | _ :: _ :: _ :: _, _ => exact (bad_pre hpre).elim
   | min => exact minmax_good (mx := false) h hd hop (by simp) hxs hpre
   | max => exact minmax_good (mx := true) h hd hop (by simp) hxs hpre
   | _ => exact (bad_pre hpre).elim
 | _ => rw [hop] at hpre; exact (bad_pre hpre).elim
end Go.Proofs.Ytomnmacmlhkceaa
