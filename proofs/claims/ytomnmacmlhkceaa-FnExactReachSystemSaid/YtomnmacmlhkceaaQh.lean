/- The pure layer, part H: the other operations that write nothing. No function of the program is named here. -/
import Derived.Test.YtomnmacmlhkceaaQg
set_option linter.unusedVariables false
set_option linter.unusedSimpArgs false
namespace Go.Proofs.Ytomnmacmlhkceaa
open Go
variable {S : Setting} {ρ : Nat → Nm} {a : Act} {w : World} {σ : Env} {st : Store} {o : Oper}
theorem un_good (h : StR S ρ a w σ st) (hd : ∀ d, o.dst = some d → d < S.n) {oc : Orc} {op : UnOp} {t : TypeId} {x : Operand} (ho : o.op = .unOp op t x) {p : PV}
  {vx : Value} (hvx : a.eval x = vx) (hx : RPs S ρ w st vx p) (hpre : ∀ r ∈ (unRun oc op p).pre, r) : Good S a w σ st o (unRun oc op p) := by
 cases p with
 | d fr xd =>
  cases xd with
  | bool b =>
   have e1 := RPs.bool_inv hx
   subst e1
   cases op <;> first | exact (bad_pre hpre).elim | skip
   exact Good.dd h hd (v := .bool !b) (by simp [execOp, ho, hvx, Op.unary]) (.bool _) rfl
  | int k n =>
   have e1 := RPs.int_inv hx
   subst e1
   cases op <;> first | exact (bad_pre hpre).elim | skip
   exact sumLike_good h hd hpre (by simp [execOp, ho, hvx, Op.unary, Op.intArith])
  | _ => exact (bad_pre hpre).elim
 | _ => exact (bad_pre hpre).elim
theorem convert_good (h : StR S ρ a w σ st) (hd : ∀ d, o.dst = some d → d < S.n) {oc : Orc} {s t : TypeId} {x : Operand} (ho : o.op = .convert s t x) {p : PV}
  {vx : Value} (hvx : a.eval x = vx) (hx : RPs S ρ w st vx p) (hus : ∃ d, S.P.underlying s = some d) (hpre : ∀ r ∈ (convertRun S.P oc t p).pre, r) : Good S a w σ st o (convertRun S.P oc t p) := by
 cases p with
 | d fr xd =>
  cases xd with
  | int k n =>
   have e1 := RPs.int_inv hx
   subst e1
   unfold convertRun at hpre ⊢
   cases hu : S.P.underlying t with
   | none => simp only [hu] at hpre; exact (bad_pre hpre).elim
   | some dd =>
    cases dd with
    | int k' =>
     simp only [hu] at hpre ⊢
     obtain ⟨ds, hs⟩ := hus
     refine sumLike_good h hd hpre ?_
     have e : (convert s t (.int k n)).run S.P w = .ok (.int k' (k'.wrap n)) w := by
      unfold convert
      simp only [Sem.run_bind, run_underlying hs, run_underlying hu, Result.andThen_ok]
      cases ds <;> rfl
     simp [execOp, ho, hvx, e]
    | _ => simp only [hu] at hpre; exact (bad_pre hpre).elim
  | _ => exact (bad_pre hpre).elim
 | _ => exact (bad_pre hpre).elim
theorem move_good (h : StR S ρ a w σ st) (hd : ∀ d, o.dst = some d → d < S.n) {x : Operand} (ho : o.op = .move x ∨ o.op = .assign x) {p : PV}
  (hx : RPs S ρ w st (a.eval x) p) (hg : ∀ j, p.rgm j = true → aget st j = some .reg) : Good S a w σ st o (.ok [] p) := by
 refine Good.val h hd ?_ hx hg
 rcases ho with ho | ho <;> simp [execOp, ho]
theorem RPs.d_inv {O : Nat → Prop} {base : Nat → Prop} {fr : Bool} {v : Value} {x : D} (h : RP w O base ρ v (.d fr x)) : RD w O base fr v x := by
 cases h with | d _ _ _ h => exact h
theorem rgm_d (fr : Bool) (x : D) (j : Nat) (hj : (PV.d fr x).rgm j = true) : aget st j = some .reg := by simp [PV.rgm] at hj
theorem extract_good (h : StR S ρ a w σ st) (hd : ∀ d, o.dst = some d → d < S.n) {i : Nat} {x : Operand} (ho : o.op = .extract x i) {p : PV}
  {vx : Value} (hvx : a.eval x = vx) (hx : RPs S ρ w st vx p) (hg : ∀ j, p.rgm j = true → aget st j = some .reg) (hpre : ∀ r ∈ (extractRun i p).pre, r) : Good S a w σ st o (extractRun i p) := by
 have run : ∀ (vs : List Value) (v : Value), vx = .tuple vs.toArray → vs[i]? = some v → (execOp a.eval o).run S.P w = .ok (.value v) w := by
  intro vs v h1 h2
  subst h1
  simp [execOp, ho, hvx, Instr.extract, h2]
 unfold extractRun at hpre ⊢
 cases p with
 | d fr xd =>
  cases xd with
  | tup cs =>
   obtain ⟨vs, h1, h2, h3⟩ := (RPs.d_inv hx).tup_inv
   cases hc : cs[i]? with
   | none => simp only [hc] at hpre; exact (bad_pre hpre).elim
   | some z =>
    simp only [hc]
    obtain ⟨hlt, _⟩ := List.getElem?_eq_some_iff.1 hc
    have hv : vs[i]? = some vs[i] := List.getElem?_eq_getElem (by omega)
    exact Good.val h hd (run vs _ h1 hv) (.d _ _ _ (h3 i _ z hv hc)) (rgm_d _ _)
  | _ => exact (bad_pre hpre).elim
 | tup ps =>
  cases hx with
  | tup vs _ hl hr =>
  cases hc : ps[i]? with
  | none => simp only [hc] at hpre; exact (bad_pre hpre).elim
  | some z =>
   simp only [hc]
   obtain ⟨hlt, _⟩ := List.getElem?_eq_some_iff.1 hc
   have hv : vs[i]? = some vs[i] := List.getElem?_eq_getElem (by omega)
   exact Good.val h hd (run vs _ rfl hv) (hr i _ z hv hc) (fun j hj => hg j (by simp only [PV.rgm]; exact PV.rgmL_mem hc hj))
 | _ => exact (bad_pre hpre).elim
theorem nilCheck_good (h : StR S ρ a w σ st) (hd : ∀ d, o.dst = some d → d < S.n) {x : Operand} (ho : o.op = .nilCheck x) {p : PV}
  {vx : Value} (hvx : a.eval x = vx) (hx : RPs S ρ w st vx p) (hg : ∀ j, p.rgm j = true → aget st j = some .reg) (hpre : ∀ r ∈ (nilCheckRun p).pre, r) : Good S a w σ st o (nilCheckRun p) := by
 have run : (∃ ad, vx = .pointer (some ad)) ∨ (∃ f fs cs, vx = .func (.func f) fs cs) → (execOp a.eval o).run S.P w = .ok (.value vx) w := by
  rintro (⟨ad, rfl⟩ | ⟨f, fs, cs, rfl⟩) <;> simp [execOp, ho, hvx]
 unfold nilCheckRun at hpre ⊢
 cases p with
 | ptr k c => exact Good.val h hd (run (by cases hx; exact .inl ⟨_, rfl⟩)) hx hg
 | fn f k ps => exact Good.val h hd (run (by cases hx; exact .inr ⟨_, _, _, rfl⟩)) hx hg
 | d fr xd =>
  cases xd with
  | bx cs c =>
   obtain ⟨ad, h1, _⟩ := (RPs.d_inv hx).bx_inv
   exact Good.val h hd (run (.inl ⟨ad, h1⟩)) hx hg
  | adr m i c =>
   obtain ⟨ad, h1, _⟩ := (RPs.d_inv hx).adr_inv
   exact Good.val h hd (run (.inl ⟨ad, h1⟩)) hx hg
  | fn f k cs =>
   have hh := (RPs.d_inv hx).plain
   exact Good.val h hd (run (by cases hh; exact .inr ⟨_, _, _, rfl⟩)) hx hg
  | _ => exact (bad_pre hpre).elim
 | _ => exact (bad_pre hpre).elim
theorem makeFunc_good (h : StR S ρ a w σ st) (hd : ∀ d, o.dst = some d → d < S.n) {f : FuncId} {fst cap : Array Operand} (ho : o.op = .makeFunc (.func f) fst cap) {ps : List PV}
  (hl : ps.length = fst.size + cap.size) (hx : ∀ (j : Nat) (x : Operand) (p : PV), (fst.toList ++ cap.toList)[j]? = some x → ps[j]? = some p → RPs S ρ w st (a.eval x) p)
  (hg : ∀ (j : Nat) (p : PV), ps[j]? = some p → ∀ i, p.rgm i = true → aget st i = some .reg) : Good S a w σ st o (.ok [] (.fn f fst.size ps)) := by
 have hr : (execOp a.eval o).run S.P w = .ok (.value (.func (.func f) (((fst.toList ++ cap.toList).map a.eval).take fst.size).toArray (((fst.toList ++ cap.toList).map a.eval).drop fst.size).toArray)) w := by
  have e1 : (((fst.toList ++ cap.toList).map a.eval).take fst.size).toArray = fst.map a.eval := by apply Array.ext'; simp [List.take_append]
  have e2 : (((fst.toList ++ cap.toList).map a.eval).drop fst.size).toArray = cap.map a.eval := by apply Array.ext'; simp [List.drop_append]
  rw [e1, e2]
  simp only [execOp, ho, Instr.makeFunc, Sem.run_bind, Sem.run_pure, Result.andThen_ok]
 refine Good.val h hd hr (.fn f fst.size _ ps (by simp [hl]) fun j v p hv hp => ?_) (fun j hj => ?_)
 ·simp only [List.getElem?_map, Option.map_eq_some_iff] at hv
  obtain ⟨x, hx1, rfl⟩ := hv
  exact hx j x p hx1 hp
 ·simp only [PV.rgm] at hj
  have : ∀ l : List PV, PV.rgmL j l = true → ∃ q ∈ l, q.rgm j = true := by
   intro l
   induction l with
   | nil => intro hj; simp [PV.rgmL] at hj
   | cons q r ih =>
    intro hj
    simp only [PV.rgmL, Bool.or_eq_true] at hj
    rcases hj with hj | hj
    ·exact ⟨q, by simp, hj⟩
    ·obtain ⟨q', h1, h2⟩ := ih hj; exact ⟨q', by simp [h1], h2⟩
  obtain ⟨q, hq, hqj⟩ := this ps hj
  obtain ⟨i, hi⟩ := List.mem_iff_getElem?.1 hq
  exact hg i q hi j hqj
theorem structField_run {P : Program} {s : TypeId} {f : Nat} {fd : Field} (h : structField P s f = some fd) : ∃ fs, P.underlying s = some (.struct fs) ∧ fs[f]? = some fd := by
 unfold structField at h
 cases hu : P.underlying s with
 | none => simp [hu] at h
 | some d =>
  cases d <;> simp [hu] at h
  exact ⟨_, rfl, h⟩
theorem fieldAddr_good (h : StR S ρ a w σ st) (hd : ∀ d, o.dst = some d → d < S.n) {s : TypeId} {f : Nat} {x : Operand} (ho : o.op = .fieldAddr s x f) {p : PV}
  {vx : Value} (hvx : a.eval x = vx) (hx : RPs S ρ w st vx p) (hpre : ∀ r ∈ (fieldAddrRun S.P s f p).pre, r) : Good S a w σ st o (fieldAddrRun S.P s f p) := by
 unfold fieldAddrRun at hpre ⊢
 cases hf : structField S.P s f with
 | none => simp only [hf] at hpre; exact (bad_pre hpre).elim
 | some fd =>
 simp only [hf] at hpre ⊢
 cases hs : tySize S.P fd.type with
 | none => simp only [hs] at hpre; exact (bad_pre hpre).elim
 | some n =>
 simp only [hs] at hpre ⊢
 obtain ⟨fs, hu, hfs⟩ := structField_run hf
 have run : 0 < n → ∀ ad, vx = .pointer (some ad) → (execOp a.eval o).run S.P w = .ok (.value (.pointer (some (ad.add fd.offset)))) w := by
  intro hn ad h1
  subst h1
  have h0 : ¬ n = 0 := by omega
  simp [execOp, ho, hvx, Instr.fieldAt, run_underlying hu, hfs, Instr.sureAddr, fieldPlace, run_sizeOf hs, h0]
 cases p with
 | ptr k c =>
  dsimp only at hpre ⊢
  obtain ⟨hb, he, hp⟩ := chk_pre hpre
  rw [he]
  have h1 : vx = .pointer (some ⟨(ρ k).1, c, none⟩) := by cases hx; rfl
  refine Good.val h hd (run (by simpa using hb) _ h1) ?_ (fun j hj => by simp [PV.rgm] at hj)
  have e : (⟨(ρ k).1, c, none⟩ : Addr).add fd.offset = ⟨(ρ k).1, c + fd.offset, none⟩ := by unfold Addr.add; split <;> simp_all
  rw [e]
  exact .ptr k (c + fd.offset)
 | d fr xd =>
  cases xd with
  | bx cs c =>
   dsimp only at hpre ⊢
   obtain ⟨hb, he, hp⟩ := chk_pre hpre
   rw [he]
   have hx' := RPs.d_inv hx
   have key : ∃ ad, vx = .pointer (some ad) ∧ RD w (liveO S.O ρ st) S.F fr (.pointer (some (ad.add fd.offset))) (.bx cs (c + fd.offset)) := by
    cases fr with
    | true => cases hx' with | bx _ b _ g hc hr => exact ⟨_, rfl, by rw [add_add]; exact R.bx cs b _ g hc hr⟩
    | false => cases hx' with | bx _ b _ g hc hr => exact ⟨_, rfl, by rw [add_add]; exact R.bx cs b _ g hc hr⟩
   obtain ⟨ad, h1, h2⟩ := key
   exact Good.val h hd (run (by simpa using hb) _ h1) (.d _ _ _ h2) (rgm_d _ _)
  | adr m i c =>
   dsimp only at hpre ⊢
   obtain ⟨hb, he, hp⟩ := chk_pre hpre
   rw [he]
   have hx' := RPs.d_inv hx
   have key : ∃ ad, vx = .pointer (some ad) ∧ RD w (liveO S.O ρ st) S.F fr (.pointer (some (ad.add fd.offset))) (.adr m i (c + fd.offset)) := by
    cases fr with
    | true => cases hx' with | adr _ b _ _ g hc hr => exact ⟨_, rfl, by rw [add_add, Nat.add_assoc]; exact R.adr m b _ _ g hc hr⟩
    | false => cases hx' with | adr _ b _ _ g hc hr => exact ⟨_, rfl, by rw [add_add, Nat.add_assoc]; exact R.adr m b _ _ g hc hr⟩
   obtain ⟨ad, h1, h2⟩ := key
   exact Good.val h hd (run (by simpa using hb) _ h1) (.d _ _ _ h2) (rgm_d _ _)
  | _ => exact (bad_pre hpre).elim
 | _ => exact (bad_pre hpre).elim
theorem mulw_eq (i s : Nat) : mulw i s = i * s := by
 unfold mulw
 cases hb : Nat.beq s 1 with
 | true => rw [beq_true.1 hb]; simp
 | false => rfl
theorem indexAddr_good (h : StR S ρ a w σ st) (hd : ∀ d, o.dst = some d → d < S.n) {t : TypeId} {x i : Operand} (ho : o.op = .indexAddr t x i) {p q : PV}
  {vx vi : Value} (hvx : a.eval x = vx) (hvi : a.eval i = vi) (hx : RPs S ρ w st vx p) (hi : RPs S ρ w st vi q) (hpre : ∀ r ∈ (indexAddrRun S.P t p q).pre, r) :
  Good S a w σ st o (indexAddrRun S.P t p q) := by
 cases q with
 | d fri yd =>
  cases yd with
  | int ki n =>
   have e1 := RPs.int_inv hi
   subst e1
   unfold indexAddrRun at hpre ⊢
   cases hu : S.P.underlying t with
   | none => simp only [hu] at hpre; exact (bad_pre hpre).elim
   | some dd =>
    simp only [hu] at hpre ⊢
    cases dd with
    | slice e =>
     simp only at hpre ⊢
     cases hs : tySize S.P e with
     | none => simp only [hs] at hpre; exact (bad_pre hpre).elim
     | some s =>
     simp only [hs] at hpre ⊢
     have run : ∀ ad len cap, vx = .slice (some ad) len cap → 0 ≤ n → n < len → (execOp a.eval o).run S.P w = .ok (.value (.pointer (some (ad.add (n.toNat * s))))) w := by
      intro ad len cap h1 h2 h3
      subst h1
      simp [execOp, ho, hvx, hvi, Instr.indexAt, asIntOf, run_underlying hu, h2, h3, run_sizeOf hs]
     cases p with
     | d fr xd =>
      cases xd with
      | sl m =>
       dsimp only at hpre ⊢
       obtain ⟨hb, he, hp⟩ := chk_pre hpre
       rw [he]
       have h0 : 0 ≤ n := hp _ (by simp [Out.ok])
       have hn : n < m.len := hp _ (by simp [Out.ok])
       have hs' : s = m.width := beq_true.1 hb
       have hx' := RPs.d_inv hx
       have key : ∃ ad len cap, vx = .slice (some ad) len cap ∧ len = m.len ∧ RD w (liveO S.O ρ st) S.F fr (.pointer (some (ad.add (n.toNat * m.width + 0)))) (.adr m n.toNat 0) := by
        cases fr with
        | true =>
         cases hx' with
         | slnil _ h => omega
         | sl _ b len cap hl hcp g hc hr => exact ⟨b, len, cap, rfl, hl, R.adr m b _ _ g hc hr⟩
        | false =>
         cases hx' with
         | slnil _ h => omega
         | sl _ b len cap hl hcp g hc hr => exact ⟨b, len, cap, rfl, hl, R.adr m b _ _ g hc hr⟩
       obtain ⟨ad, len, cap, h1, h2, h3⟩ := key
       exact Good.val h hd (by rw [run ad len cap h1 h0 (by omega), hs', Nat.add_zero]) (.d _ _ _ h3) (rgm_d _ _)
      | _ => exact (bad_pre hpre).elim
     | own k len =>
      dsimp only at hpre ⊢
      have h0 : 0 ≤ n := hpre _ (by simp [Out.ok])
      have hn : n < len := hpre _ (by simp [Out.ok])
      have h1 : vx = .slice (some ⟨(ρ k).1, 0, none⟩) len (ρ k).2 := by
       cases hx with
       | own => rfl
       | ownN => omega
      refine Good.val h hd (run _ _ _ h1 h0 hn) ?_ (fun j hj => by simp [PV.rgm] at hj)
      rw [add_lit0]
      exact .eadr k s n.toNat 0
     | rw k i len =>
      dsimp only at hpre ⊢
      obtain ⟨hb, he, hp⟩ := chk_pre hpre
      rw [he]
      have h0 : 0 ≤ n := hp _ (by simp [Out.ok])
      have hn : n < len := hp _ (by simp [Out.ok])
      have hs1 : s = 1 := beq_true.1 hb
      have h1 : vx = .slice (some ⟨((ρ k).rows i).1, 0, none⟩) len ((ρ k).rows i).2 := by
       cases hx with
       | rw => rfl
       | rwN => omega
      refine Good.val h hd (run _ _ _ h1 h0 hn) ?_ (fun j hj => by simp [PV.rgm] at hj)
      rw [add_lit0, hs1, Nat.mul_one]
      exact .radr k i n.toNat
     | _ => exact (bad_pre hpre).elim
    | array len e =>
     simp only at hpre ⊢
     cases hs : tySize S.P e with
     | none => simp only [hs] at hpre; exact (bad_pre hpre).elim
     | some s =>
     simp only [hs] at hpre ⊢
     have run : ∀ ad, vx = .pointer (some ad) → 0 ≤ n → n < len → (execOp a.eval o).run S.P w = .ok (.value (.pointer (some (ad.add (mulw n.toNat s))))) w := by
      intro ad h1 h2 h3
      subst h1
      simp [execOp, ho, hvx, hvi, Instr.indexAt, asIntOf, run_underlying hu, h2, h3, run_sizeOf hs, Instr.sureAddr, mulw_eq]
     cases p with
     | ptr k c =>
      dsimp only at hpre ⊢
      have h0 : 0 ≤ n := hpre _ (by simp [Out.ok])
      have hn : n < len := hpre _ (by simp [Out.ok])
      have h1 : vx = .pointer (some ⟨(ρ k).1, c, none⟩) := by cases hx; rfl
      refine Good.val h hd (run _ h1 h0 hn) ?_ (fun j hj => by simp [PV.rgm] at hj)
      have e : (⟨(ρ k).1, c, none⟩ : Addr).add (mulw n.toNat s) = ⟨(ρ k).1, c + mulw n.toNat s, none⟩ := by unfold Addr.add; split <;> simp_all
      rw [e]
      exact .ptr k _
     | eadr k wd j c =>
      dsimp only at hpre ⊢
      have h0 : 0 ≤ n := hpre _ (by simp [Out.ok])
      have hn : n < len := hpre _ (by simp [Out.ok])
      have h1 : vx = .pointer (some ⟨(ρ k).1, j * wd + c, none⟩) := by cases hx; rfl
      refine Good.val h hd (run _ h1 h0 hn) ?_ (fun j hj => by simp [PV.rgm] at hj)
      have e : (⟨(ρ k).1, j * wd + c, none⟩ : Addr).add (mulw n.toNat s) = ⟨(ρ k).1, j * wd + (c + mulw n.toNat s), none⟩ := by
       unfold Addr.add; split <;> simp_all
       omega
      rw [e]
      exact .eadr k wd j _
     | d fr xd =>
      cases xd with
      | bx cs c =>
       dsimp only at hpre ⊢
       have h0 : 0 ≤ n := hpre _ (by simp [Out.ok])
       have hn : n < len := hpre _ (by simp [Out.ok])
       have hx' := RPs.d_inv hx
       have key : ∃ ad, vx = .pointer (some ad) ∧ RD w (liveO S.O ρ st) S.F fr (.pointer (some (ad.add (mulw n.toNat s)))) (.bx cs (c + mulw n.toNat s)) := by
        cases fr with
        | true => cases hx' with | bx _ b _ g hc hr => exact ⟨_, rfl, by rw [add_add]; exact R.bx cs b _ g hc hr⟩
        | false => cases hx' with | bx _ b _ g hc hr => exact ⟨_, rfl, by rw [add_add]; exact R.bx cs b _ g hc hr⟩
       obtain ⟨ad, h1, h2⟩ := key
       exact Good.val h hd (run _ h1 h0 hn) (.d _ _ _ h2) (rgm_d _ _)
      | adr m j c =>
       dsimp only at hpre ⊢
       have h0 : 0 ≤ n := hpre _ (by simp [Out.ok])
       have hn : n < len := hpre _ (by simp [Out.ok])
       have hx' := RPs.d_inv hx
       have key : ∃ ad, vx = .pointer (some ad) ∧ RD w (liveO S.O ρ st) S.F fr (.pointer (some (ad.add (mulw n.toNat s)))) (.adr m j (c + mulw n.toNat s)) := by
        cases fr with
        | true => cases hx' with | adr _ b _ _ g hc hr => exact ⟨_, rfl, by rw [add_add, Nat.add_assoc]; exact R.adr m b _ _ g hc hr⟩
        | false => cases hx' with | adr _ b _ _ g hc hr => exact ⟨_, rfl, by rw [add_add, Nat.add_assoc]; exact R.adr m b _ _ g hc hr⟩
       obtain ⟨ad, h1, h2⟩ := key
       exact Good.val h hd (run _ h1 h0 hn) (.d _ _ _ h2) (rgm_d _ _)
      | _ => exact (bad_pre hpre).elim
     | _ => exact (bad_pre hpre).elim
    | _ => exact (bad_pre hpre).elim
  | _ => unfold indexAddrRun at hpre; split at hpre <;> first | exact (bad_pre hpre).elim | (rename_i h1 _; cases h1) | (rename_i h1; cases h1)
 | _ => unfold indexAddrRun at hpre; split at hpre <;> first | exact (bad_pre hpre).elim | (rename_i h1 _; cases h1) | (rename_i h1; cases h1)
theorem len_good (h : StR S ρ a w σ st) (hd : ∀ d, o.dst = some d → d < S.n) {t : TypeId} {x : Operand}
  (ho : o.op = .call { callee := .builtin .len, args := #[x], argTypes := #[t] }) {p : PV} {vx : Value} (hvx : a.eval x = vx) (hx : RPs S ρ w st vx p)
  (hpre : ∀ r ∈ (lenRun S.P t (aget st) p).pre, r) : Good S a w σ st o (lenRun S.P t (aget st) p) := by
 unfold lenRun at hpre ⊢
 cases ht : tyElem S.P t with
 | none => simp only [ht] at hpre; exact (bad_pre hpre).elim
 | some e =>
 simp only [ht] at hpre ⊢
 have hu : S.P.underlying t = some (.slice e) := by
  unfold tyElem at ht
  cases hu : S.P.underlying t with
  | none => simp [hu] at ht
  | some d => cases d <;> simp [hu] at ht; exact ht ▸ rfl
 have run : ∀ ad n c, vx = .slice ad n c → (execOp a.eval o).run S.P w = .ok (.value (.int .i64 n)) w := by
  intro ad n c h1
  subst h1
  simp [execOp, ho, resolve, invoke, builtin, hvx, Builtin.len_, run_underlying hu, goInt]
 cases p with
 | d fr xd =>
  cases xd with
  | sl m =>
   have hx' := (RPs.d_inv hx).plain
   have : ∃ ad c, vx = .slice ad m.len c := by
    cases hx' with
    | slnil _ h => exact ⟨none, 0, by rw [h]⟩
    | sl _ b len cap hl hcp g hc hr => exact ⟨_, _, by rw [hl]⟩
   obtain ⟨ad, c, h1⟩ := this
   exact Good.dd h hd (run _ _ _ h1) (.int _ _) rfl
  | nil =>
   have hx' := (RPs.d_inv hx).nil_inv
   exact Good.dd h hd (run _ _ _ hx') (.int _ _) rfl
  | _ => exact (bad_pre hpre).elim
 | own k n =>
  dsimp only at hpre ⊢
  cases hk : aget st k with
  | none => simp only [hk] at hpre; exact (bad_pre hpre).elim
  | some e =>
   cases e with
   | arr _ _ _ =>
    simp only [hk]
    cases hx with
    | own => exact Good.dd h hd (run _ _ _ rfl) (.int _ _) rfl
    | ownN => exact Good.dd h hd (run _ _ _ rfl) (.int _ _) rfl
   | mat _ _ _ _ =>
    simp only [hk]
    cases hx with
    | own => exact Good.dd h hd (run _ _ _ rfl) (.int _ _) rfl
    | ownN => exact Good.dd h hd (run _ _ _ rfl) (.int _ _) rfl
   | _ => simp only [hk] at hpre; exact (bad_pre hpre).elim
 | rw k i n =>
  cases hx with
  | rw => exact Good.dd h hd (run _ _ _ rfl) (.int _ _) rfl
  | rwN => exact Good.dd h hd (run _ _ _ rfl) (.int _ _) rfl
 | _ => exact (bad_pre hpre).elim
theorem part_run1 {P : Program} {t : TypeId} {cs : Array Value} {off : Nat} {v : Value} (hg : tyAgg P t = some false) (hv : cs[off]? = some v) (w : World) : (part t cs off).run P w = .ok v w := by
 unfold part
 simp only [Sem.run_bind, run_isAgg hg, Result.andThen_ok, hv]
 rfl
theorem part_runN {P : Program} {t : TypeId} {cs : Array Value} {off n : Nat} (hg : tyAgg P t = some true) (hs : tySize P t = some n) (w : World) :
  (part t cs off).run P w = .ok (.agg (cs.extract off (off + n))) w := by
 unfold part
 simp only [Sem.run_bind, run_isAgg hg, Result.andThen_ok, run_sizeOf hs, if_true, Sem.run_pure]
theorem extract_list (vs : List Value) (c n : Nat) : vs.toArray.extract c (c + n) = ((vs.drop c).take n).toArray := by
 apply Array.ext'
 simp [List.extract_eq_take_drop]
theorem field_good (h : StR S ρ a w σ st) (hd : ∀ d, o.dst = some d → d < S.n) {s : TypeId} {f : Nat} {x : Operand} (ho : o.op = .field s x f) {p : PV}
  {vx : Value} (hvx : a.eval x = vx) (hx : RPs S ρ w st vx p) (hg : ∀ j, p.rgm j = true → aget st j = some .reg) (hpre : ∀ r ∈ (fieldRun S.P s f p).pre, r) : Good S a w σ st o (fieldRun S.P s f p) := by
 unfold fieldRun at hpre ⊢
 cases hf : structField S.P s f with
 | none => simp only [hf] at hpre; exact (bad_pre hpre).elim
 | some fd =>
 simp only [hf] at hpre ⊢
 obtain ⟨fs, hu, hfs⟩ := structField_run hf
 have run : ∀ (vs : List Value) (v : Value), vx = .agg vs.toArray → (part fd.type vs.toArray fd.offset).run S.P w = .ok v w → (execOp a.eval o).run S.P w = .ok (.value v) w := by
  intro vs v h1 h2
  subst h1
  simp [execOp, ho, hvx, Instr.field, run_underlying hu, hfs, asAgg, h2]
 have sub : ∀ (ps : List PV), (∀ j, (PV.agg ps).rgm j = true → aget st j = some .reg) → ∀ l : List PV, (∀ q ∈ l, q ∈ ps) → ∀ j, PV.rgmL j l = true → aget st j = some .reg := by
  intro ps hps l hl j hj
  have : ∀ l : List PV, PV.rgmL j l = true → ∃ q ∈ l, q.rgm j = true := by
   intro l
   induction l with
   | nil => intro hj; simp [PV.rgmL] at hj
   | cons q r ih =>
    intro hj
    simp only [PV.rgmL, Bool.or_eq_true] at hj
    rcases hj with hj | hj
    ·exact ⟨q, by simp, hj⟩
    ·obtain ⟨q', h1, h2⟩ := ih hj; exact ⟨q', by simp [h1], h2⟩
  obtain ⟨q, hq, hqj⟩ := this l hj
  obtain ⟨i, hi⟩ := List.mem_iff_getElem?.1 (hl q hq)
  exact hps j (by simp only [PV.rgm]; exact PV.rgmL_mem hi hqj)
 cases p with
 | agg ps =>
  cases hx with
  | agg vs _ hl hr =>
  cases hga : tyAgg S.P fd.type with
  | none => simp only [hga] at hpre; exact (bad_pre hpre).elim
  | some g =>
  cases g with
  | false =>
   simp only [hga] at hpre ⊢
   cases hc : ps[fd.offset]? with
   | none => simp only [hc] at hpre; exact (bad_pre hpre).elim
   | some z =>
    simp only [hc]
    obtain ⟨hlt, _⟩ := List.getElem?_eq_some_iff.1 hc
    have hv : vs[fd.offset]? = some vs[fd.offset] := List.getElem?_eq_getElem (by omega)
    exact Good.val h hd (run vs _ rfl (part_run1 hga (by simp) w)) (hr _ _ z hv hc) (fun j hj => hg j (by simp only [PV.rgm]; exact PV.rgmL_mem hc hj))
  | true =>
   simp only [hga] at hpre ⊢
   cases hs : tySize S.P fd.type with
   | none => simp only [hs] at hpre; exact (bad_pre hpre).elim
   | some n =>
    simp only [hs] at hpre ⊢
    obtain ⟨hb, he, hp⟩ := chk_pre hpre
    rw [he]
    have hle : fd.offset + n ≤ ps.length := by simpa using hb
    refine Good.val h hd (run vs _ rfl (part_runN hga hs w)) ?_ (fun j hj => sub ps hg _ (fun q hq => List.mem_of_mem_drop (List.mem_of_mem_take hq)) j hj)
    rw [extract_list]
    exact .agg _ _ (by rw [list_slice (by omega), list_slice hle]) fun j v q hv hq => hr _ _ _ (list_slice_get hv) (list_slice_get hq)
 | d fr xd =>
  cases xd with
  | agg cs =>
   obtain ⟨vs, h1, hl, hr⟩ := (RPs.d_inv hx).agg_inv
   cases hga : tyAgg S.P fd.type with
   | none => simp only [hga] at hpre; exact (bad_pre hpre).elim
   | some g =>
   cases g with
   | false =>
    simp only [hga] at hpre ⊢
    cases hc : cs[fd.offset]? with
    | none => simp only [hc] at hpre; exact (bad_pre hpre).elim
    | some z =>
     simp only [hc]
     obtain ⟨hlt, _⟩ := List.getElem?_eq_some_iff.1 hc
     have hv : vs[fd.offset]? = some vs[fd.offset] := List.getElem?_eq_getElem (by omega)
     exact Good.val h hd (run vs _ h1 (part_run1 hga (by simp) w)) (.d _ _ _ (hr _ _ z hv hc)) (rgm_d _ _)
   | true =>
    simp only [hga] at hpre ⊢
    cases hs : tySize S.P fd.type with
    | none => simp only [hs] at hpre; exact (bad_pre hpre).elim
    | some n =>
     simp only [hs] at hpre ⊢
     obtain ⟨hb, he, hp⟩ := chk_pre hpre
     rw [he]
     have hle : fd.offset + n ≤ cs.length := by simpa using hb
     refine Good.val h hd (run vs _ h1 (part_runN hga hs w)) (.d _ _ _ ?_) (rgm_d _ _)
     rw [extract_list]
     exact RD.agg_mk (by rw [list_slice (by omega), list_slice hle]) fun j v q hv hq => hr _ _ _ (list_slice_get hv) (list_slice_get hq)
  | _ => exact (bad_pre hpre).elim
 | _ => exact (bad_pre hpre).elim
theorem cut_ints {α : Type} (xs : List α) (l h i : Nat) (dflt : α) (hi : i < ((xs.take h).drop l).length) : ((xs.take h).drop l).getD i dflt = xs.getD (l + i) dflt := by
 have hi' : l + i < h := by simp at hi; omega
 simp [List.getD, List.getElem?_drop, List.getElem?_take, hi']
theorem Mem.cut_spec (m : Mem) (l h : Nat) (hl : l ≤ h) (hh : h ≤ m.len) : (m.cut l h).len = h - l ∧ (m.cut l h).width = m.width ∧ ∀ i c, i < h - l → (m.cut l h).get i c = m.get (l + i) c := by
 cases m with
 | ints xs => simp only [Mem.len] at hh; refine ⟨by simp [Mem.cut, Mem.len]; omega, rfl, fun i c hi => ?_⟩; simp only [Mem.cut, Mem.get]; rw [cut_ints _ _ _ _ _ (by simp; omega)]
 | bytes xs => simp only [Mem.len] at hh; refine ⟨by simp [Mem.cut, Mem.len]; omega, rfl, fun i c hi => ?_⟩; simp only [Mem.cut, Mem.get]; rw [cut_ints _ _ _ _ _ (by simp; omega)]
 | rows xs => simp only [Mem.len] at hh; refine ⟨by simp [Mem.cut, Mem.len]; omega, rfl, fun i c hi => ?_⟩; simp only [Mem.cut, Mem.get]; rw [cut_ints _ _ _ _ _ (by simp; omega)]
 | pairs xs => simp only [Mem.len] at hh; refine ⟨by simp [Mem.cut, Mem.len]; omega, rfl, fun i c hi => ?_⟩; cases c <;> (simp only [Mem.cut, Mem.get]; rw [cut_ints _ _ _ _ _ (by simp; omega)])
theorem R.cut {g : Addr → Option Value} {O : Nat → Prop} {ad : Option Addr} {n cap : Nat} {m : Mem} {l h : Nat} (hx : R g O (.slice ad n cap) (.sl m)) (hl : l ≤ h) (hh : h ≤ n)
  : n = m.len ∧ R g O (.slice (if cap - l = 0 then ad else ad.map (·.add (l * m.width))) (h - l) (cap - l)) (.sl (m.cut l h)) := by
 have hnm : n = m.len := by cases hx <;> simp_all
 refine ⟨hnm, ?_⟩
 obtain ⟨h1, h2, h3⟩ := m.cut_spec l h hl (by omega)
 cases hx with
 | slnil _ h0 =>
  have : h - l = 0 := by omega
  rw [this]
  simp
  exact .slnil _ (by omega)
 | sl _ b _ _ hn hcp f hc hr =>
  by_cases hcap : cap - l = 0
  ·rw [if_pos hcap]
   exact .sl _ b _ _ h1.symm (by omega) (fun _ _ => .bool true) (fun i c hi _ => by omega) (fun i c hi _ => by omega)
  ·rw [if_neg hcap]
   refine .sl _ (b.add (l * m.width)) _ _ h1.symm (by omega) (fun i c => f (l + i) c) (fun i c hi hcw => ?_) (fun i c hi hcw => ?_)
   ·rw [h2] at hcw ⊢
    rw [add_add, block_add, ← Nat.add_assoc, ← Nat.add_mul]
    exact hc (l + i) c (by omega) hcw
   ·rw [h2] at hcw
    rw [h3 i c (by omega)]
    exact hr (l + i) c (by omega) hcw
theorem R.cap {g : Addr → Option Value} {O : Nat → Prop} {ad : Option Addr} {n cap : Nat} {m : Mem} (hx : R g O (.slice ad n cap) (.sl m)) : n ≤ cap := by
 cases hx <;> omega
theorem RD.cut {O : Nat → Prop} {base : Nat → Prop} {fr : Bool} {ad : Option Addr} {n cap : Nat} {m : Mem} {l h : Nat} (hx : RD w O base fr (.slice ad n cap) (.sl m)) (hl : l ≤ h) (hh : h ≤ n) :
  n = m.len ∧ n ≤ cap ∧ RD w O base fr (.slice (if cap = l then ad else ad.map (·.add (l * m.width))) (h - l) (cap - l)) (.sl (m.cut l h)) := by
 have key : (if cap - l = 0 then ad else ad.map (·.add (l * m.width))) = (if cap = l then ad else ad.map (·.add (l * m.width))) ∨ ¬ n ≤ cap := by
  by_cases h1 : n ≤ cap
  ·left
   by_cases h2 : cap = l
   ·simp [h2]
   ·rw [if_neg h2, if_neg (by omega)]
  ·exact .inr h1
 cases fr with
 | true =>
  obtain ⟨h1, h2⟩ := R.cut hx hl hh
  rcases key with key | key
  ·rw [key] at h2; exact ⟨h1, R.cap hx, h2⟩
  ·exact absurd (R.cap hx) key
 | false =>
  obtain ⟨h1, h2⟩ := R.cut hx hl hh
  rcases key with key | key
  ·rw [key] at h2; exact ⟨h1, R.cap hx, h2⟩
  ·exact absurd (R.cap hx) key
theorem RD.sl_form {O : Nat → Prop} {base : Nat → Prop} {fr : Bool} {v : Value} {m : Mem} (hx : RD w O base fr v (.sl m)) : ∃ ad cap, v = .slice ad m.len cap := by
 have h := hx.plain
 cases h with
 | slnil _ h => exact ⟨none, 0, by rw [h]⟩
 | sl _ b len cap hl hcp g hc hr => exact ⟨_, _, by rw [hl]⟩
theorem sizeIs_size {P : Program} {e : TypeId} {n : Nat} (h : sizeIs P e n = true) : tySize P e = some n := by
 unfold sizeIs at h
 cases hs : tySize P e with
 | none => simp [hs] at h
 | some k => simp only [hs] at h; rw [beq_true.1 h]
theorem slice_good (h : StR S ρ a w σ st) (hd : ∀ d, o.dst = some d → d < S.n) {t : TypeId} {x : Operand} {lo hi : Option Operand} (ho : o.op = .slice t x lo hi none) {p : PV} {ql qh : Option PV}
  {vx : Value} (hvx : a.eval x = vx) (hx : RPs S ρ w st vx p) (hlo : ∀ y, lo = some y → ∃ q, ql = some q ∧ RPs S ρ w st (a.eval y) q) (hlo0 : lo = none → ql = none)
  (hhi : ∀ y, hi = some y → ∃ q, qh = some q ∧ RPs S ρ w st (a.eval y) q) (hhi0 : hi = none → qh = none) (hpre : ∀ r ∈ (sliceRun S.P t p ql qh).pre, r) :
  Good S a w σ st o (sliceRun S.P t p ql qh) := by
 unfold sliceRun at hpre ⊢
 cases hu : S.P.underlying t with
 | none => simp only [hu] at hpre; exact (bad_pre hpre).elim
 | some dd =>
 cases dd with
 | slice e =>
  simp only [hu] at hpre ⊢
  cases p with
  | d fr xd =>
   cases xd with
   | sl m =>
    have hx' := RPs.d_inv hx
    obtain ⟨ad, cap, h1⟩ := hx'.sl_form
    subst h1
    -- the two bounds as numbers
    have main : ∀ (l hh : Int) (lv hv : Option Value), lo.map a.eval = lv → hi.map a.eval = hv → (lv = none → l = 0) → (hv = none → hh = m.len) →
      (∀ u, lv = some u → ∃ k, u = .int k l) → (∀ u, hv = some u → ∃ k, u = .int k hh) → 0 ≤ l → l ≤ hh → hh ≤ m.len → tySize S.P e = some m.width →
      ∃ v, (execOp a.eval o).run S.P w = .ok (.value v) w ∧ RD w (liveO S.O ρ st) S.F fr v (.sl (m.cut l.toNat hh.toNat)) := by
     intro l hh lv hv e1 e2 n1 n2 s1 s2 g1 g2 g3 hsz
     obtain ⟨_, hnc, hr⟩ := hx'.cut (l := l.toNat) (h := hh.toNat) (by omega) (by omega)
     refine ⟨_, ?_, hr⟩
     have hb : (Instr.sliceBounds true m.len cap lv hv none).run S.P w = .ok (l.toNat, hh.toNat, cap) w := by
      cases lv with
      | none =>
       have hl0 : l.toNat = 0 := by rw [n1 rfl]; rfl
       cases hv with
       | none =>
        have hh0 : hh.toNat = m.len := by rw [n2 rfl]; simp
        simp [Instr.sliceBounds, hl0, hh0]
       | some u =>
        obtain ⟨k, rfl⟩ := s2 u rfl
        simp [Instr.sliceBounds, Instr.sliceBound, asIntOf, show 0 ≤ hh by omega, show hh ≤ (cap : Int) by omega, hl0]
      | some u =>
       obtain ⟨k, rfl⟩ := s1 u rfl
       cases hv with
       | none =>
        have hh0 : hh.toNat = m.len := by rw [n2 rfl]; simp
        simp [Instr.sliceBounds, Instr.sliceBound, asIntOf, g1, show l ≤ (m.len : Int) by omega, hh0]
       | some u' =>
        obtain ⟨k', rfl⟩ := s2 u' rfl
        have e3 : max hh 0 = hh := by omega
        simp [Instr.sliceBounds, Instr.sliceBound, asIntOf, g1, show 0 ≤ hh by omega, show hh ≤ (cap : Int) by omega, e3, g2]
     simp only [execOp, ho, hvx, e1, e2, Option.map_none, Instr.sliceAt, Instr.slice, Sem.run_bind, run_underlying hu, Result.andThen_ok, hb, run_sizeOf hsz, Sem.run_pure]
    have fin : ∀ {out : Out}, (∃ l hh : Int, (∃ v, (execOp a.eval o).run S.P w = .ok (.value v) w ∧ RD w (liveO S.O ρ st) S.F fr v (.sl (m.cut l.toNat hh.toNat))) ∧ ∃ pre, out = .ok pre (.d fr (.sl (m.cut l.toNat hh.toNat)))) → Good S a w σ st o out := by
     rintro out ⟨l, hh, ⟨v, hr, hv⟩, pre, rfl⟩
     exact Good.val h hd hr (.d _ _ _ hv) (rgm_d _ _)
    cases lo with
    | none =>
     rw [hlo0 rfl] at hpre ⊢
     cases hi with
     | none => rw [hhi0 rfl] at hpre; exact (bad_pre hpre).elim
     | some yh =>
      obtain ⟨q, hq, hqr⟩ := hhi yh rfl
      subst hq
      cases q with
      | d fq xq =>
       cases xq with
       | int k hh =>
        dsimp only at hpre ⊢
        obtain ⟨hb, he, hp⟩ := chk_pre hpre
        rw [he]
        have g1 : 0 ≤ hh := hp _ (by simp [Out.ok])
        have g2 : hh ≤ m.len := hp _ (by simp [Out.ok])
        exact fin ⟨0, hh, main 0 hh none (some (.int k hh)) rfl (by simp [RPs.int_inv hqr]) (fun _ => rfl) (by simp) (by simp) (fun u hu => ⟨k, by simpa using hu.symm⟩) (by omega) g1 g2 (sizeIs_size hb), _, rfl⟩
       | _ => exact (bad_pre hpre).elim
      | _ => exact (bad_pre hpre).elim
    | some yl =>
     obtain ⟨q, hq, hqr⟩ := hlo yl rfl
     subst hq
     cases q with
     | d fq xq =>
      cases xq with
      | int k l =>
       cases hi with
       | none =>
        rw [hhi0 rfl] at hpre ⊢
        dsimp only at hpre ⊢
        obtain ⟨hb, he, hp⟩ := chk_pre hpre
        rw [he]
        have g1 : 0 ≤ l := hp _ (by simp [Out.ok])
        have g2 : l ≤ m.len := hp _ (by simp [Out.ok])
        exact fin ⟨l, m.len, main l m.len (some (.int k l)) none (by simp [RPs.int_inv hqr]) rfl (by simp) (fun _ => rfl) (fun u hu => ⟨k, by simpa using hu.symm⟩) (by simp) g1 g2 (Int.le_refl _) (sizeIs_size hb), _, rfl⟩
       | some yh =>
        obtain ⟨q', hq', hqr'⟩ := hhi yh rfl
        subst hq'
        cases q' with
        | d fq' xq' =>
         cases xq' with
         | int k' hh =>
          dsimp only at hpre ⊢
          obtain ⟨hb, he, hp⟩ := chk_pre hpre
          rw [he]
          have g1 : 0 ≤ l := hp _ (by simp [Out.ok])
          have g2 : l ≤ hh := hp _ (by simp [Out.ok])
          have g3 : hh ≤ m.len := hp _ (by simp [Out.ok])
          exact fin ⟨l, hh, main l hh (some (.int k l)) (some (.int k' hh)) (by simp [RPs.int_inv hqr]) (by simp [RPs.int_inv hqr']) (by simp) (by simp) (fun u hu => ⟨k, by simpa using hu.symm⟩) (fun u hu => ⟨k', by simpa using hu.symm⟩) g1 g2 g3 (sizeIs_size hb), _, rfl⟩
         | _ => exact (bad_pre hpre).elim
        | _ => exact (bad_pre hpre).elim
      | _ => exact (bad_pre hpre).elim
     | _ => exact (bad_pre hpre).elim
   | _ => exact (bad_pre hpre).elim
  | _ => exact (bad_pre hpre).elim
 | _ => simp only [hu] at hpre; exact (bad_pre hpre).elim
theorem allI_inv : ∀ {ps : List PV} {l : List Int}, allI ps = some l → ps.length = l.length ∧ ∀ (j : Nat) (p : PV), ps[j]? = some p → ∃ fr n, p = .d fr (.int .i64 n) ∧ l[j]? = some n
 | [], l, h => by simp [allI] at h; subst h; simp
 | p :: r, l, h => by
  cases p with
  | d fr x =>
   cases x with
   | int k n =>
    cases k <;> first | (simp [allI] at h; done) | skip
    simp only [allI] at h
    cases hr : allI r with
    | none => simp [hr] at h
    | some l' =>
     simp [hr] at h
     subst h
     obtain ⟨h1, h2⟩ := allI_inv hr
     refine ⟨by simp [h1], fun j p hp => ?_⟩
     cases j with
     | zero => simp at hp; subst hp; exact ⟨fr, n, rfl, rfl⟩
     | succ j => simp at hp; simpa using h2 j p hp
   | _ => simp [allI] at h
  | _ => simp [allI] at h
theorem foldlM_minmax {P : Program} (mx : Bool) : ∀ (l : List Int) (x : Int) (w : World),
  ((l.map (Value.int .i64)).foldlM (bif mx then Builtin.max2 else Builtin.min2) (Value.int .i64 x)).run P w = .ok (.int .i64 (l.foldl (fun a b => bif mx then max a b else min a b) x)) w
 | [], x, w => by simp
 | y :: r, x, w => by
  have ih := foldlM_minmax (P := P) mx r
  cases mx with
  | true =>
   simp only [cond_true] at ih ⊢
   have e : (if y > x then y else x) = max x y := by simp only [Int.max_def]; split <;> split <;> omega
   simp only [List.map_cons, List.foldlM_cons, List.foldl_cons, Builtin.max2, Sem.run_bind, Sem.run_pure, Result.andThen_ok, e, ih]
  | false =>
   simp only [cond_false] at ih ⊢
   have e : (if y < x then y else x) = min x y := by simp only [Int.min_def]; split <;> split <;> omega
   simp only [List.map_cons, List.foldlM_cons, List.foldl_cons, Builtin.min2, Sem.run_bind, Sem.run_pure, Result.andThen_ok, e, ih]
theorem minmax_good (h : StR S ρ a w σ st) (hd : ∀ d, o.dst = some d → d < S.n) {mx : Bool} {args : Array Operand} {ats : Array TypeId}
  (ho : o.op = .call { callee := .builtin (bif mx then .max else .min), args := args, argTypes := ats }) {ps : List PV} (hl : ps.length = args.size)
  (hx : ∀ (j : Nat) (x : Operand) (p : PV), args[j]? = some x → ps[j]? = some p → RPs S ρ w st (a.eval x) p) (hpre : ∀ r ∈ (minmaxRun mx ps).pre, r) :
  Good S a w σ st o (minmaxRun mx ps) := by
 unfold minmaxRun at hpre ⊢
 cases hi : allI ps with
 | none => simp only [hi] at hpre; exact (bad_pre hpre).elim
 | some l =>
  cases l with
  | nil => simp only [hi] at hpre; exact (bad_pre hpre).elim
  | cons x r =>
   simp only [hi]
   obtain ⟨h1, h2⟩ := allI_inv hi
   have hargs : args.map a.eval = ((x :: r).map (Value.int .i64)).toArray := by
    apply Array.ext'
    apply List.ext_getElem?
    intro j
    simp only [Array.toList_map, List.getElem?_map]
    by_cases hj : j < args.size
    ·have e1 : args.toList[j]? = some args[j] := by simp [hj]
     have e2 : ps[j]? = some ps[j] := List.getElem?_eq_getElem (by omega)
     obtain ⟨fr, n, hp, hn⟩ := h2 j _ e2
     have := hx j args[j] ps[j] (by simp [hj]) e2
     rw [hp] at this
     rw [e1, hn]
     simp [RPs.int_inv this]
    ·have e1 : args.toList[j]? = none := by simp; omega
     have e2 : (x :: r)[j]? = none := by rw [List.getElem?_eq_none_iff, ← h1]; omega
     rw [e1, e2]; rfl
   refine Good.dd h hd (v := .int .i64 (r.foldl (fun a b => bif mx then max a b else min a b) x)) ?_ (.int _ _) rfl
   have fm := foldlM_minmax (P := S.P) mx r x w
   cases mx with
   | true =>
    simp only [cond_true] at fm ho
    simp only [execOp, ho, resolve, invoke, builtin, hargs, Sem.run_bind, Sem.run_pure, Result.andThen_ok, Builtin.max_, List.map_cons, fm]
    rfl
   | false =>
    simp only [cond_false] at fm ho
    simp only [execOp, ho, resolve, invoke, builtin, hargs, Sem.run_bind, Sem.run_pure, Result.andThen_ok, Builtin.min_, List.map_cons, fm]
    rfl
end Go.Proofs.Ytomnmacmlhkceaa
