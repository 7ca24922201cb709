/- The pure layer, part G: numbers, addresses, parts of values. No function of the program is named here. -/
import Derived.Test.YtmmoejdglnnmcaaPf
import Derived.Laws.Cover3
set_option linter.unusedVariables false
set_option linter.unusedSimpArgs false
namespace Go.Proofs.Ytmmoejdglnnmcaa
open Go

variable {S : Setting} {ρ : Nat → Nat × Nat} {a : Act} {w : World} {σ : Env} {st : Store} {o : Oper}

theorem wrap_in {k : IntKind} {n : Int} (h : inK k n) : k.wrap n = n := by
  cases k <;> simp only [inK] at h <;> first | exact h.elim | skip
  · exact IntWalk.i64_in n ⟨by omega, by omega⟩
  · show n % (2 ^ 8 : Int) = n
    omega
  · show n % (2 ^ 32 : Int) = n
    omega
  · show n % (2 ^ 64 : Int) = n
    omega

theorem inU_inK {k : IntKind} {n : Int} (h : inU k n) : inK k n := by
  cases k <;> simp only [inU, inK] at h ⊢ <;> first | exact h.elim | omega

theorem sumLike_good (h : StR S ρ a w σ st) (hd : ∀ d, o.dst = some d → d < S.n) {oc : Orc} {k : IntKind} {n : Int} (hpre : ∀ q ∈ (sumLike oc k n).pre, q)
    (hr : (execOp a.eval o).run S.P w = .ok (.value (.int k (k.wrap n))) w) : Good S a w σ st o (sumLike oc k n) := by
  have main : inK k n → Good S a w σ st o (.dd [inK k n] (.int k n)) := fun hin => by
    rw [wrap_in hin] at hr
    exact Good.dd h hd hr (.int _ _) rfl
  cases oc with
  | wrap => exact Good.dd h hd hr (.int _ _) rfl
  | _ => exact main (hpre _ (by simp [sumLike, Out.dd]))

theorem inU_lt {k : IntKind} {n : Int} (h : inU k n) : 0 ≤ n ∧ n < 2 ^ k.bits := by
  cases k <;> simp only [inU, IntKind.bits] at h ⊢ <;> first | exact h.elim | omega

theorem inU_bits {k : IntKind} {n : Int} (h : inU k n) : ∃ b, n.toNat < 2 ^ b ∧ ∀ m : Nat, m < 2 ^ b → inU k (m : Int) := by
  cases k <;> simp only [inU] at h
  all_goals first | exact h.elim | skip
  · exact ⟨63, by omega, fun m hm => by simp only [inU]; omega⟩
  · exact ⟨8, by omega, fun m hm => by simp only [inU]; omega⟩
  · exact ⟨32, by omega, fun m hm => by simp only [inU]; omega⟩
  · exact ⟨64, by omega, fun m hm => by simp only [inU]; omega⟩

theorem inU_bits2 {k : IntKind} {x y : Int} (hx : inU k x) (hy : inU k y) : ∃ b, x.toNat < 2 ^ b ∧ y.toNat < 2 ^ b ∧ ∀ m : Nat, m < 2 ^ b → inU k (m : Int) := by
  cases k <;> simp only [inU] at hx hy
  all_goals first | exact hx.elim | skip
  · exact ⟨63, by omega, by omega, fun m hm => by simp only [inU]; omega⟩
  · exact ⟨8, by omega, by omega, fun m hm => by simp only [inU]; omega⟩
  · exact ⟨32, by omega, by omega, fun m hm => by simp only [inU]; omega⟩
  · exact ⟨64, by omega, by omega, fun m hm => by simp only [inU]; omega⟩

theorem bv_toNat {k : IntKind} {x : Int} (hx : inU k x) : (BitVec.ofInt k.bits x).toNat = x.toNat := by
  obtain ⟨h1, h2⟩ := inU_lt hx
  rw [BitVec.toNat_ofInt, Int.emod_eq_of_lt h1 (by exact_mod_cast h2)]

theorem andNot_toNat {n : Nat} (x y : BitVec n) : (x &&& ~~~y).toNat = x.toNat ^^^ (x.toNat &&& y.toNat) := by
  apply Nat.eq_of_testBit_eq
  intro i
  rw [BitVec.toNat_and, Nat.testBit_and, Nat.testBit_xor, Nat.testBit_and]
  by_cases hi : i < n
  · rw [BitVec.testBit_toNat (x := ~~~y), BitVec.getLsbD_not, BitVec.testBit_toNat, BitVec.testBit_toNat]
    simp [hi]
    generalize x[i] = p
    generalize y[i] = q
    cases p <;> cases q <;> rfl
  · have : x.toNat.testBit i = false := Nat.testBit_lt_two_pow (Nat.lt_of_lt_of_le x.isLt (Nat.pow_le_pow_right (by omega) (by omega)))
    simp [this]

theorem and_lt_two {x y b : Nat} (hx : x < 2 ^ b) : x &&& y < 2 ^ b := Nat.lt_of_le_of_lt Nat.and_le_left hx
theorem xor_and_lt {x y b : Nat} (hx : x < 2 ^ b) : x ^^^ (x &&& y) < 2 ^ b := Nat.xor_lt_two_pow hx (and_lt_two hx)

theorem run_equal_bool {P : Program} {t : TypeId} (hu : P.underlying t = some .bool) (x y : Bool) (w : World) : (Op.equal t (.bool x) (.bool y)).run P w = .ok (x == y) w := by
  unfold Op.equal Op.maxDepth
  rw [Op.equalIn]
  simp only [Sem.run_bind, run_underlying hu, Result.andThen_ok]
  rfl

theorem binb_good (h : StR S ρ a w σ st) (hd : ∀ d, o.dst = some d → d < S.n) {op : BinOp} {t u : TypeId} {x y : Operand} (ho : o.op = .binOp op t x y u) {b1 b2 : Bool}
    (hvx : a.eval x = .bool b1) (hvy : a.eval y = .bool b2) (hu : S.P.underlying t = some .bool) :
    (op = .eql → Good S a w σ st o (.dd [] (.bool (b1 == b2)))) ∧ (op = .neq → Good S a w σ st o (.dd [] (.bool (b1 != b2)))) := by
  constructor
  · rintro rfl
    have hr : (execOp a.eval o).run S.P w = .ok (.value (.bool (b1 == b2))) w := by
      have e : execOp a.eval o = (do let v ← (do eqGuard .eql t x y (.bool b1) (.bool b2); binOp .eql t (.bool b1) (.bool b2)); pure (.value v)) := by
        unfold execOp; rw [ho]; simp only [hvx, hvy]
      have e2 : binOp .eql t (.bool b1) (.bool b2) = (do pure (.bool (← Op.equal t (.bool b1) (.bool b2)))) := rfl
      rw [e, e2, eqGuard_at_bool]
      simp only [Sem.run_bind, Sem.run_pure, Result.andThen_ok, run_equal_bool hu]
    exact Good.dd h hd hr (.bool _) rfl
  · rintro rfl
    have hr : (execOp a.eval o).run S.P w = .ok (.value (.bool (b1 != b2))) w := by
      have e : execOp a.eval o = (do let v ← (do eqGuard .neq t x y (.bool b1) (.bool b2); binOp .neq t (.bool b1) (.bool b2)); pure (.value v)) := by
        unfold execOp; rw [ho]; simp only [hvx, hvy]
      have e2 : binOp .neq t (.bool b1) (.bool b2) = (do pure (.bool (!(← Op.equal t (.bool b1) (.bool b2))))) := rfl
      rw [e, e2, eqGuard_at_bool]
      simp only [Sem.run_bind, Sem.run_pure, Result.andThen_ok, run_equal_bool hu]
      rfl
    exact Good.dd h hd hr (.bool _) rfl

theorem binI_good (h : StR S ρ a w σ st) (hd : ∀ d, o.dst = some d → d < S.n) {oc : Orc} {op : BinOp} {t u : TypeId} {x y : Operand} (ho : o.op = .binOp op t x y u)
    {k k' : IntKind} {m n : Int} {fr1 fr2 : Bool} (hvx : a.eval x = .int k m) (hvy : a.eval y = .int k' n)
    (hpre : ∀ r ∈ (binRun S.P oc op t (.d fr1 (.int k m)) (.d fr2 (.int k' n))).pre, r) :
    Good S a w σ st o (binRun S.P oc op t (.d fr1 (.int k m)) (.d fr2 (.int k' n))) := by
  unfold binRun at hpre ⊢
  have guard : ∀ op', eqGuard op' t x y (.int k m) (.int k' n) = pure () := fun op' => by cases op' <;> rfl
  have runB : ∀ {s : Sem Value} {v : Value}, binOp op t (.int k m) (.int k' n) = s → s.run S.P w = .ok v w → (execOp a.eval o).run S.P w = .ok (.value v) w := by
    intro s v h1 h2
    simp [execOp, ho, hvx, hvy, guard, h1, h2]
  have shifts : (op = .shl ∨ op = .shr) → (∀ r ∈ (shiftI op k m n).pre, r) → Good S a w σ st o (shiftI op k m n) := by
    intro hop hpre
    rcases hop with rfl | rfl
    · simp only [shiftI, Out.dd, List.mem_cons, List.not_mem_nil, or_false, forall_eq_or_imp, forall_eq] at hpre
      obtain ⟨h1, h2, h3⟩ := hpre
      refine Good.dd h hd (runB (s := Op.shift .shl k m k' n) rfl (?_ : _ = Result.ok (.int k (m * 2 ^ n.toNat)) w)) (.int _ _) rfl
      have hn : ¬ n < 0 := by omega
      have hw := wrap_in (inU_inK h3)
      have hmin : m * 2 ^ (min n.toNat k.bits) = m * 2 ^ n.toNat ∨ m = 0 := by
        by_cases hb : n.toNat ≤ k.bits
        · left; rw [Nat.min_eq_left hb]
        · right
          have hlt := (inU_lt h3).2
          have hp : (2 : Int) ^ k.bits ≤ 2 ^ n.toNat := by
            have := Nat.pow_le_pow_right (n := 2) (by omega) (show k.bits ≤ n.toNat by omega)
            exact_mod_cast this
          have hpos : (0 : Int) < 2 ^ n.toNat := by
            have := Nat.pow_pos (n := n.toNat) (show 0 < 2 by omega); exact_mod_cast this
          by_cases hm0 : m = 0
          · exact hm0
          · exfalso
            have : (1 : Int) * 2 ^ n.toNat ≤ m * 2 ^ n.toNat := Int.mul_le_mul_of_nonneg_right (by omega) (by omega)
            omega
      rcases hmin with hmin | hmin
      · simp [Op.shift, hn, hmin, hw]
      · subst hmin; simp [Op.shift, hn]
        simpa using hw
    · simp only [shiftI, Out.dd, List.mem_cons, List.not_mem_nil, or_false, forall_eq_or_imp, forall_eq] at hpre
      obtain ⟨h1, h2⟩ := hpre
      refine Good.dd h hd (runB (s := Op.shift .shr k m k' n) rfl (?_ : _ = Result.ok (.int k (m / 2 ^ n.toNat)) w)) (.int _ _) rfl
      have hn : ¬ n < 0 := by omega
      have hp : ∀ j : Nat, (0 : Int) ≤ 2 ^ j := fun j => by
        have := Nat.pow_pos (n := j) (show 0 < 2 by omega); exact_mod_cast Nat.le_of_lt this
      have e1 : m.fdiv (2 ^ min n.toNat k.bits) = m / 2 ^ n.toNat := by
        rw [Int.fdiv_eq_ediv_of_nonneg _ (hp _)]
        by_cases hb : n.toNat ≤ k.bits
        · rw [Nat.min_eq_left hb]
        · rw [Nat.min_eq_right (by omega)]
          obtain ⟨g1, g2⟩ := inU_lt h1
          have hpp : (2 : Int) ^ k.bits ≤ 2 ^ n.toNat := by
            have := Nat.pow_le_pow_right (n := 2) (by omega) (show k.bits ≤ n.toNat by omega)
            exact_mod_cast this
          rw [Int.ediv_eq_zero_of_lt g1 g2, Int.ediv_eq_zero_of_lt g1 (by omega)]
      simp [Op.shift, hn, e1]
  have hkk : ∀ out : Out, (∀ r ∈ (match decide (k = k') with | true => out | false => Out.bad).pre, r) → k = k' := by
    intro out hq
    by_cases hk : k = k'
    · exact hk
    · simp [hk] at hq; exact (bad_pre hq).elim
  have bits : ∀ {f : Nat → Nat → Nat} {g : BitVec k.bits → BitVec k.bits → BitVec k.bits}, k = k' → inU k m → inU k n →
      (∀ x y : BitVec k.bits, (g x y).toNat = f x.toNat y.toNat) → (∀ b x y : Nat, x < 2 ^ b → y < 2 ^ b → f x y < 2 ^ b) →
      (binOp op t (.int k m) (.int k' n) = (pure (.int k (k.wrap (g (BitVec.ofInt k.bits m) (BitVec.ofInt k.bits n)).toNat)) : Sem Value)) →
      Good S a w σ st o (.dd [inU k m, inU k n] (.int k ((f m.toNat n.toNat : Nat) : Int))) := by
    intro f g hk h1 h2 hg hf hb
    refine Good.dd h hd (runB hb ?_) (.int _ _) rfl
    have e : (g (BitVec.ofInt k.bits m) (BitVec.ofInt k.bits n)).toNat = f m.toNat n.toNat := by rw [hg, bv_toNat h1, bv_toNat h2]
    obtain ⟨b, hb1, hb2, hb3⟩ := inU_bits2 h1 h2
    rw [e, wrap_in (inU_inK (hb3 _ (hf b _ _ hb1 hb2)))]
    rfl
  cases op
  case shl => exact shifts (.inl rfl) hpre
  case shr => exact shifts (.inr rfl) hpre
  all_goals
    have hk := hkk _ hpre
    subst hk
    simp only [decide_true] at hpre ⊢
  case add => exact sumLike_good h hd hpre (runB rfl (by simp [binOp, Op.intArith]))
  case sub => exact sumLike_good h hd hpre (runB rfl (by simp [binOp, Op.intArith]))
  case mul => exact sumLike_good h hd hpre (runB rfl (by simp [binOp, Op.intArith]))
  case quo =>
    simp only [binI, Out.dd, List.mem_cons, List.not_mem_nil, or_false, forall_eq_or_imp, forall_eq] at hpre
    obtain ⟨h1, h2⟩ := hpre
    refine Good.dd h hd (runB rfl (?_ : _ = Result.ok (.int k (m / n)) w)) (.int _ _) rfl
    have g1 := (inU_lt h1).1
    have e1 : m.tdiv n = m / n := Int.tdiv_eq_ediv_of_nonneg g1
    have e2 : inU k (m / n) := by
      have hle : m / n ≤ m := Int.ediv_le_self _ g1
      have hge : 0 ≤ m / n := Int.ediv_nonneg g1 (by omega)
      revert h1; cases k <;> simp only [inU] <;> intro h1 <;> first | exact h1 | omega
    simp [binOp, Op.intDiv, show n ≠ 0 by omega, e1, wrap_in (inU_inK e2)]
  case rem =>
    simp only [binI, Out.dd, List.mem_cons, List.not_mem_nil, or_false, forall_eq_or_imp, forall_eq] at hpre
    obtain ⟨h1, h2⟩ := hpre
    refine Good.dd h hd (runB rfl (?_ : _ = Result.ok (.int k (m % n)) w)) (.int _ _) rfl
    have e1 : m.tmod n = m % n := Int.tmod_eq_emod_of_nonneg h1
    simp [binOp, Op.intDiv, show n ≠ 0 by omega, e1]
  case and =>
    simp only [binI, Out.dd, List.mem_cons, List.not_mem_nil, or_false, forall_eq_or_imp, forall_eq] at hpre
    exact bits (f := (· &&& ·)) (g := (· &&& ·)) rfl hpre.1 hpre.2 (fun x y => BitVec.toNat_and x y) (fun b x y hx _ => Nat.lt_of_le_of_lt Nat.and_le_left hx) (by simp [binOp, Op.intBits])
  case or =>
    simp only [binI, Out.dd, List.mem_cons, List.not_mem_nil, or_false, forall_eq_or_imp, forall_eq] at hpre
    exact bits (f := (· ||| ·)) (g := (· ||| ·)) rfl hpre.1 hpre.2 (fun x y => BitVec.toNat_or x y) (fun b x y hx hy => Nat.or_lt_two_pow hx hy) (by simp [binOp, Op.intBits])
  case xor =>
    simp only [binI, Out.dd, List.mem_cons, List.not_mem_nil, or_false, forall_eq_or_imp, forall_eq] at hpre
    exact bits (f := (· ^^^ ·)) (g := (· ^^^ ·)) rfl hpre.1 hpre.2 (fun x y => BitVec.toNat_xor x y) (fun b x y hx hy => Nat.xor_lt_two_pow hx hy) (by simp [binOp, Op.intBits])
  case andNot =>
    simp only [binI, Out.dd, List.mem_cons, List.not_mem_nil, or_false, forall_eq_or_imp, forall_eq] at hpre
    exact bits (f := fun x y => x ^^^ (x &&& y)) (g := fun x y => x &&& ~~~y) rfl hpre.1 hpre.2 (fun x y => andNot_toNat x y) (fun b x y hx hy => Nat.xor_lt_two_pow hx (Nat.lt_of_le_of_lt Nat.and_le_left hx)) (by simp [binOp, Op.intBits])
  case eql => exact Good.dd h hd (runB rfl (by simp [binOp, Op.intCmp])) (.bool _) rfl
  case neq => exact Good.dd h hd (runB rfl (by simp [binOp, Op.intCmp])) (.bool _) rfl
  case lss => exact Good.dd h hd (runB rfl (by simp [binOp, Op.intCmp])) (.bool _) rfl
  case leq => exact Good.dd h hd (runB rfl (by simp [binOp, Op.intCmp])) (.bool _) rfl
  case gtr => exact Good.dd h hd (runB rfl (by simp [binOp, Op.intCmp])) (.bool _) rfl
  case geq => exact Good.dd h hd (runB rfl (by simp [binOp, Op.intCmp])) (.bool _) rfl

theorem bin_good (h : StR S ρ a w σ st) (hd : ∀ d, o.dst = some d → d < S.n) {oc : Orc} {op : BinOp} {t u : TypeId} {x y : Operand} (ho : o.op = .binOp op t x y u) {p q : PV}
    {vx vy : Value} (hvx : a.eval x = vx) (hvy : a.eval y = vy) (hx : RPs S ρ w st vx p) (hy : RPs S ρ w st vy q) (hpre : ∀ r ∈ (binRun S.P oc op t p q).pre, r) :
    Good S a w σ st o (binRun S.P oc op t p q) := by
  cases p with
  | d fr1 xd =>
    cases xd with
    | int k m =>
      cases q with
      | d fr2 yd =>
        cases yd with
        | int k' n =>
          have e1 := RPs.int_inv hx
          have e2 := RPs.int_inv hy
          subst e1 e2
          exact binI_good h hd ho hvx hvy hpre
        | _ => exact (bad_pre hpre).elim
      | _ => exact (bad_pre hpre).elim
    | bool b1 =>
      cases q with
      | d fr2 yd =>
        cases yd with
        | bool b2 =>
          have e1 := RPs.bool_inv hx
          have e2 := RPs.bool_inv hy
          subst e1 e2
          unfold binRun at hpre ⊢
          cases hgu : S.P.underlying t with
          | none => rw [hgu] at hpre; exact (bad_pre hpre).elim
          | some dd =>
            cases dd with
            | bool =>
              rw [hgu] at hpre
              cases op <;> first | exact (bad_pre hpre).elim | exact (binb_good h hd ho hvx hvy hgu).1 rfl | exact (binb_good h hd ho hvx hvy hgu).2 rfl
            | _ => rw [hgu] at hpre; exact (bad_pre hpre).elim
        | _ => exact (bad_pre hpre).elim
      | _ => exact (bad_pre hpre).elim
    | sl m =>
      cases q with
      | d fr2 yd =>
        cases yd with
        | nil =>
          have e2 : vy = .slice none 0 0 := by cases hy with | d _ _ _ hy => have h2 := hy.plain; cases h2; rfl
          subst e2
          unfold binRun at hpre ⊢
          cases hgu : S.P.underlying t with
          | none => rw [hgu] at hpre; exact (bad_pre hpre).elim
          | some dd =>
            cases dd with
            | slice e0 =>
              rw [hgu] at hpre
              have key : 0 < m.len → ∃ a n c, vx = .slice (some a) n c := by
                intro hlen
                cases hx with | d _ _ _ hx => have h2 := hx.plain; cases h2 with | slnil _ h0 => omega | sl _ ad n cap _ _ _ _ _ => exact ⟨ad, n, cap, rfl⟩
              cases op <;> first | exact (bad_pre hpre).elim | skip
              case eql =>
                obtain ⟨ad, n, c, rfl⟩ := key (hpre _ (by simp [Out.dd]))
                refine Good.dd h hd (v := .bool false) ?_ (.bool _) rfl
                have e : execOp a.eval o = (do let v ← (do eqGuard .eql t x y (.slice (some ad) n c) (.slice none 0 0); binOp .eql t (.slice (some ad) n c) (.slice none 0 0)); pure (.value v)) := by
                  unfold execOp; rw [ho]; simp only [hvx, hvy]
                have e3 : eqGuard .eql t x y (.slice (some ad) n c) (.slice none 0 0) = pure () := rfl
                rw [e, e3]
                simp only [Sem.run_bind, Sem.run_pure, Result.andThen_ok, binOp, run_equal_slice_nil w t e0 _ _ _ hgu]
                rfl
              case neq =>
                obtain ⟨ad, n, c, rfl⟩ := key (hpre _ (by simp [Out.dd]))
                refine Good.dd h hd (v := .bool true) ?_ (.bool _) rfl
                have e : execOp a.eval o = (do let v ← (do eqGuard .neq t x y (.slice (some ad) n c) (.slice none 0 0); binOp .neq t (.slice (some ad) n c) (.slice none 0 0)); pure (.value v)) := by
                  unfold execOp; rw [ho]; simp only [hvx, hvy]
                have e3 : eqGuard .neq t x y (.slice (some ad) n c) (.slice none 0 0) = pure () := rfl
                rw [e, e3]
                simp only [Sem.run_bind, Sem.run_pure, Result.andThen_ok, binOp, run_equal_slice_nil w t e0 _ _ _ hgu]
                rfl
            | _ => rw [hgu] at hpre; exact (bad_pre hpre).elim
        | _ => exact (bad_pre hpre).elim
      | _ => exact (bad_pre hpre).elim
    | _ => exact (bad_pre hpre).elim
  | _ => exact (bad_pre hpre).elim
end Go.Proofs.Ytmmoejdglnnmcaa
