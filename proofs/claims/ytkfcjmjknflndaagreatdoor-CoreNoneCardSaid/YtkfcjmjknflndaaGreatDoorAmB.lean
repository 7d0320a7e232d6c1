/-
  The operations that only reckon: what the abstract machine reckons the model reckons.
  The operations that only reckon, second part.
  The operations that only reckon, third part.
  The operations that only reckon, fourth part: what is built of parts, what is cut, lengths.
-/
import Derived.Test.YtkfcjmjknflndaaGreatDoorAmA
import Derived.Laws.StructEq
import Derived.Laws.Tables
set_option linter.unusedVariables false
set_option linter.unusedSimpArgs false
namespace Go.AM

def PureOK (P : Program) (o : Oper) (f : Tm → Option AV) : Prop :=
  ∀ (D : Nat → Prop) (μ : Nat → Loc) (a : Tm) (ρ : Operand → Value) (w : World) (v : AV), OpsR D μ a ρ o.op.operands.toList → f a = some v →
    ∃ v', (execOp ρ o).run P w = .ok (.value v') w ∧ VR D μ v v'

variable {P : Program} {tt : TT} {o : Oper}

theorem pure_none : PureOK P o fun _ => none := by intro D μ a ρ w v _ h; cases h

theorem pure_move {x : Operand} (ho : o.op = .move x) : PureOK P o (hMove (cOpd x)) := by
  intro D μ a ρ w v hops hf
  cases hf
  exact ⟨ρ x, by simp [execOp, ho], hops x (by simp [ho, Op.operands])⟩
theorem pure_assign {x : Operand} (ho : o.op = .assign x) : PureOK P o (hMove (cOpd x)) := by
  intro D μ a ρ w v hops hf
  cases hf
  exact ⟨ρ x, by simp [execOp, ho], hops x (by simp [ho, Op.operands])⟩

theorem pure_pick {c x y : Operand} (ho : o.op = .pick c x y) : PureOK P o (hPick (cOpd c) (cOpd x) (cOpd y)) := by
  intro D μ a ρ w v hops hf
  have hc := hops c (by simp [ho, Op.operands])
  have hx := hops x (by simp [ho, Op.operands])
  have hy := hops y (by simp [ho, Op.operands])
  unfold hPick at hf
  split at hf
  · rename_i t ht
    rw [ht] at hc
    have e := vr_bool hc
    cases t with
    | true => cases hf; exact ⟨ρ x, by simp [execOp, ho, e, asBool], hx⟩
    | false => cases hf; exact ⟨ρ y, by simp [execOp, ho, e, asBool], hy⟩
  · cases hf

theorem pure_nil {x : Operand} (ho : o.op = .nilCheck x) : PureOK P o (hNil (cOpd x)) := by
  intro D μ a ρ w v hops hf
  have hx := hops x (by simp [ho, Op.operands])
  unfold hNil at hf
  split at hf
  · rename_i b k hb
    rw [hb] at hx
    cases hf
    exact ⟨ρ x, by simp [execOp, ho, (vr_ptr hx).1], hx⟩
  · rename_i t u hb
    rw [hb] at hx
    cases hf
    obtain ⟨u', e, _⟩ := vr_ifc hx
    exact ⟨ρ x, by simp [execOp, ho, e], hx⟩
  · rename_i f c hb
    rw [hb] at hx
    cases hf
    obtain ⟨u', e, _⟩ := vr_fn hx
    exact ⟨ρ x, by simp [execOp, ho, e], hx⟩
  · cases hf

theorem eqGuard_not {op : BinOp} (h1 : op ≠ .eql) (h2 : op ≠ .neq) (t : TypeId) (x y : Operand) (u v : Value) (w : World) : (eqGuard op t x y u v).run P w = .ok () w := by
  cases op <;> simp_all [eqGuard]

theorem pure_int2 {op : BinOp} {t yt : TypeId} {x y : Operand} (ho : o.op = .binOp op t x y yt) (h1 : op ≠ .eql) (h2 : op ≠ .neq) (g : IntKind → Int → Int → Option AV)
    (hg : ∀ k m n v, g k m n = some v → ∃ v', ∀ w, (binOp op t (.int k m) (.int k n)).run P w = .ok v' w ∧ ∀ D μ, VR D μ v v') : PureOK P o (hInt2 g (cOpd x) (cOpd y)) := by
  intro D μ a ρ w v hops hf
  have hx := hops x (by simp [ho, Op.operands])
  have hy := hops y (by simp [ho, Op.operands])
  unfold hInt2 at hf
  split at hf
  · rename_i k m hm
    split at hf
    · rename_i k' n hn
      cases hk : kEq k k' with
      | false => rw [hk] at hf; cases hf
      | true =>
        rw [hk, cond_true] at hf
        have := kEq_iff.1 hk
        subst this
        rw [hm] at hx; rw [hn] at hy
        obtain ⟨v', h⟩ := hg k m n v hf
        exact ⟨v', by simp [execOp, ho, eqGuard_not h1 h2, vr_int hx, vr_int hy, (h w).1], (h w).2 D μ⟩
    · cases hf
  · cases hf

theorem pure_cmp {op : BinOp} {t yt : TypeId} {x y : Operand} (ho : o.op = .binOp op t x y yt) (h1 : op ≠ .eql) (h2 : op ≠ .neq) (f : Int → Int → Bool) (g : List Nat → List Nat → Bool)
    (hf : ∀ k m n w, (binOp op t (.int k m) (.int k n)).run P w = .ok (.bool (f m n)) w)
    (hg : ∀ (m n : ByteArray) w, (binOp op t (.string m) (.string n)).run P w = .ok (.bool (g (m.data.toList.map (·.toNat)) (n.data.toList.map (·.toNat)))) w) : PureOK P o (hCmp f g (cOpd x) (cOpd y)) := by
  intro D μ a ρ w v hops hv
  have hx := hops x (by simp [ho, Op.operands])
  have hy := hops y (by simp [ho, Op.operands])
  unfold hCmp at hv
  split at hv
  · rename_i k m hm
    split at hv
    · rename_i k' n hn
      cases hk : kEq k k' with
      | false => rw [hk] at hv; cases hv
      | true =>
        rw [hk, cond_true] at hv
        have := kEq_iff.1 hk
        subst this
        rw [hm] at hx; rw [hn] at hy
        cases hv
        exact ⟨.bool (f m n), by simp [execOp, ho, eqGuard_not h1 h2, vr_int hx, vr_int hy, hf], .bool _⟩
    · cases hv
  · rename_i m hm
    split at hv
    · rename_i n hn
      rw [hm] at hx; rw [hn] at hy
      obtain ⟨sx, ex, rfl⟩ := vr_str hx
      obtain ⟨sy, ey, rfl⟩ := vr_str hy
      cases hv
      exact ⟨.bool _, by simp [execOp, ho, eqGuard_not h1 h2, ex, ey, hg], .bool _⟩
    · cases hv
  · cases hv

theorem pure_shl {t yt : TypeId} {x y : Operand} (ho : o.op = .binOp .shl t x y yt) : PureOK P o (hShl (cOpd x) (cOpd y)) := by
  intro D μ a ρ w v hops hf
  have hx := hops x (by simp [ho, Op.operands])
  have hy := hops y (by simp [ho, Op.operands])
  unfold hShl at hf
  split at hf
  · rename_i k m hm
    split at hf
    · rename_i k' n hn
      rw [hm] at hx; rw [hn] at hy
      cases hf
      refine ⟨_, ?_, .int _ _⟩
      have hn0 : ¬ ((Int.ofNat n) < 0) := by simp
      simp only [execOp, ho, eqGuard, vr_int hx, vr_int hy, binOp, Op.shift, if_neg hn0]
      rfl
    · cases hf
  · cases hf
theorem pure_shr {t yt : TypeId} {x y : Operand} (ho : o.op = .binOp .shr t x y yt) : PureOK P o (hShr (cOpd x) (cOpd y)) := by
  intro D μ a ρ w v hops hf
  have hx := hops x (by simp [ho, Op.operands])
  have hy := hops y (by simp [ho, Op.operands])
  unfold hShr at hf
  split at hf
  · rename_i k m hm
    split at hf
    · rename_i k' n hn
      rw [hm] at hx; rw [hn] at hy
      cases hf
      refine ⟨_, ?_, .int _ _⟩
      have hn0 : ¬ ((Int.ofNat n) < 0) := by simp
      simp only [execOp, ho, eqGuard, vr_int hx, vr_int hy, binOp, Op.shift, if_neg hn0]
      rfl
    · cases hf
  · cases hf

/-! held against each other -/
/-- what an operation of '==' or '!=' makes of its answer -/
theorem pure_eq {t yt : TypeId} {x y : Operand} {neg : Bool} (ho : o.op = .binOp (if neg then .neq else .eql) t x y yt) (f : AV → AV → Option Bool)
    (hf : ∀ (D : Nat → Prop) (μ : Nat → Loc) (u v : AV) (u' v' : Value) (b : Bool) (w : World), VR D μ u u' → VR D μ v v' → f u v = some b →
      ((isConst x || isConst y) = true ∨ (isConst x || isConst y) = false) →
      (do eqGuard (if neg then .neq else .eql) t x y u' v'; binOp (if neg then .neq else .eql) t u' v' : Sem Value).run P w = .ok (.bool (if neg then !b else b)) w) :
    PureOK P o (hEqWith f neg (cOpd x) (cOpd y)) := by
  intro D μ a ρ w v hops hv
  have hx := hops x (by simp [ho, Op.operands])
  have hy := hops y (by simp [ho, Op.operands])
  unfold hEqWith at hv
  split at hv
  · rename_i b hb
    cases hv
    have h := hf D μ _ _ _ _ b w hx hy hb (by cases (isConst x || isConst y) <;> simp)
    refine ⟨.bool (if neg then !b else b), ?_, by cases neg <;> exact .bool _⟩
    simp only [execOp, ho]
    rw [Sem.run_bind, h]
    rfl
  · cases hv

theorem binOp_ints (op : BinOp) (h1 : op ≠ .shl) (h2 : op ≠ .shr) (t : TypeId) (k : IntKind) (m n : Int) : binOp op t (.int k m) (.int k n) =
    (match op with | .add | .sub | .mul => Op.intArith op k m n | .quo | .rem => Op.intDiv op k m n | .and | .or | .xor | .andNot => Op.intBits op k m n | _ => Op.intCmp op m n) := by
  cases op <;> first | exact absurd rfl h1 | exact absurd rfl h2 | simp [binOp]

theorem equal_run (t : TypeId) (u v : Value) : Op.equal t u v = Op.equalIn (9998 + 2) t u v := rfl
theorem binOp_eql {t : TypeId} {u v : Value} (hi : ∀ k n k' n', ¬ (u = .int k n ∧ v = .int k' n')) (hs : ∀ a b, ¬ (u = .string a ∧ v = .string b)) (hf : ∀ k a k' b, ¬ (u = .float k a ∧ v = .float k' b)) (hc : ∀ k a b k' a' b', ¬ (u = .complex k a b ∧ v = .complex k' a' b')) :
    binOp .eql t u v = (do pure (.bool (← Op.equal t u v))) := by
  unfold binOp
  split <;> first | rfl | exact absurd ⟨rfl, rfl⟩ (hi _ _ _ _) | exact absurd ⟨rfl, rfl⟩ (hs _ _) | exact absurd ⟨rfl, rfl⟩ (hf _ _ _ _) | exact absurd ⟨rfl, rfl⟩ (hc _ _ _ _ _ _) | simp_all
theorem binOp_neq {t : TypeId} {u v : Value} (hi : ∀ k n k' n', ¬ (u = .int k n ∧ v = .int k' n')) (hs : ∀ a b, ¬ (u = .string a ∧ v = .string b)) (hf : ∀ k a k' b, ¬ (u = .float k a ∧ v = .float k' b)) (hc : ∀ k a b k' a' b', ¬ (u = .complex k a b ∧ v = .complex k' a' b')) :
    binOp .neq t u v = (do pure (.bool (!(← Op.equal t u v)))) := by
  unfold binOp
  split <;> first | rfl | exact absurd ⟨rfl, rfl⟩ (hi _ _ _ _) | exact absurd ⟨rfl, rfl⟩ (hs _ _) | exact absurd ⟨rfl, rfl⟩ (hf _ _ _ _) | exact absurd ⟨rfl, rfl⟩ (hc _ _ _ _ _ _) | simp_all
/-- one way through '==' and '!=' for what is neither number nor text -/
theorem eq_run {neg : Bool} {t : TypeId} {x y : Operand} {u v : Value} {b : Bool} {w : World} (hi : ∀ k n k' n', ¬ (u = .int k n ∧ v = .int k' n')) (hs : ∀ a b, ¬ (u = .string a ∧ v = .string b))
    (hf : ∀ k a k' b, ¬ (u = .float k a ∧ v = .float k' b)) (hc : ∀ k a b k' a' b', ¬ (u = .complex k a b ∧ v = .complex k' a' b'))
    (hg : (eqGuard (if neg then .neq else .eql) t x y u v).run P w = .ok () w) (he : ∀ d, (Op.equalIn (d + 2) t u v).run P w = .ok b w) :
    (do eqGuard (if neg then .neq else .eql) t x y u v; binOp (if neg then .neq else .eql) t u v : Sem Value).run P w = .ok (.bool (if neg then !b else b)) w := by
  rw [Sem.run_bind, hg, Result.andThen_ok]
  cases neg with
  | false =>
    simp only [Bool.false_eq_true, if_false]
    rw [binOp_eql hi hs hf hc, equal_run]
    rw [Sem.run_bind, he 9998, Result.andThen_ok, Sem.run_pure]
  | true =>
    simp only [if_true]
    rw [binOp_neq hi hs hf hc, equal_run]
    rw [Sem.run_bind, he 9998, Result.andThen_ok, Sem.run_pure]


theorem eqGuard_plain {op : BinOp} {t : TypeId} {x y : Operand} {u v : Value} (h1 : ¬ (u = .nilIface ∧ v = .nilIface)) (h2 : ∀ a b, ¬ (u = .agg a ∧ v = .agg b)) (w : World) : (eqGuard op t x y u v).run P w = .ok () w := by
  cases op <;> first
    | rfl
    | (unfold eqGuard
       simp only [Bool.not_true, Bool.false_eq_true, if_false]
       split
       · exact absurd ⟨rfl, rfl⟩ h1
       · exact absurd ⟨rfl, rfl⟩ (h2 _ _)
       · rfl)

theorem kind0 {d : Option TypeDesc} (h : kindOf d = 0) : ∃ k, d = some (.int k) := by
  unfold kindOf at h; split at h <;> simp at h; exact ⟨_, rfl⟩
theorem kind1 {d : Option TypeDesc} (h : kindOf d = 1) : d = some .string := by
  unfold kindOf at h; split at h <;> simp at h; rfl
theorem kind2 {d : Option TypeDesc} (h : kindOf d = 2) : d = some .bool := by
  unfold kindOf at h; split at h <;> simp at h; rfl

/-- two plain values by the model's '==' within a type -/
theorem eqK_in {D : Nat → Prop} {μ : Nat → Loc} {k : Nat} {t : TypeId} {u v : AV} {u' v' : Value} {b : Bool} (hk : ∃ d, P.underlying t = some d ∧ kindOf (some d) = k) (hu : VR D μ u u') (hv : VR D μ v v')
    (h : eqK k u v = some b) (n : Nat) (w : World) : (Op.equalIn (n + 1) t u' v').run P w = .ok b w := by
  obtain ⟨d, ht, hk⟩ := hk
  unfold eqK at h
  split at h
  · rename_i k m k' m'
    obtain ⟨kd, hd⟩ := kind0 hk
    cases hd
    cases hkk : kEq k k' with
    | false => rw [hkk] at h; cases h
    | true =>
      rw [hkk, cond_true] at h
      have := kEq_iff.1 hkk
      subst this
      cases h
      rw [vr_int hu, vr_int hv, run_equalIn_int w n t _ _ _ _ ht, iEq_eq]; rfl
  · rename_i m m'
    have hd := kind1 hk
    cases hd
    obtain ⟨su, eu, hu⟩ := vr_str hu
    obtain ⟨sv, ev, hv⟩ := vr_str hv
    cases h
    rw [eu, ev, ← hu, ← hv, strEq_bytes, run_equalIn_string w n t _ _ ht, ByteArray.toList_eq, ByteArray.toList_eq]
  · rename_i m m'
    have hd := kind2 hk
    cases hd
    cases h
    rw [vr_bool hu, vr_bool hv, run_equalIn_bool' w n t _ _ ht, bEq_eq]
  · cases h

/-- what hEqWith asks of a test -/
def EqTest (P : Program) (t : TypeId) (x y : Operand) (f : AV → AV → Option Bool) : Prop :=
  ∀ (neg : Bool) (D : Nat → Prop) (μ : Nat → Loc) (u v : AV) (u' v' : Value) (b : Bool) (w : World), VR D μ u u' → VR D μ v v' → f u v = some b →
    (do eqGuard (if neg then .neq else .eql) t x y u' v'; binOp (if neg then .neq else .eql) t u' v' : Sem Value).run P w = .ok (.bool (if neg then !b else b)) w

theorem eqTest_k0 {t : TypeId} {x y : Operand} : EqTest P t x y (eqK 0) := by
  intro neg D μ u v u' v' b w hu hv h
  unfold eqK at h
  split at h <;> (try cases h) <;> (try (simp at *; done))
  rename_i k m k' m' _
  cases hkk : kEq k k' with
  | false => rw [hkk] at h; cases h
  | true =>
    rw [hkk, cond_true] at h
    have := kEq_iff.1 hkk
    subst this
    cases h
    rw [vr_int hu, vr_int hv, iEq_eq, Sem.run_bind, eqGuard_plain (by simp) (by simp), Result.andThen_ok]
    cases neg
    · simp only [Bool.false_eq_true, if_false]; rw [binOp_ints _ (by simp) (by simp)]; rfl
    · simp only [if_true]; rw [binOp_ints _ (by simp) (by simp)]
      show Result.ok (Value.bool (m != m')) w = _
      by_cases e : m = m' <;> simp [e]
theorem eqTest_k1 {t : TypeId} {x y : Operand} : EqTest P t x y (eqK 1) := by
  intro neg D μ u v u' v' b w hu hv h
  unfold eqK at h
  split at h <;> (try cases h) <;> (try (simp at *; done))
  rename_i m m' _
  obtain ⟨su, eu, hu⟩ := vr_str hu
  obtain ⟨sv, ev, hv⟩ := vr_str hv
  rw [eu, ev, ← hu, ← hv, strEq_bytes, Sem.run_bind, eqGuard_plain (by simp) (by simp), Result.andThen_ok]
  cases neg <;> simp [binOp, Op.stringOp, ByteArray.toList_eq]
theorem eqTest_k2 {t : TypeId} {x y : Operand} (ht : P.underlying t = some .bool) : EqTest P t x y (eqK 2) := by
  intro neg D μ u v u' v' b w hu hv h
  have hb := fun d => eqK_in (P := P) (t := t) ⟨_, ht, rfl⟩ hu hv h (d + 1) w
  unfold eqK at h
  split at h <;> (try cases h) <;> (try (simp at *; done))
  have e1 := vr_bool hu
  have e2 := vr_bool hv
  subst e1 e2
  exact eq_run (by simp) (by simp) (by simp) (by simp) (eqGuard_plain (by simp) (by simp) w) hb

theorem pure_eqTest {t yt : TypeId} {x y : Operand} {neg : Bool} (ho : o.op = .binOp (if neg then .neq else .eql) t x y yt) {f : AV → AV → Option Bool} (hf : EqTest P t x y f) : PureOK P o (hEqWith f neg (cOpd x) (cOpd y)) :=
  pure_eq ho f fun D μ u v u' v' b w hu hv h _ => hf neg D μ u v u' v' b w hu hv h

theorem nilP_ok {D : Nat → Prop} {μ : Nat → Loc} {u : AV} {u' : Value} {b : Bool} (h : VR D μ u u') (hb : nilP u = some b) : ∃ a, u' = .pointer a ∧ a.isNone = b := by
  unfold nilP at hb; split at hb <;> cases hb
  · exact ⟨_, (vr_ptr h).1, rfl⟩
  · exact ⟨_, vr_nilp h, rfl⟩
theorem nilS_ok {D : Nat → Prop} {μ : Nat → Loc} {u : AV} {u' : Value} {b : Bool} (h : VR D μ u u') (hb : nilS u = some b) : ∃ a n c, u' = .slice a n c ∧ a.isNone = b := by
  unfold nilS at hb; split at hb <;> cases hb
  · obtain ⟨c', e, _⟩ := vr_sl h; exact ⟨_, _, _, e, rfl⟩
  · obtain ⟨a, c, e⟩ := vr_sle h; exact ⟨_, _, _, e, rfl⟩
  · exact ⟨_, _, _, vr_nils h, rfl⟩
theorem nilM_ok {D : Nat → Prop} {μ : Nat → Loc} {u : AV} {u' : Value} {b : Bool} (h : VR D μ u u') (hb : nilM u = some b) : ∃ r, u' = .map r ∧ r.isNone = b := by
  unfold nilM at hb; split at hb <;> cases hb
  · exact ⟨_, (vr_map h).1, rfl⟩
  · exact ⟨_, vr_nilm h, rfl⟩
theorem nilF_ok {D : Nat → Prop} {μ : Nat → Loc} {u : AV} {u' : Value} {b : Bool} (h : VR D μ u u') (hb : nilF u = some b) : (u' = .nilFunc ∧ b = true) ∨ (∃ f p q, u' = .func f p q ∧ b = false) := by
  unfold nilF at hb; split at hb <;> cases hb
  · obtain ⟨c', e, _⟩ := vr_fn h; exact .inr ⟨_, _, _, e, rfl⟩
  · exact .inl ⟨vr_nilf h, rfl⟩

theorem eqNil_cases {n : AV → Option Bool} {u v : AV} {b : Bool} (h : eqNil n u v = some b) : (n u = some true ∧ n v = some b) ∨ (n u = some false ∧ n v = some true ∧ b = false) := by
  unfold eqNil at h
  split at h <;> cases h
  · rename_i y h1 h2; exact .inl ⟨h1, h2⟩
  · rename_i h1 h2; exact .inr ⟨h1, h2, rfl⟩

theorem eqTest_P {t e : TypeId} {x y : Operand} (ht : P.underlying t = some (.pointer e)) : EqTest P t x y (eqNil nilP) := by
  intro neg D μ u v u' v' b w hu hv h
  rcases eqNil_cases h with ⟨h1, h2⟩ | ⟨h1, h2, rfl⟩
  · obtain ⟨a, rfl, ha⟩ := nilP_ok hu h1
    obtain ⟨a', rfl, ha'⟩ := nilP_ok hv h2
    cases a with
    | some _ => cases ha
    | none =>
      refine eq_run (by simp) (by simp) (by simp) (by simp) (eqGuard_plain (by simp) (by simp) w) ?_
      intro d; cases a' <;> simp [Op.equalIn, r_und ht, ← ha']
  · obtain ⟨a, rfl, ha⟩ := nilP_ok hu h1
    obtain ⟨a', rfl, ha'⟩ := nilP_ok hv h2
    cases a' with
    | some _ => cases ha'
    | none =>
      cases a with
      | none => cases ha
      | some a =>
        refine eq_run (by simp) (by simp) (by simp) (by simp) (eqGuard_plain (by simp) (by simp) w) ?_
        intro d; simp [Op.equalIn, r_und ht]
theorem eqTest_S {t e : TypeId} {x y : Operand} (ht : P.underlying t = some (.slice e)) : EqTest P t x y (eqNil nilS) := by
  intro neg D μ u v u' v' b w hu hv h
  rcases eqNil_cases h with ⟨h1, h2⟩ | ⟨h1, h2, rfl⟩
  · obtain ⟨a, n, c, rfl, ha⟩ := nilS_ok hu h1
    obtain ⟨a', n', c', rfl, ha'⟩ := nilS_ok hv h2
    cases a with
    | some _ => cases ha
    | none =>
      refine eq_run (by simp) (by simp) (by simp) (by simp) (eqGuard_plain (by simp) (by simp) w) ?_
      intro d; cases a' <;> simp [Op.equalIn, r_und ht, ← ha']
  · obtain ⟨a, n, c, rfl, ha⟩ := nilS_ok hu h1
    obtain ⟨a', n', c', rfl, ha'⟩ := nilS_ok hv h2
    cases a' with
    | some _ => cases ha'
    | none =>
      cases a with
      | none => cases ha
      | some a =>
        refine eq_run (by simp) (by simp) (by simp) (by simp) (eqGuard_plain (by simp) (by simp) w) ?_
        intro d; simp [Op.equalIn, r_und ht]
theorem eqTest_M {t e e' : TypeId} {x y : Operand} (ht : P.underlying t = some (.map e e')) : EqTest P t x y (eqNil nilM) := by
  intro neg D μ u v u' v' b w hu hv h
  rcases eqNil_cases h with ⟨h1, h2⟩ | ⟨h1, h2, rfl⟩
  · obtain ⟨a, rfl, ha⟩ := nilM_ok hu h1
    obtain ⟨a', rfl, ha'⟩ := nilM_ok hv h2
    cases a with
    | some _ => cases ha
    | none =>
      refine eq_run (by simp) (by simp) (by simp) (by simp) (eqGuard_plain (by simp) (by simp) w) ?_
      intro d; cases a' <;> simp [Op.equalIn, r_und ht, ← ha']
  · obtain ⟨a, rfl, ha⟩ := nilM_ok hu h1
    obtain ⟨a', rfl, ha'⟩ := nilM_ok hv h2
    cases a' with
    | some _ => cases ha'
    | none =>
      cases a with
      | none => cases ha
      | some a =>
        refine eq_run (by simp) (by simp) (by simp) (by simp) (eqGuard_plain (by simp) (by simp) w) ?_
        intro d; simp [Op.equalIn, r_und ht]
theorem eqTest_F {t : TypeId} {ps rs : Array TypeId} {vr : Bool} {x y : Operand} (ht : P.underlying t = some (.func ps rs vr)) : EqTest P t x y (eqNil nilF) := by
  intro neg D μ u v u' v' b w hu hv h
  rcases eqNil_cases h with ⟨h1, h2⟩ | ⟨h1, h2, rfl⟩
  · rcases nilF_ok hu h1 with ⟨rfl, _⟩ | ⟨_, _, _, _, hh⟩
    · rcases nilF_ok hv h2 with ⟨rfl, rfl⟩ | ⟨f, p, q, rfl, rfl⟩
      · exact eq_run (by simp) (by simp) (by simp) (by simp) (eqGuard_plain (by simp) (by simp) w) (fun d => by simp [Op.equalIn, r_und ht])
      · exact eq_run (by simp) (by simp) (by simp) (by simp) (eqGuard_plain (by simp) (by simp) w) (fun d => by simp [Op.equalIn, r_und ht])
    · cases hh
  · rcases nilF_ok hu h1 with ⟨_, hh⟩ | ⟨f, p, q, rfl, _⟩
    · cases hh
    · rcases nilF_ok hv h2 with ⟨rfl, _⟩ | ⟨_, _, _, _, hh⟩
      · exact eq_run (by simp) (by simp) (by simp) (by simp) (eqGuard_plain (by simp) (by simp) w) (fun d => by simp [Op.equalIn, r_und ht])
      · cases hh

end Go.AM
namespace Go.AM

variable {P : Program} {tt : TT} {o : Oper}

theorem ifaceKind_ok (hT : TTok P tt) {t : TypeId} (h : ifaceKind tt t ≤ 2) : ∃ i d, P.info? t = some i ∧ i.comparable = true ∧ P.underlying t = some d ∧ kindOf (some d) = ifaceKind tt t := by
  unfold ifaceKind at h ⊢
  cases hi : tt.get (path t) with
  | none => simp [hi] at h
  | some i =>
    simp only [hi] at h ⊢
    cases hc : i.comparable with
    | false => simp [hc] at h
    | true =>
      simp only [hc, cond_true] at h ⊢
      cases hu : und tt t with
      | none => simp [hu, kindOf] at h
      | some d => exact ⟨i, d, hT t i hi, hc, und_ok hT hu, rfl⟩

theorem eqK_le {k : Nat} {u v : AV} {b : Bool} (h : eqK k u v = some b) : k ≤ 2 := by
  unfold eqK at h; split at h <;> first | omega | cases h

theorem equalIn_step {t t1 : TypeId} {ms : Array (String × TypeId)} {i : TypeInfo} {u v : Value} (ht : P.underlying t = some (.interface ms)) (hi : P.info? t1 = some i) (hc : i.comparable = true) (e : Nat) (w : World) :
    (Op.equalIn (e + 1) t (.iface t1 u) (.iface t1 v)).run P w = (Op.equalIn e t1 u v).run P w := by
  simp [Op.equalIn, r_und ht, r_info hi, hc]
theorem equalIn_part {t t1 t2 : TypeId} {ms : Array (String × TypeId)} {u v : Value} (ht : P.underlying t = some (.interface ms)) (hne : t1 ≠ t2) (e : Nat) (w : World) :
    (Op.equalIn (e + 1) t (.iface t1 u) (.iface t2 v)).run P w = .ok false w := by
  simp [Op.equalIn, r_und ht, hne]

theorem eqTest_I (hT : TTok P tt) {t : TypeId} {ms : Array (String × TypeId)} {x y : Operand} (ht : P.underlying t = some (.interface ms)) : EqTest P t x y (eqIface (isConst x || isConst y) (ifaceKind tt)) := by
  intro neg D μ u v u' v' b w hu hv h
  unfold eqIface at h
  split at h
  · cases hl : (isConst x || isConst y) with
    | false => rw [hl] at h; cases h
    | true =>
      rw [hl] at h
      cases h
      rw [vr_nili hu, vr_nili hv]
      refine eq_run (by simp) (by simp) (by simp) (by simp) ?_ (fun d => by simp [Op.equalIn, r_und ht])
      cases neg
      · simp only [Bool.false_eq_true, if_false]
        cases x <;> cases y <;> first | (simp [isConst] at hl; done) | rfl
      · simp only [if_true]
        cases x <;> cases y <;> first | (simp [isConst] at hl; done) | rfl
  · cases h
    obtain ⟨q, e, _⟩ := vr_ifc hv
    rw [vr_nili hu, e]
    exact eq_run (by simp) (by simp) (by simp) (by simp) (eqGuard_plain (by simp) (by simp) w) (fun d => by simp [Op.equalIn, r_und ht])
  · cases h
    obtain ⟨q, e, _⟩ := vr_ifc hu
    rw [vr_nili hv, e]
    exact eq_run (by simp) (by simp) (by simp) (by simp) (eqGuard_plain (by simp) (by simp) w) (fun d => by simp [Op.equalIn, r_und ht])
  · rename_i t1 a t2 c
    obtain ⟨qu, eu, hu'⟩ := vr_ifc hu
    obtain ⟨qv, ev, hv'⟩ := vr_ifc hv
    rw [eu, ev]
    refine eq_run (by simp) (by simp) (by simp) (by simp) (eqGuard_plain (by simp) (by simp) w) (fun d => ?_)
    cases hb : Nat.beq t1 t2 with
    | false =>
      rw [hb] at h
      cases h
      have hne : t1 ≠ t2 := Nat.ne_of_beq_eq_false hb
      exact equalIn_part ht hne (d + 1) w
    | true =>
      rw [hb, cond_true] at h
      have he := Nat.eq_of_beq_eq_true hb
      subst he
      obtain ⟨i, dd, h1, h2, h3, h4⟩ := ifaceKind_ok hT (eqK_le h)
      have hin := eqK_in (P := P) (t := t1) ⟨dd, h3, h4⟩ hu' hv' h d w
      exact (equalIn_step ht h1 h2 (d + 1) w).trans hin
  · cases h

/-! structs of plain fields -/
theorem fieldKinds_ok (hT : TTok P tt) : ∀ (fs : List Field) (off : Nat) (ds : List Nat), fieldKinds tt fs off = some ds →
    ∀ (D : Nat → Prop) (μ : Nat → Loc) (us vs : List AV) (xs ys : List Value) (b : Bool) (d : Nat) (w : World), VRs D μ us (xs.drop off) → VRs D μ vs (ys.drop off) → eqCells ds us vs = some b →
      (Op.eqFields (d + 1) xs.toArray ys.toArray fs).run P w = .ok b w := by
  intro fs
  induction fs with
  | nil =>
    intro off ds h D μ us vs xs ys b d w _ _ hb
    simp only [fieldKinds] at h
    cases h
    unfold eqCells at hb
    split at hb
    · cases hb; simp [Op.eqFields]
    · rename_i h1 _ _; cases h1
    · cases hb
  | cons f fs ih =>
    intro off ds h D μ us vs xs ys b d w hu hv hb
    simp only [fieldKinds] at h
    cases hr : fieldKinds tt fs (Nat.succ off) with
    | none => rw [hr] at h; cases h
    | some ds' =>
      rw [hr] at h
      simp only at h
      cases hc : (!(f.name == "_") && (Nat.beq f.offset off && Nat.ble (kindOf (und tt f.type)) 2)) with
      | false => rw [hc] at h; cases h
      | true =>
        rw [hc] at h
        cases h
        simp only [Bool.and_eq_true, Bool.not_eq_true', beq_eq_false_iff_ne, ne_eq] at hc
        obtain ⟨hn, ho, hk⟩ := hc
        have ho := Nat.eq_of_beq_eq_true ho
        have hk := Nat.le_of_ble_eq_true hk
        cases us with
        | nil => simp [eqCells] at hb
        | cons u us =>
          cases vs with
          | nil => simp [eqCells] at hb
          | cons v vs =>
            simp only [eqCells] at hb
            cases hq : eqK (kindOf (und tt f.type)) u v with
            | none => simp [hq] at hb
            | some q =>
              cases hr2 : eqCells ds' us vs with
              | none => simp [hq, hr2] at hb
              | some r =>
                simp only [hq, hr2, Option.some.injEq] at hb
                cases hdx : xs.drop off with
                | nil => rw [hdx] at hu; cases hu
                | cons x xr =>
                  cases hdy : ys.drop off with
                  | nil => rw [hdy] at hv; cases hv
                  | cons y yr =>
                    rw [hdx] at hu; rw [hdy] at hv
                    cases hu with
                    | cons _ _ _ _ hux hus =>
                      cases hv with
                      | cons _ _ _ _ hvy hvs =>
                        have hxr : xs.drop (Nat.succ off) = xr := by have := congrArg List.tail hdx; simpa [List.tail_drop] using this
                        have hyr : ys.drop (Nat.succ off) = yr := by have := congrArg List.tail hdy; simpa [List.tail_drop] using this
                        have hrest := ih (Nat.succ off) ds' hr D μ us vs xs ys r d w (by rw [hxr]; exact hus) (by rw [hyr]; exact hvs) hr2
                        have hx0 : xs[off]? = some x := by have := congrArg (·[0]?) hdx; simpa using this
                        have hy0 : ys[off]? = some y := by have := congrArg (·[0]?) hdy; simpa using this
                        cases hd : und tt f.type with
                        | none => rw [hd] at hk; simp [kindOf] at hk
                        | some dd =>
                          have hun := und_ok hT hd
                          have hagg : isAggD dd = false := by cases dd <;> simp_all [kindOf, isAggD]
                          rw [hd] at hq
                          have hin := eqK_in (P := P) (t := f.type) ⟨dd, hun, rfl⟩ hux hvy hq d w
                          have hpx : (part f.type xs.toArray f.offset).run P w = .ok x w := by
                            simp [part, r_agg hun, hagg, ho, hx0]
                          have hpy : (part f.type ys.toArray f.offset).run P w = .ok y w := by
                            simp [part, r_agg hun, hagg, ho, hy0]
                          simp only [Op.eqFields, if_pos (show f.name ≠ "_" from hn), Sem.run_bind, hpx, hpy, hin, Result.andThen_ok]
                          cases q with
                          | false => simp at hb; subst hb; simp
                          | true => simp at hb; subst hb; simp [hrest]

theorem eqTest_A (hT : TTok P tt) {t : TypeId} {fs : Array Field} {ds : List Nat} {x y : Operand} (ht : P.underlying t = some (.struct fs)) (hd : fieldKinds tt fs.toList 0 = some ds) (hs : P.stoodInHeld t = false)
    (hg : P.eqGuardType P.depth t = false) : EqTest P t x y (eqAgg ds) := by
  intro neg D μ u v u' v' b w hu hv h
  unfold eqAgg at h
  split at h
  · rename_i us vs
    obtain ⟨xs, ex, hx⟩ := vr_agg hu
    obtain ⟨ys, ey, hy⟩ := vr_agg hv
    rw [ex, ey]
    have hf : P.fieldsOf t = fs := by simp [Program.fieldsOf, ht]
    refine eq_run (by simp) (by simp) (by simp) (by simp) (run_eqGuard_agg w _ t x y xs ys hg) (fun d => ?_)
    rw [run_equalIn_agg w (d + 1) t xs ys (by rw [hf]; exact ht) hs, hf]
    exact fieldKinds_ok hT fs.toList 0 ds hd D μ us vs xs.toList ys.toList b d w (by simpa using hx) (by simpa using hy) h
  · cases h

/-- the tests of '==' and '!=' -/
theorem pure_cEq (hT : TTok P tt) {es : TypeId → Bool} (hes : ∀ t, es t = true → P.stoodInHeld t = false ∧ P.eqGuardType P.depth t = false) {neg : Bool} {t yt : TypeId} {x y : Operand}
    (ho : o.op = .binOp (if neg then .neq else .eql) t x y yt) : ∃ f, cEq tt es neg t x y = .pure f ∧ PureOK P o f := by
  unfold cEq
  split
  · exact ⟨_, rfl, pure_eqTest ho eqTest_k0⟩
  · exact ⟨_, rfl, pure_eqTest ho eqTest_k1⟩
  · rename_i h; exact ⟨_, rfl, pure_eqTest ho (eqTest_k2 (und_ok hT h))⟩
  · rename_i h; exact ⟨_, rfl, pure_eqTest ho (eqTest_P (und_ok hT h))⟩
  · rename_i h; exact ⟨_, rfl, pure_eqTest ho (eqTest_S (und_ok hT h))⟩
  · rename_i h; exact ⟨_, rfl, pure_eqTest ho (eqTest_M (und_ok hT h))⟩
  · rename_i h; exact ⟨_, rfl, pure_eqTest ho (eqTest_F (und_ok hT h))⟩
  · rename_i h; exact ⟨_, rfl, pure_eqTest ho (eqTest_I hT (und_ok hT h))⟩
  · rename_i fs h
    split
    · rename_i ds hd
      cases he : es t with
      | true => exact ⟨_, rfl, pure_eqTest ho (eqTest_A hT (und_ok hT h) hd (hes t he).1 (hes t he).2)⟩
      | false => exact ⟨_, rfl, pure_none⟩
    · exact ⟨_, rfl, pure_none⟩
  · exact ⟨_, rfl, pure_none⟩

end Go.AM
namespace Go.AM

variable {P : Program} {tt : TT} {o : Oper}

theorem bits_run (op : BinOp) (k : IntKind) (m n : Int) (v : AV) (h : bitsI op k m n = some v) : ∃ v', (∀ w, (Op.intBits op k m n).run P w = .ok v' w) ∧ ∀ D μ, VR D μ v v' := by
  unfold bitsI at h
  split at h <;> cases h
  all_goals exact ⟨_, fun w => rfl, fun D μ => .int _ _⟩

theorem pure_cBin (hT : TTok P tt) {es : TypeId → Bool} (hes : ∀ t, es t = true → P.stoodInHeld t = false ∧ P.eqGuardType P.depth t = false) {op : BinOp} {t yt : TypeId} {x y : Operand}
    (ho : o.op = .binOp op t x y yt) : ∃ f, cBin tt es op t x y = .pure f ∧ PureOK P o f := by
  cases op <;> simp only [cBin]
  case add =>
    refine ⟨_, rfl, pure_int2 ho (by simp) (by simp) _ fun k m n v h => ?_⟩
    cases h; rw [wrapF_eq]
    exact ⟨_, fun w => ⟨by rw [binOp_ints _ (by simp) (by simp)]; rfl, fun D μ => .int _ _⟩⟩
  case sub =>
    refine ⟨_, rfl, pure_int2 ho (by simp) (by simp) _ fun k m n v h => ?_⟩
    cases h; rw [wrapF_eq]
    exact ⟨_, fun w => ⟨by rw [binOp_ints _ (by simp) (by simp)]; rfl, fun D μ => .int _ _⟩⟩
  case mul =>
    refine ⟨_, rfl, pure_int2 ho (by simp) (by simp) _ fun k m n v h => ?_⟩
    cases h; rw [wrapF_eq]
    exact ⟨_, fun w => ⟨by rw [binOp_ints _ (by simp) (by simp)]; rfl, fun D μ => .int _ _⟩⟩
  case quo =>
    refine ⟨_, rfl, pure_int2 ho (by simp) (by simp) _ fun k m n v h => ?_⟩
    rw [iEq_eq] at h
    by_cases hn : n = 0
    · simp [hn] at h
    · simp only [hn, decide_false, cond_false] at h
      cases h; rw [wrapF_eq]
      exact ⟨_, fun w => ⟨by rw [binOp_ints _ (by simp) (by simp)]; simp [Op.intDiv, hn], fun D μ => .int _ _⟩⟩
  case rem =>
    refine ⟨_, rfl, pure_int2 ho (by simp) (by simp) _ fun k m n v h => ?_⟩
    rw [iEq_eq] at h
    by_cases hn : n = 0
    · simp [hn] at h
    · simp only [hn, decide_false, cond_false] at h
      cases h
      exact ⟨_, fun w => ⟨by rw [binOp_ints _ (by simp) (by simp)]; simp [Op.intDiv, hn], fun D μ => .int _ _⟩⟩
  case and =>
    refine ⟨_, rfl, pure_int2 ho (by simp) (by simp) _ fun k m n v h => ?_⟩
    obtain ⟨v', h1, h2⟩ := bits_run (P := P) _ k m n v h
    exact ⟨v', fun w => ⟨by rw [binOp_ints _ (by simp) (by simp)]; exact h1 w, h2⟩⟩
  case or =>
    refine ⟨_, rfl, pure_int2 ho (by simp) (by simp) _ fun k m n v h => ?_⟩
    obtain ⟨v', h1, h2⟩ := bits_run (P := P) _ k m n v h
    exact ⟨v', fun w => ⟨by rw [binOp_ints _ (by simp) (by simp)]; exact h1 w, h2⟩⟩
  case xor =>
    refine ⟨_, rfl, pure_int2 ho (by simp) (by simp) _ fun k m n v h => ?_⟩
    obtain ⟨v', h1, h2⟩ := bits_run (P := P) _ k m n v h
    exact ⟨v', fun w => ⟨by rw [binOp_ints _ (by simp) (by simp)]; exact h1 w, h2⟩⟩
  case andNot =>
    refine ⟨_, rfl, pure_int2 ho (by simp) (by simp) _ fun k m n v h => ?_⟩
    obtain ⟨v', h1, h2⟩ := bits_run (P := P) _ k m n v h
    exact ⟨v', fun w => ⟨by rw [binOp_ints _ (by simp) (by simp)]; exact h1 w, h2⟩⟩
  case shl => exact ⟨_, rfl, pure_shl ho⟩
  case shr => exact ⟨_, rfl, pure_shr ho⟩
  case eql => exact pure_cEq hT hes (neg := false) ho
  case neq => exact pure_cEq hT hes (neg := true) ho
  case lss =>
    refine ⟨_, rfl, pure_cmp ho (by simp) (by simp) _ _ (fun k m n w => ?_) (fun m n w => ?_)⟩
    · rw [binOp_ints _ (by simp) (by simp), iLt_eq]; rfl
    · rw [strLess_bytes, ← ByteArray.toList_eq, ← ByteArray.toList_eq]; rfl
  case leq =>
    refine ⟨_, rfl, pure_cmp ho (by simp) (by simp) _ _ (fun k m n w => ?_) (fun m n w => ?_)⟩
    · rw [binOp_ints _ (by simp) (by simp), iLe_eq]; rfl
    · rw [strLess_bytes, strEq_bytes, ← ByteArray.toList_eq, ← ByteArray.toList_eq]; rfl
  case gtr =>
    refine ⟨_, rfl, pure_cmp ho (by simp) (by simp) _ _ (fun k m n w => ?_) (fun m n w => ?_)⟩
    · rw [binOp_ints _ (by simp) (by simp), iLt_eq]; rfl
    · rw [strLess_bytes, strEq_bytes, ← ByteArray.toList_eq, ← ByteArray.toList_eq]; rfl
  case geq =>
    refine ⟨_, rfl, pure_cmp ho (by simp) (by simp) _ _ (fun k m n w => ?_) (fun m n w => ?_)⟩
    · rw [binOp_ints _ (by simp) (by simp), iLe_eq]; rfl
    · rw [strLess_bytes, ← ByteArray.toList_eq, ← ByteArray.toList_eq]; rfl

theorem pure_not {t : TypeId} {x : Operand} (ho : o.op = .unOp .not t x) : PureOK P o (hNot (cOpd x)) := by
  intro D μ a ρ w v hops hf
  have hx := hops x (by simp [ho, Op.operands])
  unfold hNot at hf
  split at hf
  · rename_i b hb
    rw [hb] at hx
    cases hf
    exact ⟨.bool (!b), by simp [execOp, ho, vr_bool hx, Op.unary], .bool _⟩
  · cases hf
theorem pure_neg {t : TypeId} {x : Operand} (ho : o.op = .unOp .neg t x) : PureOK P o (hNeg (cOpd x)) := by
  intro D μ a ρ w v hops hf
  have hx := hops x (by simp [ho, Op.operands])
  unfold hNeg at hf
  split at hf
  · rename_i k n hb
    rw [hb] at hx
    cases hf
    rw [wrapF_eq]
    exact ⟨.int k (k.wrap (0 - n)), by simp [execOp, ho, vr_int hx, Op.unary, Op.intArith], .int _ _⟩
  · cases hf
theorem pure_iface {t : TypeId} {d : TypeDesc} {x : Operand} (ho : o.op = .makeInterface t x) (ht : P.underlying t = some d) (hd : ∀ ms, d ≠ .interface ms) : PureOK P o (hIface t (cOpd x)) := by
  intro D μ a ρ w v hops hf
  have hx := hops x (by simp [ho, Op.operands])
  cases hf
  refine ⟨.iface t (ρ x), ?_, .ifc _ _ _ hx⟩
  simp only [execOp, ho, Instr.makeInterface, Sem.run_bind, r_und ht, Result.andThen_ok]
  cases d <;> first | rfl | exact absurd rfl (hd _)
theorem pure_func {f : FuncId} {first cap : Array Operand} (ho : o.op = .makeFunc (.func f) first cap) (hf0 : first.isEmpty = true) : PureOK P o (hFunc f (cOpds cap.toList)) := by
  intro D μ a ρ w v hops hf
  have h0 : first = #[] := by simpa using hf0
  subst h0
  cases hf
  refine ⟨.func (.func f) #[] (cap.map ρ), by simp [execOp, ho, Instr.makeFunc], .fn _ _ _ ?_⟩
  have := getAll_ok (D := D) (μ := μ) (a := a) (ρ := ρ) (xs := cap.toList) fun x hx => hops x (by simp [ho, Op.operands] at hx ⊢; exact hx)
  simpa using this

theorem pure_convI {t u : TypeId} {k k0 : IntKind} {x : Operand} (ho : o.op = .convert t u x) (ht : P.underlying t = some (.int k0)) (hu : P.underlying u = some (.int k)) : PureOK P o (hConvI k (cOpd x)) := by
  intro D μ a ρ w v hops hf
  have hx := hops x (by simp [ho, Op.operands])
  unfold hConvI at hf
  split at hf
  · rename_i k' n hb
    rw [hb] at hx
    cases hf
    rw [wrapF_eq]
    exact ⟨.int k (k.wrap n), by simp [execOp, ho, vr_int hx, convert, r_und ht, r_und hu, Conv.intToInt], .int _ _⟩
  · cases hf
theorem pure_convS {t u : TypeId} {x : Operand} (ho : o.op = .convert t u x) (ht : P.underlying t = some .string) (hu : P.underlying u = some .string) : PureOK P o (hConvS (cOpd x)) := by
  intro D μ a ρ w v hops hf
  have hx := hops x (by simp [ho, Op.operands])
  unfold hConvS at hf
  split at hf
  · rename_i b hb
    rw [hb] at hx
    cases hf
    obtain ⟨s, e, _⟩ := vr_str hx
    exact ⟨ρ x, by simp [execOp, ho, e, convert, r_und ht, r_und hu], hx⟩
  · cases hf

theorem pure_fieldAddr (hT : TTok P tt) {t : TypeId} {x : Operand} {f n : Nat} {fs : Array Field} {fd : Field} (ho : o.op = .fieldAddr t x f) (ht : P.underlying t = some (.struct fs)) (hf : fs[f]? = some fd)
    (hs : sizeT tt fd.type = some (n + 1)) : PureOK P o (hFieldAddr fd.offset (cOpd x)) := by
  intro D μ a ρ w v hops hv
  have hx := hops x (by simp [ho, Op.operands])
  unfold hFieldAddr at hv
  split at hv
  · rename_i b k hb
    rw [hb] at hx
    cases hv
    obtain ⟨e, hD⟩ := vr_ptr hx
    obtain ⟨i, hi, hz⟩ := size_ok hT hs
    refine ⟨.pointer (some ⟨(μ b).blk, (μ b).sh + (k + fd.offset), none⟩), ?_, .ptr _ _ hD⟩
    simp only [execOp, ho, Instr.fieldAt, Sem.run_bind, r_und ht, Result.andThen_ok, hf, e, Instr.sureAddr, Sem.run_pure, fieldPlace, r_size hi, hz]
    simp [Addr.add]
    by_cases h0 : fd.offset = 0
    · simp [h0]
    · simp [h0, Nat.add_assoc]
  · cases hv

theorem part_one {t : TypeId} {d : TypeDesc} (ht : P.underlying t = some d) (hd : isAggD d = false) {cs : Array Value} {off : Nat} {v' : Value} (h : cs[off]? = some v') (w : World) : (part t cs off).run P w = .ok v' w := by
  simp [part, r_agg ht, hd, h]
theorem part_many {t : TypeId} {d : TypeDesc} {i : TypeInfo} (ht : P.underlying t = some d) (hd : isAggD d = true) (hi : P.info? t = some i) {cs : Array Value} {off : Nat} (w : World) :
    (part t cs off).run P w = .ok (.agg (cs.extract off (off + i.size))) w := by
  simp [part, r_agg ht, hd, r_size hi]
theorem extract_ok {D : Nat → Prop} {μ : Nat → Loc} {cs : List AV} {cs' : Array Value} (h : VRs D μ cs cs'.toList) (off n : Nat) : VRs D μ ((cs.drop off).take n) (cs'.extract off (off + n)).toList := by
  have := (h.drop off).take n
  simpa [Array.toList_extract, List.extract_eq_take_drop] using this

theorem pure_part1 (hT : TTok P tt) {t : TypeId} {x : Operand} {f : Nat} {fs : Array Field} {fd : Field} {d : TypeDesc} (ho : o.op = .field t x f) (ht : P.underlying t = some (.struct fs)) (hf : fs[f]? = some fd)
    (hd : und tt fd.type = some d) (hg : isAggD d = false) : PureOK P o (hPart1 fd.offset (cOpd x)) := by
  intro D μ a ρ w v hops hv
  have hx := hops x (by simp [ho, Op.operands])
  unfold hPart1 at hv
  split at hv
  · rename_i cs hb
    rw [hb] at hx
    obtain ⟨cs', e, hc⟩ := vr_agg hx
    obtain ⟨v', h1, h2⟩ := hc.listAt _ _ hv
    refine ⟨v', ?_, h2⟩
    simp [execOp, ho, Instr.field, r_und ht, hf, e, asAgg, part_one (und_ok hT hd) hg (by simpa using h1)]
  · cases hv
theorem pure_partN (hT : TTok P tt) {t : TypeId} {x : Operand} {f n : Nat} {fs : Array Field} {fd : Field} {d : TypeDesc} (ho : o.op = .field t x f) (ht : P.underlying t = some (.struct fs)) (hf : fs[f]? = some fd)
    (hd : und tt fd.type = some d) (hg : isAggD d = true) (hs : sizeT tt fd.type = some n) : PureOK P o (hPartN fd.offset n (cOpd x)) := by
  intro D μ a ρ w v hops hv
  have hx := hops x (by simp [ho, Op.operands])
  unfold hPartN at hv
  split at hv
  · rename_i cs hb
    rw [hb] at hx
    obtain ⟨cs', e, hc⟩ := vr_agg hx
    obtain ⟨i, hi, hz⟩ := size_ok hT hs
    cases hle : Nat.ble (fd.offset + n) cs.length with
    | false => rw [hle] at hv; cases hv
    | true =>
      rw [hle, cond_true] at hv
      cases hv
      refine ⟨_, ?_, .agg _ _ (extract_ok hc fd.offset n)⟩
      simp [execOp, ho, Instr.field, r_und ht, hf, e, asAgg, part_many (und_ok hT hd) hg hi, hz]
  · cases hv

theorem index_ok {D : Nat → Prop} {μ : Nat → Loc} {u : AV} {u' : Value} {j : Nat} (h : VR D μ u u') (hj : index? u = some j) : ∃ k, u' = .int k (Int.ofNat j) := by
  unfold index? at hj
  split at hj <;> cases hj
  exact ⟨_, vr_int h⟩

theorem pure_idxArr (hT : TTok P tt) {t e : TypeId} {x i : Operand} {n sz : Nat} (ho : o.op = .indexAddr t x i) (ht : P.underlying t = some (.array n e)) (hs : sizeT tt e = some sz) : PureOK P o (hIdxArr n sz (cOpd x) (cOpd i)) := by
  intro D μ a ρ w v hops hv
  have hx := hops x (by simp [ho, Op.operands])
  have hi := hops i (by simp [ho, Op.operands])
  unfold hIdxArr at hv
  split at hv
  · rename_i b k hb
    rw [hb] at hx
    split at hv
    · rename_i j hj
      obtain ⟨kd, ej⟩ := index_ok hi hj
      cases hle : Nat.ble (Nat.succ j) n with
      | false => rw [hle] at hv; cases hv
      | true =>
        rw [hle, cond_true] at hv
        cases hv
        have hlt : j < n := Nat.le_of_ble_eq_true hle
        obtain ⟨ex, hD⟩ := vr_ptr hx
        obtain ⟨inf, hinf, hz⟩ := size_ok hT hs
        refine ⟨.pointer (some ⟨(μ b).blk, (μ b).sh + (k + j * sz), none⟩), ?_, .ptr _ _ hD⟩
        simp only [execOp, ho, Instr.indexAt, ej, ex, asIntOf, Sem.run_bind, Sem.run_pure, Result.andThen_ok, r_und ht, Instr.sureAddr]
        have h1 : (0 : Int) ≤ Int.ofNat j ∧ Int.ofNat j < (n : Int) := ⟨by simp, by simpa using hlt⟩
        simp only [if_pos h1, Sem.run_bind, r_size hinf, hz, Result.andThen_ok, Sem.run_pure]
        simp [Addr.add]
        by_cases h0 : j * sz = 0
        · rw [if_pos h0, h0]; rfl
        · rw [if_neg h0]; simp [Nat.add_assoc]
    · cases hv
  · cases hv
theorem pure_idxSl (hT : TTok P tt) {t e : TypeId} {x i : Operand} {sz : Nat} (ho : o.op = .indexAddr t x i) (ht : P.underlying t = some (.slice e)) (hs : sizeT tt e = some sz) : PureOK P o (hIdxSl sz (cOpd x) (cOpd i)) := by
  intro D μ a ρ w v hops hv
  have hx := hops x (by simp [ho, Op.operands])
  have hi := hops i (by simp [ho, Op.operands])
  unfold hIdxSl at hv
  split at hv
  · rename_i b k n c tl hb
    rw [hb] at hx
    split at hv
    · rename_i j hj
      obtain ⟨kd, ej⟩ := index_ok hi hj
      cases hle : Nat.ble (Nat.succ j) n with
      | false => rw [hle] at hv; cases hv
      | true =>
        rw [hle, cond_true] at hv
        cases hv
        have hlt : j < n := Nat.le_of_ble_eq_true hle
        obtain ⟨c', ex, hD, _⟩ := vr_sl hx
        obtain ⟨inf, hinf, hz⟩ := size_ok hT hs
        refine ⟨.pointer (some ⟨(μ b).blk, (μ b).sh + (k + j * sz), none⟩), ?_, .ptr _ _ hD⟩
        simp only [execOp, ho, Instr.indexAt, ej, ex, asIntOf, Sem.run_bind, Sem.run_pure, Result.andThen_ok, r_und ht]
        have h1 : (0 : Int) ≤ Int.ofNat j ∧ Int.ofNat j < (n : Int) := ⟨by simp, by simpa using hlt⟩
        simp only [if_pos h1, Sem.run_bind, r_size hinf, hz, Result.andThen_ok, Sem.run_pure]
        simp [Addr.add]
        by_cases h0 : j * sz = 0
        · rw [if_pos h0, h0]; rfl
        · rw [if_neg h0]; simp [Nat.add_assoc]
    · cases hv
  · cases hv

theorem natAt_eq : ∀ (l : List Nat) (n : Nat), natAt l n = l[n]?
  | [], n => by simp [natAt]
  | v :: l, 0 => by simp [natAt]
  | v :: l, n + 1 => by simp [natAt, natAt_eq l n]
theorem listAt_eq : ∀ (l : List AV) (n : Nat), listAt l n = l[n]?
  | [], n => by simp [listAt]
  | v :: l, 0 => by simp [listAt]
  | v :: l, n + 1 => by simp [listAt, listAt_eq l n]

theorem pure_idxStr {t : TypeId} {x i : Operand} (ho : o.op = .index t x i) (ht : P.underlying t = some .string) : PureOK P o (hIdxStr (cOpd x) (cOpd i)) := by
  intro D μ a ρ w v hops hv
  have hx := hops x (by simp [ho, Op.operands])
  have hi := hops i (by simp [ho, Op.operands])
  unfold hIdxStr at hv
  split at hv
  · rename_i l hb
    rw [hb] at hx
    obtain ⟨s, es, el⟩ := vr_str hx
    split at hv
    · rename_i j hj
      obtain ⟨kd, ej⟩ := index_ok hi hj
      split at hv
      · rename_i c hc
        cases hv
        rw [natAt_eq, ← el] at hc
        simp only [List.getElem?_map, Option.map_eq_some_iff] at hc
        obtain ⟨bt, hbt, hcc⟩ := hc
        have hget : s[(Int.ofNat j).toNat]? = some bt := by
          show s[j]? = some bt
          have hlt : j < s.data.toList.length := (List.getElem?_eq_some_iff.1 hbt).1
          have hlt' : j < s.size := by simpa using hlt
          have he : s.data.toList[j] = bt := (List.getElem?_eq_some_iff.1 hbt).2
          rw [getElem?_pos s j hlt']
          exact congrArg some he
        refine ⟨.int .u8 (bt.toNat : Int), ?_, by rw [← hcc]; exact .int _ _⟩
        simp only [execOp, ho, Instr.index, ej, es, asIntOf, Sem.run_bind, Sem.run_pure, Result.andThen_ok, r_und ht]
        have h0 : (0 : Int) ≤ Int.ofNat j := by simp
        simp only [if_pos h0, hget]
        rfl
      · cases hv
    · cases hv
  · cases hv
theorem pure_idxAgg (hT : TTok P tt) {t e : TypeId} {x i : Operand} {n sz : Nat} {d : TypeDesc} (ho : o.op = .index t x i) (ht : P.underlying t = some (.array n e)) (hd : und tt e = some d) (hg : isAggD d = false)
    (hs : sizeT tt e = some sz) : PureOK P o (hIdxAgg n sz (cOpd x) (cOpd i)) := by
  intro D μ a ρ w v hops hv
  have hx := hops x (by simp [ho, Op.operands])
  have hi := hops i (by simp [ho, Op.operands])
  unfold hIdxAgg at hv
  split at hv
  · rename_i cs hb
    rw [hb] at hx
    obtain ⟨cs', ec, hc⟩ := vr_agg hx
    split at hv
    · rename_i j hj
      obtain ⟨kd, ej⟩ := index_ok hi hj
      cases hle : Nat.ble (Nat.succ j) n with
      | false => rw [hle] at hv; cases hv
      | true =>
        rw [hle, cond_true] at hv
        have hlt : j < n := Nat.le_of_ble_eq_true hle
        obtain ⟨inf, hinf, hz⟩ := size_ok hT hs
        obtain ⟨v', h1, h2⟩ := hc.listAt _ _ hv
        refine ⟨v', ?_, h2⟩
        simp only [execOp, ho, Instr.index, ej, ec, asIntOf, Sem.run_bind, Sem.run_pure, Result.andThen_ok, r_und ht]
        have h3 : (0 : Int) ≤ Int.ofNat j ∧ Int.ofNat j < (n : Int) := ⟨by simp, by simpa using hlt⟩
        simp only [if_pos h3, Sem.run_bind, r_size hinf, hz, Result.andThen_ok]
        rw [part_one (und_ok hT hd) hg (v' := v') (by simpa using h1)]
        rfl
    · cases hv
  · cases hv
theorem pure_idxAggN (hT : TTok P tt) {t e : TypeId} {x i : Operand} {n sz : Nat} {d : TypeDesc} (ho : o.op = .index t x i) (ht : P.underlying t = some (.array n e)) (hd : und tt e = some d) (hg : isAggD d = true)
    (hs : sizeT tt e = some sz) : PureOK P o (hIdxAggN n sz (cOpd x) (cOpd i)) := by
  intro D μ a ρ w v hops hv
  have hx := hops x (by simp [ho, Op.operands])
  have hi := hops i (by simp [ho, Op.operands])
  unfold hIdxAggN at hv
  split at hv
  · rename_i cs hb
    rw [hb] at hx
    obtain ⟨cs', ec, hc⟩ := vr_agg hx
    split at hv
    · rename_i j hj
      obtain ⟨kd, ej⟩ := index_ok hi hj
      cases hle : (Nat.ble (Nat.succ j) n && Nat.ble (j * sz + sz) cs.length) with
      | false => rw [hle] at hv; cases hv
      | true =>
        rw [hle, cond_true] at hv
        cases hv
        have hlt : j < n := Nat.le_of_ble_eq_true (Bool.and_eq_true_iff.1 hle).1
        obtain ⟨inf, hinf, hz⟩ := size_ok hT hs
        refine ⟨_, ?_, .agg _ _ (extract_ok hc (j * sz) sz)⟩
        simp only [execOp, ho, Instr.index, ej, ec, asIntOf, Sem.run_bind, Sem.run_pure, Result.andThen_ok, r_und ht]
        have h3 : (0 : Int) ≤ Int.ofNat j ∧ Int.ofNat j < (n : Int) := ⟨by simp, by simpa using hlt⟩
        simp only [if_pos h3, Sem.run_bind, r_size hinf, hz, Result.andThen_ok]
        rw [part_many (und_ok hT hd) hg hinf, hz]
        rfl
    · cases hv
  · cases hv

theorem pure_assert (hT : TTok P tt) {x : Operand} {t xt : TypeId} {d : TypeDesc} {z : AV} (ho : o.op = .typeAssert x xt t true) (ht : P.underlying t = some d) (hd : ∀ ms, d ≠ .interface ms) (hz : zero tt t = some z) : PureOK P o (hAssert z t (cOpd x)) := by
  intro D μ a ρ w v hops hv
  have hx := hops x (by simp [ho, Op.operands])
  obtain ⟨i, zv, hi, hzv, hza⟩ := zero_ok hT hz
  unfold hAssert at hv
  split at hv
  · rename_i hb
    rw [hb] at hx
    cases hv
    refine ⟨.tuple #[zv, .bool false], ?_, .tup _ _ (.cons _ _ _ _ (absV_ok hza) (.cons _ _ _ _ (.bool _) .nil))⟩
    simp only [execOp, ho, Instr.typeAssert, vr_nili hx, Sem.run_bind, r_und ht, Result.andThen_ok]
    cases d <;> first | exact absurd rfl (hd _) | simp [r_zero hi hzv]
  · rename_i u q hb
    rw [hb] at hx
    obtain ⟨q', e, hq⟩ := vr_ifc hx
    cases hut : Nat.beq u t with
    | true =>
      rw [hut, cond_true] at hv
      cases hv
      have := Nat.eq_of_beq_eq_true hut
      subst this
      refine ⟨.tuple #[q', .bool true], ?_, .tup _ _ (.cons _ _ _ _ hq (.cons _ _ _ _ (.bool _) .nil))⟩
      simp only [execOp, ho, Instr.typeAssert, e, Sem.run_bind, r_und ht, Result.andThen_ok]
      cases d <;> first | exact absurd rfl (hd _) | simp
    | false =>
      rw [hut, cond_false] at hv
      cases hv
      have hne := Nat.ne_of_beq_eq_false hut
      refine ⟨.tuple #[zv, .bool false], ?_, .tup _ _ (.cons _ _ _ _ (absV_ok hza) (.cons _ _ _ _ (.bool _) .nil))⟩
      simp only [execOp, ho, Instr.typeAssert, e, Sem.run_bind, r_und ht, Result.andThen_ok]
      cases d <;> first | exact absurd rfl (hd _) | simp [r_zero hi hzv, hne]
  · cases hv
theorem pure_extract {x : Operand} {i : Nat} (ho : o.op = .extract x i) : PureOK P o (hExtract (cOpd x) i) := by
  intro D μ a ρ w v hops hv
  have hx := hops x (by simp [ho, Op.operands])
  unfold hExtract at hv
  split at hv
  · rename_i vs hb
    rw [hb] at hx
    obtain ⟨vs', e, hc⟩ := vr_tup hx
    obtain ⟨v', h1, h2⟩ := hc.listAt _ _ hv
    exact ⟨v', by simp [execOp, ho, Instr.extract, e, show vs'[i]? = some v' by simpa using h1], h2⟩
  · cases hv

end Go.AM
namespace Go.AM

variable {P : Program} {tt : TT} {o : Oper}

theorem foldl_zip (off : Nat) : ∀ (vs : List Value) (j : Nat) (cells : Array Value), off + j + vs.length ≤ cells.size →
    ((vs.zipIdx j).foldl (fun cs (c, j) => cs.setIfInBounds (off + j) c) cells).toList = cells.toList.take (off + j) ++ (vs ++ cells.toList.drop (off + j + vs.length)) := by
  intro vs
  induction vs with
  | nil => intro j cells h; simp
  | cons v vs ih =>
    intro j cells h
    simp only [List.length_cons] at h
    simp only [List.zipIdx_cons, List.foldl_cons]
    rw [ih (j + 1) _ (by simp; omega)]
    have e : off + (j + 1) = off + j + 1 := by omega
    rw [e]
    have hlt : off + j < cells.toList.length := by simp; omega
    simp only [Array.toList_setIfInBounds]
    rw [List.take_add_one, List.take_set_of_le (by omega), List.drop_set_of_lt (by omega)]
    have h3 : off + j + 1 + vs.length = off + j + (v :: vs).length := by simp; omega
    rw [h3, List.getElem?_set_self hlt]
    simp

theorem fill_ok {D : Nat → Prop} {μ : Nat → Loc} (place : Nat → Option (Nat × Nat)) {a : Tm} {ρ : Operand → Value} : ∀ (ps : List (Nat × Operand)) (q : Parts) (z r : List AV) (zc : Array Value),
    cParts place ps = some q → OpsR D μ a ρ (ps.map (·.2)) → fill (partsV a q) z = some r → VRs D μ z zc.toList →
      ∃ rc, Instr.fill place zc (ps.map fun p => (p.1, ρ p.2)) = some rc ∧ VRs D μ r rc.toList := by
  intro ps
  induction ps with
  | nil =>
    intro q z r zc hq _ hf hz
    simp only [cParts] at hq
    cases hq
    simp only [partsV, fill] at hf
    cases hf
    exact ⟨zc, rfl, hz⟩
  | cons p ps ih =>
    intro q z r zc hq hops hf hz
    obtain ⟨i, x⟩ := p
    simp only [cParts] at hq
    cases hp : place i with
    | none => simp [hp] at hq
    | some on =>
      obtain ⟨off, n⟩ := on
      cases hr : cParts place ps with
      | none => simp [hp, hr] at hq
      | some q' =>
        simp only [hp, hr, Option.some.injEq] at hq
        subst hq
        simp only [partsV, fill] at hf
        have hx := hops x (by simp)
        cases hc : (Nat.beq ((cOpd x).get a).cells.length n && Nat.ble (off + n) z.length) with
        | false => rw [hc] at hf; cases hf
        | true =>
          rw [hc, cond_true] at hf
          simp only [Bool.and_eq_true] at hc
          have h1 := Nat.eq_of_beq_eq_true hc.1
          have h2 := Nat.le_of_ble_eq_true hc.2
          have hxc := hx.cells
          have hl := hxc.length
          have hzl := hz.length
          have hn : (ρ x).cells.size = n := by simpa [h1] using hl.symm
          have hzs : zc.size = z.length := by simpa using hzl.symm
          simp only [List.map_cons, Instr.fill, hp]
          rw [if_neg (by simp [hn, hzs]; omega)]
          refine ih q' _ r _ hr (fun y hy => hops y (by simp at hy ⊢; exact .inr hy)) hf ?_
          have hfold : ((ρ x).cells.zipIdx.foldl (fun cs (c, j) => cs.setIfInBounds (off + j) c) zc).toList = zc.toList.take off ++ ((ρ x).cells.toList ++ zc.toList.drop (off + n)) := by
            rw [← Array.foldl_toList, Array.toList_zipIdx]
            have := foldl_zip off (ρ x).cells.toList 0 zc (by simp [hn]; omega)
            simpa [hn] using this
          rw [hfold]
          exact (hz.take off).append (hxc.append (hz.drop (off + n)))

theorem places_ok (hT : TTok P tt) : ∀ (fs : List Field) (pl : List (Nat × Nat)), cPlaces tt fs = some pl → fs.mapM (fun f => (P.info? f.type).map fun i => (f.offset, i.size)) = some pl
  | [], pl, h => by simp only [cPlaces] at h; cases h; rfl
  | f :: fs, pl, h => by
    simp only [cPlaces] at h
    cases hs : sizeT tt f.type with
    | none => simp [hs] at h
    | some n =>
      cases hr : cPlaces tt fs with
      | none => simp [hs, hr] at h
      | some l =>
        simp only [hs, hr, Option.some.injEq] at h
        subst h
        obtain ⟨i, hi, hz⟩ := size_ok hT hs
        simp [List.mapM_cons, hi, hz, places_ok hT fs l hr]
theorem placeAt_eq : ∀ (l : List (Nat × Nat)) (n : Nat), placeAt l n = l[n]?
  | [], n => by simp [placeAt]
  | v :: l, 0 => by simp [placeAt]
  | v :: l, n + 1 => by simp [placeAt, placeAt_eq l n]

theorem pure_cBuild (hT : TTok P tt) {t : TypeId} {ps : Array (Nat × Operand)} (ho : o.op = .build t ps) : ∃ f, cBuild tt t ps.toList = .pure f ∧ PureOK P o f := by
  have main : ∀ (place : Nat → Option (Nat × Nat)) (q : Parts) (z : AV) (zv : Value), cParts place ps.toList = some q → absV zv = some z →
      (∀ parts rc, Instr.fill place zv.cells parts = some rc → P.built t parts = some rc) → PureOK P o (hBuild z.cells q) := by
    intro place q z zv hq hz hb D μ a ρ w v hops hv
    unfold hBuild at hv
    split at hv
    · rename_i r hr
      cases hv
      have hops' : OpsR D μ a ρ (ps.toList.map (·.2)) := fun x hx => hops x (by simpa [ho, Op.operands] using hx)
      obtain ⟨rc, h1, h2⟩ := fill_ok place ps.toList q z.cells r zv.cells hq hops' hr (absV_ok hz).cells
      refine ⟨.agg rc, ?_, .agg _ _ h2⟩
      have h3 := hb _ _ h1
      have h4 := run_build w t (ps.map fun (i, x) => (i, ρ x)) rc (by simpa using h3)
      simp only [execOp, ho, Sem.run_bind, h4]
      rfl
    · cases hv
  unfold cBuild
  split
  · rename_i z hz
    obtain ⟨i, zv, hi, hzv, hza⟩ := zero_ok hT hz
    split
    · rename_i fs hu
      have hun := und_ok hT hu
      split
      · rename_i pl hpl
        have hplace := places_ok hT _ _ hpl
        split
        · rename_i q hq
          refine ⟨_, rfl, main (placeAt pl) q z zv hq hza fun parts rc hr => ?_⟩
          have : (placeAt pl) = fun n => (pl.toArray[n]?) := by funext n; simp [placeAt_eq]
          simp only [Program.built, hi, hun, hzv, hplace]
          rw [← this]; exact hr
        · exact ⟨_, rfl, pure_none⟩
      · exact ⟨_, rfl, pure_none⟩
    · rename_i n e hu
      have hun := und_ok hT hu
      split
      · rename_i sz hsz
        obtain ⟨ie, hie, hze⟩ := size_ok hT hsz
        split
        · rename_i q hq
          refine ⟨_, rfl, main _ q z zv hq hza fun parts rc hr => ?_⟩
          simp only [Program.built, hi, hun, hzv, hie, hze]
          exact hr
        · exact ⟨_, rfl, pure_none⟩
      · exact ⟨_, rfl, pure_none⟩
    · exact ⟨_, rfl, pure_none⟩
  · exact ⟨_, rfl, pure_none⟩

/-! lengths -/
theorem lenOf_ok {D : Nat → Prop} {μ : Nat → Loc} {u : AV} {u' : Value} {n : Nat} (h : VR D μ u u') (hn : lenOf u = some n) : (∃ s : ByteArray, u' = .string s ∧ s.size = n) ∨ (∃ a c, u' = .slice a n c) := by
  unfold lenOf at hn
  split at hn <;> cases hn
  · obtain ⟨s, e, hl⟩ := vr_str h
    exact .inl ⟨s, e, by rw [← hl]; simp⟩
  · exact .inr ⟨_, _, vr_nils h⟩
  · obtain ⟨a, c, e⟩ := vr_sle h; exact .inr ⟨_, _, e⟩
  · obtain ⟨c, e, _⟩ := vr_sl h; exact .inr ⟨_, _, e⟩

theorem call_builtin {c : Go.Call} {b : Builtin} (ho : o.op = .call c) (hc : c.callee = .builtin b) (ρ : Operand → Value) :
    execOp ρ o = builtin b c.argTypes o.type (c.args.map fun | .const _ => true | _ => false) (c.args.map ρ) := by
  simp [execOp, ho, resolve, hc, invoke]
  rfl

/-- a built-in function that only reckons -/
theorem pure_builtin {c : Go.Call} {b : Builtin} {f : Tm → Option AV} (ho : o.op = .call c) (hc : c.callee = .builtin b)
    (h : ∀ (D : Nat → Prop) (μ : Nat → Loc) (a : Tm) (ρ : Operand → Value) (w : World) (v : AV) (cs : Array Bool), OpsR D μ a ρ c.args.toList → f a = some v → ∃ v', (builtin b c.argTypes o.type cs (c.args.map ρ)).run P w = .ok (.value v') w ∧ VR D μ v v') :
    PureOK P o f := by
  intro D μ a ρ w v hops hf
  obtain ⟨v', h1, h2⟩ := h D μ a ρ w v _ (fun x hx => hops x (by simp [ho, Op.operands, Call.operands, hc] at hx ⊢; exact hx)) hf
  exact ⟨v', by rw [call_builtin ho hc]; exact h1, h2⟩

theorem args1 {c : Go.Call} {x : Operand} (h : c.args.toList = [x]) : c.args = #[x] := by apply Array.ext'; simpa using h
theorem pure_lenStr {c : Go.Call} {t : TypeId} {x : Operand} (ho : o.op = .call c) (hc : c.callee = .builtin .len) (hx : c.args.toList = [x]) (ht : c.argTypes[0]? = some t) (hd : P.underlying t = some .string) : PureOK P o (hLenStr (cOpd x)) := by
  refine pure_builtin ho hc fun D μ a ρ w v cs hops hv => ?_
  have hxr := hops x (by rw [hx]; simp)
  unfold hLenStr at hv
  split at hv
  · rename_i l hl
    cases hv
    rw [hl] at hxr
    obtain ⟨s, e, hs⟩ := vr_str hxr
    refine ⟨.int .i64 (Int.ofNat l.length), ?_, .int _ _⟩
    have : s.size = l.length := by rw [← hs]; simp
    simp [builtin, Builtin.len_, args1 hx, ht, e, r_und hd, goInt, this]
  · cases hv
theorem pure_lenSl {c : Go.Call} {t e : TypeId} {x : Operand} (ho : o.op = .call c) (hc : c.callee = .builtin .len) (hx : c.args.toList = [x]) (ht : c.argTypes[0]? = some t) (hd : P.underlying t = some (.slice e)) : PureOK P o (hLenSl (cOpd x)) := by
  refine pure_builtin ho hc fun D μ a ρ w v cs hops hv => ?_
  have hxr := hops x (by rw [hx]; simp)
  unfold hLenSl at hv
  split at hv <;> cases hv
  · rename_i hl
    rw [hl] at hxr
    exact ⟨.int .i64 (Int.ofNat 0), by simp [builtin, Builtin.len_, args1 hx, ht, vr_nils hxr, r_und hd, goInt], .int _ _⟩
  · rename_i hl
    rw [hl] at hxr
    obtain ⟨aa, cc, e⟩ := vr_sle hxr
    exact ⟨.int .i64 (Int.ofNat 0), by simp [builtin, Builtin.len_, args1 hx, ht, e, r_und hd, goInt], .int _ _⟩
  · rename_i b k n cp tl hl
    rw [hl] at hxr
    obtain ⟨cc, e, _⟩ := vr_sl hxr
    exact ⟨.int .i64 (Int.ofNat n), by simp [builtin, Builtin.len_, args1 hx, ht, e, r_und hd, goInt], .int _ _⟩
theorem pure_cap {c : Go.Call} {t e : TypeId} {x : Operand} (ho : o.op = .call c) (hc : c.callee = .builtin .cap) (hx : c.args.toList = [x]) (ht : c.argTypes[0]? = some t) (hd : P.underlying t = some (.slice e)) : PureOK P o (hCap (cOpd x)) := by
  refine pure_builtin ho hc fun D μ a ρ w v cs hops hv => ?_
  have hxr := hops x (by rw [hx]; simp)
  unfold hCap at hv
  split at hv <;> cases hv
  · rename_i hl
    rw [hl] at hxr
    exact ⟨.int .i64 (Int.ofNat 0), by simp [builtin, Builtin.cap_, args1 hx, ht, vr_nils hxr, r_und hd, goInt], .int _ _⟩
  · rename_i b k n cp hl
    rw [hl] at hxr
    obtain ⟨e, _⟩ := vr_slx hxr
    exact ⟨.int .i64 (Int.ofNat cp), by simp [builtin, Builtin.cap_, args1 hx, ht, e, r_und hd, goInt], .int _ _⟩

theorem maxA_run {D : Nat → Prop} {μ : Nat → Loc} (k : IntKind) : ∀ (r : List AV) (r' : List Value) (m : Int) (v : AV), VRs D μ r r' → maxA k m r = some v →
    ∃ n, v = .int k n ∧ ∀ w, (r'.foldlM Builtin.max2 (.int k m)).run P w = .ok (.int k n) w := by
  intro r
  induction r with
  | nil => intro r' m v h hv; cases h; simp only [maxA] at hv; cases hv; exact ⟨m, rfl, fun w => rfl⟩
  | cons x r ih =>
    intro r' m v h hv
    cases h with
    | cons _ x' _ r' hx hr =>
      cases x <;> simp only [maxA] at hv <;> (try (cases hv; done))
      rename_i k' n
      cases hk : kEq k k' with
      | false => rw [hk] at hv; cases hv
      | true =>
        rw [hk, cond_true] at hv
        obtain ⟨q, h1, h2⟩ := ih r' _ v hr hv
        refine ⟨q, h1, fun w => ?_⟩
        rw [vr_int hx, List.foldlM_cons]
        simp only [Builtin.max2, Sem.run_bind, Sem.run_pure, Result.andThen_ok]
        rw [iLt_eq] at h2
        have : (if n > m then n else m) = (bif decide (m < n) then n else m) := by by_cases hh : m < n <;> simp [hh]
        rw [this]; exact h2 w
theorem minA_run {D : Nat → Prop} {μ : Nat → Loc} (k : IntKind) : ∀ (r : List AV) (r' : List Value) (m : Int) (v : AV), VRs D μ r r' → minA k m r = some v →
    ∃ n, v = .int k n ∧ ∀ w, (r'.foldlM Builtin.min2 (.int k m)).run P w = .ok (.int k n) w := by
  intro r
  induction r with
  | nil => intro r' m v h hv; cases h; simp only [minA] at hv; cases hv; exact ⟨m, rfl, fun w => rfl⟩
  | cons x r ih =>
    intro r' m v h hv
    cases h with
    | cons _ x' _ r' hx hr =>
      cases x <;> simp only [minA] at hv <;> (try (cases hv; done))
      rename_i k' n
      cases hk : kEq k k' with
      | false => rw [hk] at hv; cases hv
      | true =>
        rw [hk, cond_true] at hv
        obtain ⟨q, h1, h2⟩ := ih r' _ v hr hv
        refine ⟨q, h1, fun w => ?_⟩
        rw [vr_int hx, List.foldlM_cons]
        simp only [Builtin.min2, Sem.run_bind, Sem.run_pure, Result.andThen_ok]
        rw [iLt_eq] at h2
        have : (if n < m then n else m) = (bif decide (n < m) then n else m) := by by_cases hh : n < m <;> simp [hh]
        rw [this]; exact h2 w
theorem pure_max {c : Go.Call} (ho : o.op = .call c) (hc : c.callee = .builtin .max) : PureOK P o (hMax (cOpds c.args.toList)) := by
  refine pure_builtin ho hc fun D μ a ρ w v cs hops hv => ?_
  have hall := getAll_ok hops
  unfold hMax at hv
  split at hv
  · rename_i k m r hr
    rw [hr] at hall
    cases hl : c.args.toList.map ρ with
    | nil => rw [hl] at hall; cases hall
    | cons x' r' =>
      rw [hl] at hall
      cases hall with
      | cons _ _ _ _ hx hr' =>
        obtain ⟨q, h1, h2⟩ := maxA_run (P := P) k r r' m v hr' hv
        refine ⟨.int k q, ?_, by rw [h1]; exact .int _ _⟩
        have hl' : (c.args.map ρ).toList = x' :: r' := by simpa using hl
        simp only [builtin, Builtin.max_, hl', vr_int hx, Sem.run_bind, h2 w]
        rfl
  · cases hv
theorem pure_min {c : Go.Call} (ho : o.op = .call c) (hc : c.callee = .builtin .min) : PureOK P o (hMin (cOpds c.args.toList)) := by
  refine pure_builtin ho hc fun D μ a ρ w v cs hops hv => ?_
  have hall := getAll_ok hops
  unfold hMin at hv
  split at hv
  · rename_i k m r hr
    rw [hr] at hall
    cases hl : c.args.toList.map ρ with
    | nil => rw [hl] at hall; cases hall
    | cons x' r' =>
      rw [hl] at hall
      cases hall with
      | cons _ _ _ _ hx hr' =>
        obtain ⟨q, h1, h2⟩ := minA_run (P := P) k r r' m v hr' hv
        refine ⟨.int k q, ?_, by rw [h1]; exact .int _ _⟩
        have hl' : (c.args.map ρ).toList = x' :: r' := by simpa using hl
        simp only [builtin, Builtin.min_, hl', vr_int hx, Sem.run_bind, h2 w]
        rfl
  · cases hv

/-! cuts -/
/-- a bound that is given, or not -/
def OptR (o : Option Value) (d n : Nat) : Prop := (o = none ∧ n = d) ∨ ∃ k, o = some (.int k (Int.ofNat n))
theorem optN_ok {D : Nat → Prop} {μ : Nat → Loc} {a : Tm} {ρ : Operand → Value} {x : Option Operand} {d n : Nat} (hx : ∀ y, x = some y → VR D μ ((cOpd y).get a) (ρ y)) (h : optN a (cOpt x) d = some n) : OptR (x.map ρ) d n := by
  cases x with
  | none => simp only [cOpt, optN] at h; cases h; exact .inl ⟨rfl, rfl⟩
  | some y =>
    simp only [cOpt, optN] at h
    obtain ⟨k, e⟩ := index_ok (hx y rfl) h
    exact .inr ⟨k, by simp [e]⟩
theorem bound_run {k : IntKind} {n y : Nat} {code : BoundsCode} (h : n ≤ y) (w : World) : (Instr.sliceBound (.int k (Int.ofNat n)) y code).run P w = .ok n w := by
  have : (0 : Int) ≤ Int.ofNat n ∧ Int.ofNat n ≤ (y : Int) := ⟨by simp, by simpa using h⟩
  simp only [Instr.sliceBound, asIntOf, Sem.run_bind, Sem.run_pure, Result.andThen_ok, if_pos this]
  rfl
theorem bound_run' {k : IntKind} {n y : Nat} {code : BoundsCode} (h : n ≤ y) (w : World) : (Instr.sliceBound (.int k (n : Int)) y code).run P w = .ok n w := bound_run h w
theorem bounds_run {isS : Bool} {len cap l h m : Nat} {lo hi mx : Option Value} (hlo : OptR lo 0 l) (hhi : OptR hi len h) (hmx : OptR mx cap m) (hm : mx = none ∨ hi.isSome = true) (h1 : l ≤ h) (h2 : h ≤ m) (h3 : m ≤ cap) (w : World) :
    (Instr.sliceBounds isS len cap lo hi mx).run P w = .ok (l, h, m) w := by
  unfold Instr.sliceBounds
  rcases hmx with ⟨rfl, rfl⟩ | ⟨km, rfl⟩
  · rcases hhi with ⟨rfl, rfl⟩ | ⟨kh, rfl⟩
    · rcases hlo with ⟨rfl, rfl⟩ | ⟨kl, rfl⟩
      · simp
      · simp [bound_run' h1]
    · rcases hlo with ⟨rfl, rfl⟩ | ⟨kl, rfl⟩
      · simp [bound_run' h2]
      · simp [bound_run' h1, bound_run' h2]
  · rcases hhi with ⟨rfl, rfl⟩ | ⟨kh, rfl⟩
    · rcases hm with hm | hm <;> cases hm
    · rcases hlo with ⟨rfl, rfl⟩ | ⟨kl, rfl⟩
      · simp [bound_run' h2, bound_run' h3]
      · simp [bound_run' h1, bound_run' h2, bound_run' h3]

theorem slice_ops {t : TypeId} {x : Operand} {lo hi mx : Option Operand} (ho : o.op = .slice t x lo hi mx) {D : Nat → Prop} {μ : Nat → Loc} {a : Tm} {ρ : Operand → Value} (hops : OpsR D μ a ρ o.op.operands.toList) :
    VR D μ ((cOpd x).get a) (ρ x) ∧ (∀ y, lo = some y → VR D μ ((cOpd y).get a) (ρ y)) ∧ (∀ y, hi = some y → VR D μ ((cOpd y).get a) (ρ y)) ∧ (∀ y, mx = some y → VR D μ ((cOpd y).get a) (ρ y)) := by
  refine ⟨hops x (by simp [ho, Op.operands]), fun y hy => hops y ?_, fun y hy => hops y ?_, fun y hy => hops y ?_⟩ <;> subst hy <;> simp [ho, Op.operands]

theorem pure_sliceStr {t : TypeId} {x : Operand} {lo hi : Option Operand} (ho : o.op = .slice t x lo hi none) (ht : P.underlying t = some .string) : PureOK P o (hSliceStr (cOpd x) (cOpt lo) (cOpt hi)) := by
  intro D μ a ρ w v hops hv
  obtain ⟨hx, hlo, hhi, _⟩ := slice_ops ho hops
  unfold hSliceStr at hv
  split at hv
  · rename_i l0 hl0
    rw [hl0] at hx
    obtain ⟨s, es, hs⟩ := vr_str hx
    have hsz : s.size = l0.length := by rw [← hs]; simp
    split at hv
    · rename_i l h hl hh
      cases hc : (Nat.ble l h && Nat.ble h l0.length) with
      | false => rw [hc] at hv; cases hv
      | true =>
        rw [hc, cond_true] at hv
        cases hv
        simp only [Bool.and_eq_true] at hc
        have h1 := Nat.le_of_ble_eq_true hc.1
        have h2 := Nat.le_of_ble_eq_true hc.2
        refine ⟨.string (s.extract l h), ?_, .str _ _ ?_⟩
        · have hb := bounds_run (P := P) (isS := false) (optN_ok hlo hl) (optN_ok hhi hh) (.inl ⟨rfl, rfl⟩ : OptR none l0.length l0.length) (.inl rfl) h1 h2 (Nat.le_refl _) w
          simp only [execOp, ho, Instr.sliceAt, es, Sem.run_bind, r_und ht, Result.andThen_ok, Instr.slice, Option.map_none, Option.isSome_none, Bool.false_eq_true, if_false, hsz, hb]
          simp
        · rw [← hs]
          simp [ByteArray.data_extract, Array.toList_extract, List.extract_eq_take_drop]
    · cases hv
  · cases hv

theorem pure_sliceArr (hT : TTok P tt) {t e : TypeId} {x : Operand} {lo hi : Option Operand} {n sz : Nat} (ho : o.op = .slice t x lo hi none) (ht : P.underlying t = some (.array n e)) (hs : sizeT tt e = some sz) : PureOK P o (hSliceArr n sz (cOpd x) (cOpt lo) (cOpt hi)) := by
  intro D μ a ρ w v hops hv
  obtain ⟨hx, hlo, hhi, _⟩ := slice_ops ho hops
  obtain ⟨inf, hinf, hz⟩ := size_ok hT hs
  unfold hSliceArr at hv
  split at hv
  · rename_i b k hb
    rw [hb] at hx
    obtain ⟨ex, hD⟩ := vr_ptr hx
    split at hv
    · rename_i h l hh hl
      cases hc : (Nat.ble l h && Nat.ble h n) with
      | false => rw [hc] at hv; cases hv
      | true =>
        rw [hc, cond_true] at hv
        cases hv
        simp only [Bool.and_eq_true] at hc
        have h1 := Nat.le_of_ble_eq_true hc.1
        have h2 := Nat.le_of_ble_eq_true hc.2
        have hb := bounds_run (P := P) (isS := false) (optN_ok hlo hl) (optN_ok hhi hh) (.inl ⟨rfl, rfl⟩ : OptR none n n) (.inl rfl) h1 h2 (Nat.le_refl _) w
        refine ⟨_, ?_, .slx b (bif Nat.beq n l then k else k + l * sz) (h - l) (n - l) hD⟩
        simp only [execOp, ho, Instr.sliceAt, ex, Sem.run_bind, r_und ht, Result.andThen_ok, Instr.sureAddr, Sem.run_pure, Option.map_none, hb, r_size hinf, hz]
        cases he : Nat.beq n l with
        | true => have := Nat.eq_of_beq_eq_true he; subst this; simp
        | false =>
          have hne := Nat.ne_of_beq_eq_false he
          simp only [cond_false, if_neg hne, Addr.add]
          by_cases h0 : l * sz = 0
          · simp [h0]
          · simp [h0, Nat.add_assoc]
    · cases hv
  · cases hv

theorem pure_slice (hT : TTok P tt) {t e : TypeId} {x : Operand} {lo hi mx : Option Operand} {sz : Nat} (ho : o.op = .slice t x lo hi mx) (ht : P.underlying t = some (.slice e)) (hs : sizeT tt e = some sz) (hm : mx = none ∨ hi.isSome = true) :
    PureOK P o (hSlice sz (cOpd x) (cOpt lo) (cOpt hi) (cOpt mx)) := by
  intro D μ a ρ w v hops hv
  obtain ⟨hx, hlo, hhi, hmx⟩ := slice_ops ho hops
  obtain ⟨inf, hinf, hz⟩ := size_ok hT hs
  have hm' : mx.map ρ = none ∨ (hi.map ρ).isSome = true := by
    rcases hm with rfl | h
    · exact .inl rfl
    · exact .inr (by simpa using h)
  /- what the model does with a slice -/
  have run : ∀ (ad : Option Addr) (n c l h m : Nat), ρ x = .slice ad n c → OptR (lo.map ρ) 0 l → OptR (hi.map ρ) n h → OptR (mx.map ρ) c m → l ≤ h → h ≤ m → m ≤ c →
      (execOp ρ o).run P w = .ok (.value (.slice (if m = l then ad else ad.map (·.add (l * sz))) (h - l) (m - l))) w := by
    intro ad n c l h m ex h1 h2 h3 h4 h5 h6
    simp only [execOp, ho, Instr.sliceAt, ex, Sem.run_bind, r_und ht, Result.andThen_ok, Instr.slice, bounds_run h1 h2 h3 hm' h4 h5 h6, r_size hinf, hz]
    rfl
  unfold hSlice at hv
  split at hv
  · -- nil
    rename_i hb
    rw [hb] at hx
    have ex := vr_nils hx
    split at hv
    · rename_i h1 h2 h3
      cases hv
      refine ⟨.slice none 0 0, ?_, .nils⟩
      rw [run none 0 0 0 0 0 ex (optN_ok hlo h1) (optN_ok hhi h2) (optN_ok hmx h3) (Nat.le_refl _) (Nat.le_refl _) (Nat.le_refl _)]
      simp
    · cases hv
  · -- no elements, nobody knows where
    rename_i hb
    rw [hb] at hx
    obtain ⟨ad, c, ex⟩ := vr_sle hx
    split at hv
    · rename_i h1 h2 h3
      cases hv
      have hmn : mx = none := by cases mx with | none => rfl | some y => simp [cOpt] at h3
      subst hmn
      refine ⟨.slice (if c = 0 then some ad else (some ad).map (·.add (0 * sz))) 0 (c - 0), ?_, ?_⟩
      · rw [run (some ad) 0 c 0 0 c ex (optN_ok hlo h1) (optN_ok hhi h2) (.inl ⟨rfl, rfl⟩) (Nat.le_refl _) (Nat.zero_le _) (Nat.le_refl _)]
      · split
        · exact .sle _ _
        · exact .sle _ _
    · cases hv
  · rename_i b k n c tl hb
    rw [hb] at hx
    cases mx with
    | some y =>
      simp only [cOpt] at hv
      split at hv
      · rename_i m h l h1 h2 h3
        cases hc : (Nat.ble l h && Nat.ble h m && Nat.ble m c) with
        | false => rw [hc] at hv; cases hv
        | true =>
          rw [hc, cond_true] at hv
          cases hv
          simp only [Bool.and_eq_true] at hc
          have g1 := Nat.le_of_ble_eq_true hc.1.1
          have g2 := Nat.le_of_ble_eq_true hc.1.2
          have g3 := Nat.le_of_ble_eq_true hc.2
          obtain ⟨c', ex, hD, hcc⟩ := vr_sl hx
          have hmxr : OptR ((some y).map ρ) c' m := by
            obtain ⟨kk, e⟩ := index_ok (hmx y rfl) h1
            exact .inr ⟨kk, by simp [e]⟩
          refine ⟨_, run _ _ _ l h m ex (optN_ok hlo h3) (optN_ok hhi h2) hmxr g1 g2 (Nat.le_trans g3 hcc), ?_⟩
          cases he : Nat.beq m l with
          | true => rw [if_pos (Nat.eq_of_beq_eq_true he)]; exact .slx _ _ _ _ hD
          | false =>
            rw [if_neg (Nat.ne_of_beq_eq_false he), cond_false]
            have := VR.slx (D := D) (μ := μ) b (k + l * sz) (h - l) (m - l) hD
            simp only [Option.map_some, Addr.add]
            by_cases h0 : l * sz = 0
            · simpa [h0] using this
            · simpa [h0, Nat.add_assoc] using this
      · cases hv
    | none =>
      simp only [cOpt] at hv
      split at hv
      · rename_i h l h2 h3
        cases hc : (Nat.ble l h && Nat.ble h c) with
        | false => rw [hc] at hv; cases hv
        | true =>
          rw [hc, cond_true] at hv
          simp only [Bool.and_eq_true] at hc
          have g1 := Nat.le_of_ble_eq_true hc.1
          have g2 := Nat.le_of_ble_eq_true hc.2
          cases tl with
          | zero =>
            simp only at hv
            cases hv
            obtain ⟨ex, hD⟩ := vr_slx hx
            refine ⟨_, run _ _ _ l h c ex (optN_ok hlo h3) (optN_ok hhi h2) (.inl ⟨rfl, rfl⟩) g1 g2 (Nat.le_refl _), ?_⟩
            cases he : Nat.beq c l with
            | true => rw [if_pos (Nat.eq_of_beq_eq_true he)]; exact .slx _ _ _ _ hD
            | false =>
              rw [if_neg (Nat.ne_of_beq_eq_false he), cond_false]
              have := VR.slx (D := D) (μ := μ) b (k + l * sz) (h - l) (c - l) hD
              simp only [Option.map_some, Addr.add]
              by_cases h0 : l * sz = 0
              · simpa [h0] using this
              · simpa [h0, Nat.add_assoc] using this
          | succ kk =>
            simp only at hv
            obtain ⟨c', ex, hD, hcc, htop, h63⟩ := vr_slk hx
            cases hsz : Nat.beq sz (kk + 1) with
            | false => rw [hsz] at hv; cases hv
            | true =>
              rw [hsz, cond_true] at hv
              have hszz := Nat.eq_of_beq_eq_true hsz
              have hr := run _ _ _ l h c' ex (optN_ok hlo h3) (optN_ok hhi h2) (.inl ⟨rfl, rfl⟩) g1 (Nat.le_trans g2 hcc) (Nat.le_refl _)
              cases he : Nat.beq c l with
              | true =>
                have hel := Nat.eq_of_beq_eq_true he
                rw [he, cond_true] at hv
                cases h0 : Nat.beq l 0 with
                | true =>
                  rw [h0, cond_true] at hv
                  cases hv
                  have hl0 := Nat.eq_of_beq_eq_true h0
                  refine ⟨_, hr, ?_⟩
                  have hv0 := VR.slk (D := D) (μ := μ) b k (h - l) (c - l) kk (c' - l) hD (by omega) (by rw [hl0]; simpa using htop) (by omega)
                  split
                  · exact hv0
                  · rw [hl0] at hv0 ⊢; simpa [Addr.add] using hv0
                | false =>
                  rw [h0, cond_false] at hv
                  cases hv
                  refine ⟨_, hr, ?_⟩
                  have hz0 : h - l = 0 := by omega
                  rw [hz0]
                  split
                  · exact .sle _ _
                  · exact .sle _ _
              | false =>
                rw [he, cond_false] at hv
                cases hv
                have hne := Nat.ne_of_beq_eq_false he
                refine ⟨_, hr, ?_⟩
                have hlt : l < c' := by omega
                rw [if_neg (by omega)]
                have hmul : l * sz + (c' - l) * (kk + 1) = c' * (kk + 1) := by
                  rw [hszz, ← Nat.add_mul]; congr 1; omega
                have := VR.slk (D := D) (μ := μ) b (k + l * sz) (h - l) (c - l) kk (c' - l) hD (by omega) (by omega) (by omega)
                simp only [Option.map_some, Addr.add]
                by_cases h0 : l * sz = 0
                · simpa [h0] using this
                · simpa [h0, Nat.add_assoc] using this
      · cases hv
  · cases hv

end Go.AM
