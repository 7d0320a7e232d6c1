/-
  Each operation, as it is compiled.
  A region that is run in the text's order.
  Code, bodies, calls.
  Bodies and calls.
  Regions that draw their order: what the checks say.
  Regions that draw their order: the run in the text's order, and what it must bear.
  Regions that draw their order: what holds between two operations, whatever the order.
  Regions that draw their order: each step keeps what holds.
  Regions that draw their order: any order does what the text does.
-/
import Derived.Test.YtkfcjmjknflndaaGreatDoorAmC
import Derived.Orders
set_option linter.unusedVariables false
set_option linter.unusedSimpArgs false
namespace Go.AM

variable {P : Program} {tt : TT} {o : Oper}

/-- a function that is called with a frame of its own -/
def Callable (P : Program) (f : FuncId) : Prop := ∃ fn, P.funcs[f]? = some fn ∧ fn.body.isSome = true ∧ (fn.name == "runtime.NumGoroutine") = false

def CallsOK (P : Program) (o : Oper) (f : Tm → KR) : Prop :=
  ∀ (D : Nat → Prop) (μ : Nat → Loc) (a : Tm) (ρ : Operand → Value) (g : FuncId) (args : List AV), OpsR D μ a ρ o.op.operands.toList → f a = .ok g args →
    ∃ args' : Array Value, VRs D μ args args'.toList ∧ ∀ w, Callable P g → (execOp ρ o).run P w = .ok (.enter g args') w

def POpOK (P : Program) (o : Oper) : POp → Prop
  | .pure f => PureOK P o f
  | .read f => ReadOK P o f
  | .alloc f => AllocOK P o f
  | .eff f => EffOK P o f
  | .call f => CallsOK P o f

theorem bad_ok : POpOK P o bad := pure_none

theorem cOpds_one {l : List Operand} {a : Opd} (h : cOpds l = [a]) : ∃ x, l = [x] ∧ a = cOpd x := by
  cases l with
  | nil => cases h
  | cons x l =>
    cases l with
    | nil => simp only [cOpds, List.cons.injEq, and_true] at h; exact ⟨x, rfl, h.symm⟩
    | cons y l => simp [cOpds] at h
theorem cOpds_two {l : List Operand} {a b : Opd} (h : cOpds l = [a, b]) : ∃ x y, l = [x, y] ∧ a = cOpd x ∧ b = cOpd y := by
  cases l with
  | nil => cases h
  | cons x l =>
    cases l with
    | nil => simp [cOpds] at h
    | cons y l =>
      cases l with
      | nil => simp only [cOpds, List.cons.injEq, and_true] at h; exact ⟨x, y, rfl, h.1.symm, h.2.symm⟩
      | cons z l => simp [cOpds] at h

theorem run_callFunc {g : FuncId} (h : Callable P g) (args : Array Value) (w : World) : (callFunc g args).run P w = .ok (.enter g args) w := by
  obtain ⟨fn, h1, h2, h3⟩ := h
  have h4 : fn.body.isNone = false := by cases hb : fn.body with | none => rw [hb] at h2; cases h2 | some _ => rfl
  simp only [callFunc, Sem.run_bind, run_program, Result.andThen_ok, h1, h3, h4, Bool.false_eq_true, if_false, Sem.run_pure]


theorem enters {c : Go.Call} {f : FuncId} {x : Operand} {cs' : Array Value} {ρ : Operand → Value} (ho : o.op = .call c) (hc : c.callee = .value x) (hx : ρ x = .func (.func f) #[] cs') (h : Callable P f) (w : World) :
    (execOp ρ o).run P w = .ok (.enter f (c.args.map ρ ++ cs')) w := by
  simp only [execOp, ho, resolve, hc, hx, Deferred.ofValue, Sem.run_bind, Sem.run_pure, Result.andThen_ok, invoke]
  rw [run_callFunc h]
  simp

theorem calls_func {c : Go.Call} {f : FuncId} (ho : o.op = .call c) (hc : c.callee = .value (.func f)) : CallsOK P o (hCallF f (cOpds c.args.toList)) := by
  intro D μ a ρ g args hops hf
  cases hf
  have hfn := hops (.func f) (by simp [ho, Op.operands, Call.operands, hc])
  have hargs : OpsR D μ a ρ c.args.toList := fun x hx => hops x (by simp [ho, Op.operands, Call.operands, hc]; exact .inr (by simpa using hx))
  obtain ⟨cs', e, hcs⟩ := vr_fn (show VR D μ (.fn f []) (ρ (.func f)) from hfn)
  have : cs' = #[] := by cases h : cs'.toList with | nil => exact Array.ext' h | cons _ _ => rw [h] at hcs; cases hcs
  subst this
  refine ⟨c.args.map ρ, by simpa using getAll_ok hargs, fun w hcall => ?_⟩
  rw [enters ho hc e hcall]
  simp

theorem calls_value {c : Go.Call} {x : Operand} (ho : o.op = .call c) (hc : c.callee = .value x) : CallsOK P o (hCallV (cOpd x) (cOpds c.args.toList)) := by
  intro D μ a ρ g args hops hf
  have hfn := hops x (by simp [ho, Op.operands, Call.operands, hc])
  have hargs : OpsR D μ a ρ c.args.toList := fun y hy => hops y (by simp [ho, Op.operands, Call.operands, hc]; exact .inr (by simpa using hy))
  unfold hCallV at hf
  split at hf
  · rename_i f cap h
    rw [h] at hfn
    cases hf
    obtain ⟨cs', e, hcs⟩ := vr_fn hfn
    refine ⟨c.args.map ρ ++ cs', by simpa using (getAll_ok hargs).append hcs, fun w hcall => enters ho hc e hcall w⟩
  · cases hf

theorem builtin_ok (hT : TTok P tt) {c : Go.Call} {b : Builtin} (ho : o.op = .call c) (hc : c.callee = .builtin b) : POpOK P o (cBuiltin tt b c.argTypes.toList (cOpds c.args.toList)) := by
  have fst : ∀ {t : TypeId} {r : List TypeId}, c.argTypes.toList = t :: r → c.argTypes[0]? = some t := fun h => by rw [← Array.getElem?_toList, h]; rfl
  unfold cBuiltin
  split
  · rename_i t u x y hts hxs
    obtain ⟨x', y', hx, rfl, rfl⟩ := cOpds_two hxs
    unfold cAppend
    split
    · rename_i e d hu hd
      split
      · rename_i sz z by_ h1 h2 h3
        cases hcond : (Nat.ble 1 sz && (Nat.beq z.cells.length sz && (flat z.cells && (Nat.ble 1 by_ && Nat.ble by_ 1048576)))) with
        | false => exact bad_ok
        | true =>
          simp only [Bool.and_eq_true] at hcond
          obtain ⟨k1, k2, k3, k4, k5⟩ := hcond
          have k1 := Nat.le_of_ble_eq_true k1
          have k2 := Nat.eq_of_beq_eq_true k2
          have k5 := Nat.le_of_ble_eq_true k5
          rw [cond_true]
          cases d with
          | slice e' => exact eff_append hT ho hc hx hts (und_ok hT hu) (und_ok hT hd) (.inl ⟨e', rfl⟩) h2 h1 h3 k2 k1 k5
          | int k => exact eff_appendMake hT ho hc hx hts (und_ok hT hu) (und_ok hT hd) h2 h1 h3 k3 k2 k1 k5
          | string =>
            dsimp only
            cases hs1 : Nat.beq sz 1 with
            | false => exact bad_ok
            | true => exact eff_append hT ho hc hx hts (und_ok hT hu) (und_ok hT hd) (.inr rfl) h2 h1 h3 k2 k1 k5
          | _ => exact bad_ok
      · exact bad_ok
    · exact bad_ok
  · rename_i t r d x hts hxs
    obtain ⟨d', x', hx, rfl, rfl⟩ := cOpds_two hxs
    split
    · rename_i e hu
      split
      · rename_i sz hs
        exact eff_copy hT ho hc hx hts (und_ok hT hu) hs
      · exact bad_ok
    · exact bad_ok
  · rename_i t r x hts hxs
    obtain ⟨x', hx, rfl⟩ := cOpds_one hxs
    unfold cLen
    split
    · rename_i hu; exact pure_lenStr ho hc hx (fst hts) (und_ok hT hu)
    · rename_i e hu; exact pure_lenSl ho hc hx (fst hts) (und_ok hT hu)
    · rename_i k e hu; exact read_lenMap ho hc hx (fst hts) (und_ok hT hu)
    · exact bad_ok
  · rename_i t r x hts hxs
    obtain ⟨x', hx, rfl⟩ := cOpds_one hxs
    split
    · rename_i e hu; exact pure_cap ho hc hx (fst hts) (und_ok hT hu)
    · exact bad_ok
  · rename_i t r m k hts hxs
    obtain ⟨m', k', hx, rfl, rfl⟩ := cOpds_two hxs
    split
    · rename_i kt e hu
      cases hp : plainD (und tt kt) with
      | false => exact bad_ok
      | true => exact eff_del hT ho hc hx (fst hts) (und_ok hT hu) hp
    · exact bad_ok
  · rename_i t r x hts hxs
    obtain ⟨x', hx, rfl⟩ := cOpds_one hxs
    split
    · rename_i e hu
      split
      · rename_i z sz hz hs
        cases hcond : (Nat.beq z.cells.length sz && flat z.cells) with
        | false => exact bad_ok
        | true =>
          simp only [Bool.and_eq_true] at hcond
          exact eff_clear (sz := sz) hT ho hc hx hts (und_ok hT hu) hz hcond.2
      · exact bad_ok
    · exact bad_ok
  · exact pure_max ho hc
  · exact pure_min ho hc
  · exact bad_ok

theorem agg_cases {d : TypeDesc} : (∃ ms, d = .interface ms) ∨ ∀ ms, d ≠ .interface ms := by
  cases d <;> first | exact .inl ⟨_, rfl⟩ | exact .inr (fun _ h => by cases h)

theorem op_ok (hT : TTok P tt) {es : TypeId → Bool} (hes : ∀ t, es t = true → P.stoodInHeld t = false ∧ P.eqGuardType P.depth t = false) : POpOK P o (cOp tt es o.op) := by
  cases ho : o.op with
  | move x => exact pure_move ho
  | assign x => exact pure_assign ho
  | pick c x y => exact pure_pick ho
  | alloc e =>
    simp only [cOp]
    split
    · rename_i z hz
      cases hf : flat z.cells with
      | false => exact bad_ok
      | true => exact alloc_alloc hT ho hz hf
    · exact bad_ok
  | box T x => exact alloc_box ho
  | build t ps =>
    obtain ⟨f, h1, h2⟩ := pure_cBuild hT ho
    simp only [cOp, h1]
    exact h2
  | buildSlice t n ps =>
    simp only [cOp]
    unfold cBuildSlice
    split
    · rename_i e hu
      split
      · rename_i sz z hs hz
        cases hcond : (Nat.ble (n * sz) 1048576 && (Nat.beq z.cells.length sz && (Nat.ble 1 sz && flat z.cells))) with
        | false => exact bad_ok
        | true =>
          simp only [Bool.and_eq_true] at hcond
          obtain ⟨k1, k2, k3, k4⟩ := hcond
          rw [cond_true]
          split
          · rename_i q hq
            exact alloc_buildSlice hT ho (und_ok hT hu) hz k4 hs (Nat.le_of_ble_eq_true k1) (Nat.eq_of_beq_eq_true k2) hq
          · exact bad_ok
      · exact bad_ok
    · exact bad_ok
  | load t x =>
    simp only [cOp]
    split
    · rename_i d n hd hn
      cases hg : isAggD d with
      | true => exact read_loadN hT ho hd hg hn
      | false => exact read_load1 hT ho hd hg
    · exact bad_ok
  | store t x v =>
    simp only [cOp]
    split
    · rename_i n hn; exact eff_store hT ho hn
    · exact bad_ok
  | nilCheck x => exact pure_nil ho
  | binOp op t x y yt =>
    obtain ⟨f, h1, h2⟩ := pure_cBin hT hes ho
    simp only [cOp, h1]
    exact h2
  | unOp u t x =>
    cases u with
    | not => exact pure_not ho
    | neg => exact pure_neg ho
    | _ => exact bad_ok
  | convert t u x =>
    simp only [cOp]
    unfold cConv
    split
    · rename_i k0 k h1 h2; exact pure_convI ho (und_ok hT h1) (und_ok hT h2)
    · rename_i h1 h2; exact pure_convS ho (und_ok hT h1) (und_ok hT h2)
    · rename_i e h1 h2
      split
      · rename_i h3; exact alloc_toBytes ho (und_ok hT h1) (und_ok hT h2) (und_ok hT h3)
      · exact bad_ok
    · rename_i e h1 h2
      split
      · rename_i h3; exact read_toString ho (und_ok hT h1) (und_ok hT h2) (und_ok hT h3)
      · exact bad_ok
    · rename_i e0 e h1 h2
      split
      · rename_i h3
        cases hb : Nat.beq t u with
        | false => exact bad_ok
        | true => exact eff_convSame ho (und_ok hT h2) (und_ok hT h3) (Nat.eq_of_beq_eq_true hb)
      · exact bad_ok
    · exact bad_ok
  | makeInterface t x =>
    simp only [cOp]
    split
    · exact bad_ok
    · rename_i d hne hd
      exact pure_iface ho (und_ok hT hd) fun ms e => hne ms (by rw [e])
    · exact bad_ok
  | makeFunc fn first cap =>
    cases fn with
    | func f =>
      simp only [cOp]
      cases hf : first.isEmpty with
      | false => exact bad_ok
      | true => exact pure_func ho hf
    | _ => exact bad_ok
  | makeMap t r =>
    cases r with
    | none => exact alloc_makeMap ho
    | some r => exact bad_ok
  | makeSlice t l c =>
    simp only [cOp]
    unfold cMakeSlice
    split
    · rename_i e hu
      split
      · rename_i z sz by_ hz hs hb
        cases hcond : (Nat.ble by_ 1048576 && (Nat.beq z.cells.length sz && (Nat.ble 1 sz && flat z.cells))) with
        | false => exact bad_ok
        | true =>
          simp only [Bool.and_eq_true] at hcond
          obtain ⟨k1, k2, k3, k4⟩ := hcond
          rw [cond_true]
          exact alloc_makeSlice hT ho (und_ok hT hu) hz k4 hs hb (Nat.le_of_ble_eq_true k1) (Nat.eq_of_beq_eq_true k2) (Nat.le_of_ble_eq_true k3)
      · exact bad_ok
    · exact bad_ok
  | slice t x lo hi mx =>
    simp only [cOp]
    unfold cSlice
    split
    · rename_i hu
      cases mx with
      | none => exact pure_sliceStr ho (und_ok hT hu)
      | some m => exact bad_ok
    · rename_i e hu
      split
      · rename_i sz hs
        cases hm : (mx.isNone || hi.isSome) with
        | false => exact bad_ok
        | true =>
          rw [cond_true]
          refine pure_slice hT ho (und_ok hT hu) hs ?_
          rcases Bool.or_eq_true _ _ ▸ hm with h | h
          · exact .inl (Option.isNone_iff_eq_none.1 h)
          · exact .inr h
      · exact bad_ok
    · rename_i n e hu
      split
      · rename_i sz hs; exact pure_sliceArr hT ho (und_ok hT hu) hs
      · exact bad_ok
    · exact bad_ok
  | fieldAddr t x f =>
    simp only [cOp]
    unfold cFieldAddr
    split
    · rename_i fs hu
      split
      · rename_i fd hf
        split
        · rename_i n hs; exact pure_fieldAddr hT ho (und_ok hT hu) hf hs
        · exact bad_ok
      · exact bad_ok
    · exact bad_ok
  | field t x f =>
    simp only [cOp]
    unfold cField
    split
    · rename_i fs hu
      split
      · rename_i fd hf
        split
        · rename_i d n hd hs
          cases hg : isAggD d with
          | true => exact pure_partN hT ho (und_ok hT hu) hf hd hg hs
          | false => exact pure_part1 hT ho (und_ok hT hu) hf hd hg
        · exact bad_ok
      · exact bad_ok
    · exact bad_ok
  | indexAddr t x i =>
    simp only [cOp]
    unfold cIndexAddr
    split
    · rename_i n e hu
      split
      · rename_i sz hs; exact pure_idxArr hT ho (und_ok hT hu) hs
      · exact bad_ok
    · rename_i e hu
      split
      · rename_i sz hs; exact pure_idxSl hT ho (und_ok hT hu) hs
      · exact bad_ok
    · exact bad_ok
  | index t x i =>
    simp only [cOp]
    unfold cIndex
    split
    · rename_i hu; exact pure_idxStr ho (und_ok hT hu)
    · rename_i n e hu
      split
      · rename_i d sz hd hs
        cases hg : isAggD d with
        | true => exact pure_idxAggN hT ho (und_ok hT hu) hd hg hs
        | false => exact pure_idxAgg hT ho (und_ok hT hu) hd hg hs
      · exact bad_ok
    · exact bad_ok
  | lookup t m k ok =>
    simp only [cOp]
    unfold cLook
    split
    · rename_i kt e hu
      split
      · rename_i z hz
        cases hp : plainD (und tt kt) with
        | false => exact bad_ok
        | true =>
          cases ok with
          | true => exact read_lookOk hT ho (und_ok hT hu) hp hz
          | false => exact read_look hT ho (und_ok hT hu) hp hz
      · exact bad_ok
    · exact bad_ok
  | mapUpdate t m k v =>
    simp only [cOp]
    unfold cUpd
    split
    · rename_i kt e hu
      cases hp : plainD (und tt kt) with
      | false => exact bad_ok
      | true => exact eff_upd hT ho (und_ok hT hu) hp
    · exact bad_ok
  | range t x =>
    simp only [cOp]
    split
    · rename_i k e hu; exact eff_range ho (und_ok hT hu)
    · exact bad_ok
  | next x b =>
    cases b with
    | false => exact eff_next ho
    | true => exact bad_ok
  | entry x => exact read_entry ho
  | typeAssert x xt t ok =>
    cases ok with
    | false => exact bad_ok
    | true =>
      simp only [cOp]
      unfold cAssert
      split
      · exact bad_ok
      · rename_i d hne hd
        split
        · rename_i z hz
          exact pure_assert hT ho (und_ok hT hd) (fun ms e => hne ms (by rw [e])) hz
        · exact bad_ok
      · exact bad_ok
  | extract x i => exact pure_extract ho
  | call c =>
    cases hc : c.callee with
    | builtin b => simp only [cOp, hc]; exact builtin_ok hT ho hc
    | value f =>
      cases f with
      | func g => simp only [cOp, hc]; exact calls_func ho hc
      | _ => simp only [cOp, hc]; exact calls_value ho hc
    | invoke r n => simp only [cOp, hc]; exact bad_ok
  | _ => exact bad_ok

end Go.AM
namespace Go.AM

variable {P : Program} {tt : TT} {es : TypeId → Bool}

/-- the types that may be held against each other -/
def ESok (P : Program) (es : TypeId → Bool) : Prop := ∀ t, es t = true → P.stoodInHeld t = false ∧ P.eqGuardType P.depth t = false

def CallOK (P : Program) (call : Call) : Prop :=
  ∀ (D : Nat → Prop) (μ : Nat → Loc) (f : FuncId) (args : List AV) (args' : Array Value) (s : St) (w : World) (v : AV) (s' : St), VRs D μ args args'.toList → SR D μ s.at w → Dis D s s' → call f args s = .ok v s' →
    Callable P f ∧ Calls P f args' w fun e w' => ∃ v' D' μ', e = .returned v' ∧ Stp D μ s w D' μ' s' w' ∧ VR D' μ' v v'

theorem upOnly_ok {s s' : St} {r : CO} {v : AV} (h : upOnly s r = .ok v s') : r = .ok v s' ∧ s.next ≤ s'.next := by
  unfold upOnly at h
  split at h
  · rename_i v1 s1
    cases hb : Nat.ble s.next s1.next with
    | false => rw [hb] at h; cases h
    | true => rw [hb, cond_true] at h; cases h; exact ⟨rfl, Nat.le_of_ble_eq_true hb⟩
  · cases h

theorem run_mono {o : POp} {call : Call} {a : Tm} {s s' : St} {v : AV} (h : o.run call a s = .ok v s') : s.next ≤ s'.next := by
  cases o with
  | pure f =>
    simp only [POp.run] at h
    split at h <;> cases h
    exact Nat.le_refl _
  | read f =>
    simp only [POp.run] at h
    split at h <;> cases h
    exact Nat.le_refl _
  | alloc f =>
    simp only [POp.run] at h
    split at h <;> cases h
    rw [St.next_new]; omega
  | eff f => exact (upOnly_ok h).2
  | call f =>
    simp only [POp.run] at h
    split at h
    · exact (upOnly_ok h).2
    · cases h

theorem vr_bool_of {D : Nat → Prop} {μ : Nat → Loc} {v : AV} {b : Bool} (h : VR D μ v (.bool b)) : v = .bool b := by cases h; rfl

/-- an operation that is wanted -/
theorem op_step (hT : TTok P tt) (hes : ESok P es) {call : Call} (hcall : CallOK P call) {o : Oper} {nt : Nat} {D : Nat → Prop} {μ : Nat → Loc} {a : Tm} {ac : Go.Act} {s s' : St} {w : World} {v : AV} (hok : okOpds (cOpds o.op.operands.toList) = true)
    (ht : TR D μ nt a ac) (hs : SR D μ s.at w) (hd : Dis D s s') (hr : (cOp tt es o.op).run call a s = .ok v s') {K : Go.Act → World → Prop} {Q : Exit → Go.Act → World → Prop}
    (hK : ∀ v' w' D' μ', Stp D μ s w D' μ' s' w' → VR D' μ' v v' → K (ac.put o.dst v') w') : o.wp P ac w K Q := by
  have hops : OpsR D μ a ac.eval o.op.operands.toList := fun x hx => opd_ok ht hs.glob x (okOpds_mem hok x hx)
  have hop := op_ok (P := P) (o := o) hT hes
  unfold Oper.wp
  cases hc : cOp tt es o.op with
  | pure f =>
    rw [hc] at hr hop
    simp only [POp.run] at hr
    cases hf : f a with
    | none => rw [hf] at hr; cases hr
    | some u =>
      rw [hf] at hr; cases hr
      obtain ⟨v', h1, h2⟩ := hop D μ a ac.eval w _ hops hf
      rw [h1]
      exact hK v' w D μ (.refl hs) h2
  | read f =>
    rw [hc] at hr hop
    simp only [POp.run] at hr
    cases hf : f a s with
    | none => rw [hf] at hr; cases hr
    | some u =>
      rw [hf] at hr; cases hr
      obtain ⟨v', h1, h2⟩ := hop D μ a ac.eval s w _ hops hs hf
      rw [h1]
      exact hK v' w D μ (.refl hs) h2
  | alloc f =>
    rw [hc] at hr hop
    have he := AllocOK.eff hop
    obtain ⟨n, v', w', D', μ', h1, h2, h3, h4⟩ := he D μ a ac.eval s w v s' hops hs hd hr
    rw [h1]
    rcases h2 with rfl | ⟨rfl, rfl⟩
    · exact hK v' w' D' μ' h3 h4
    · exact hK _ w' D' μ' h3 h4
  | eff f =>
    rw [hc] at hr hop
    obtain ⟨n, v', w', D', μ', h1, h2, h3, h4⟩ := hop D μ a ac.eval s w v s' hops hs hd (upOnly_ok hr).1
    rw [h1]
    rcases h2 with rfl | ⟨rfl, rfl⟩
    · exact hK v' w' D' μ' h3 h4
    · exact hK _ w' D' μ' h3 h4
  | call f =>
    rw [hc] at hr hop
    simp only [POp.run] at hr
    cases hf : f a with
    | fail => rw [hf] at hr; cases hr
    | ok g args =>
      rw [hf] at hr
      obtain ⟨args', h1, h2⟩ := hop D μ a ac.eval g args hops hf
      obtain ⟨h3, h4⟩ := hcall D μ g args args' s w v s' h1 hs hd (upOnly_ok hr).1
      rw [h2 w h3, Oper.upon_enter]
      refine Calls.mono h4 fun e w' he => ?_
      obtain ⟨v', D', μ', rfl, h5, h6⟩ := he
      exact hK v' w' D' μ' h5 h6

/-- a guard asks the same of both -/
theorem wanted_gen {D : Nat → Prop} {μ : Nat → Loc} {a : Tm} {ac : Go.Act} {ops : Array Oper} {o : Oper} {g : Option (Pth × Bool)} (hg : cGuard ops.toList o.guard = some g)
    (ht : ∀ j want p d, o.guard = some (j, want) → ops[j]? = some p → p.dst = some d → VR D μ (Opd.get a (.tmp (path d))) (ac.tmps.getD d undef)) : Region.wanted o (yielded ops ac.tmps) = wanted a g := by
  unfold cGuard at hg
  unfold Region.wanted
  split at hg
  · rename_i h0; rw [h0]; cases hg; rfl
  · rename_i j want h0
    rw [h0]
    split at hg
    · rename_i p hp
      split at hg
      · rename_i d hd
        cases hg
        have hp' : ops[j]? = some p := by rw [← Array.getElem?_toList]; exact hp
        have hb : (ops[j]?).bind (·.dst) = some d := by rw [hp']; exact hd
        simp only [wanted, yielded, hb, Option.bind_some]
        have hv := ht j want p d h0 hp' hd
        simp only [Opd.get] at hv
        cases hx : a.get (path d) with
        | none =>
          rw [hx] at hv
          have hu : ac.tmps.getD d undef = .tuple #[] := by
            obtain ⟨cs, e, hcs⟩ := vr_tup hv
            cases h : cs.toList with
            | nil => rw [e, show cs = #[] from Array.ext' h]
            | cons _ _ => rw [h] at hcs; cases hcs
          cases hq : ac.tmps[d]? with
          | none => rfl
          | some q =>
            have : ac.tmps.getD d undef = q := by rw [Array.getD_eq_getD_getElem?, hq]; rfl
            rw [this] at hu; subst hu; rfl
        | some x =>
          rw [hx] at hv
          simp only at hv
          cases hq : ac.tmps[d]? with
          | none =>
            have : ac.tmps.getD d undef = undef := by rw [Array.getD_eq_getD_getElem?, hq]; rfl
            rw [this] at hv
            cases x with
            | bool b => cases hv
            | _ => rfl
          | some q =>
            have : ac.tmps.getD d undef = q := by rw [Array.getD_eq_getD_getElem?, hq]; rfl
            rw [this] at hv
            cases x with
            | bool b =>
              rw [vr_bool hv]
              cases b <;> cases want <;> rfl
            | _ =>
              cases q with
              | bool b => cases hv
              | _ => rfl
      · cases hg
    · cases hg

theorem wanted_ok {D : Nat → Prop} {μ : Nat → Loc} {nt : Nat} {a : Tm} {ac : Go.Act} (ht : TR D μ nt a ac) {ops : Array Oper} {o : Oper} {g : Option (Pth × Bool)} (hg : cGuard ops.toList o.guard = some g) : Region.wanted o (yielded ops ac.tmps) = wanted a g :=
  wanted_gen hg fun _ _ _ d _ _ _ => ht.get d

theorem putA_ok {D : Nat → Prop} {μ : Nat → Loc} {nt : Nat} {a : Tm} {ac : Go.Act} (ht : TR D μ nt a ac) {dst : Option Tmp} (hd : ∀ d, dst = some d → d < nt) {v : AV} {v' : Value} (hv : VR D μ v v') : TR D μ nt (putA (dst.map path) v a) (ac.put dst v') := by
  cases dst with
  | none => exact ht
  | some d => exact ht.put (hd d rfl) hv

/-- what an operation is compiled to -/
theorem cOper_cases (tt : TT) (es : TypeId → Bool) (nt : Nat) (ops : List Oper) (o : Oper) :
    (cOper tt es nt ops o = ⟨none, none, bad⟩) ∨ ∃ g, cGuard ops o.guard = some g ∧ okOpds (cOpds o.op.operands.toList) = true ∧ (∀ d, o.dst = some d → d < nt) ∧ cOper tt es nt ops o = ⟨g, o.dst.map path, cOp tt es o.op⟩ := by
  unfold cOper
  cases hg : cGuard ops o.guard with
  | none => exact .inl rfl
  | some g =>
    dsimp only
    cases hk : okOpds (cOpds o.op.operands.toList) with
    | false => exact .inl rfl
    | true =>
      rw [cond_true]
      cases hd : o.dst with
      | none => exact .inr ⟨g, rfl, rfl, (by intro d h; cases h), rfl⟩
      | some d =>
        dsimp only
        cases hb : Nat.ble (Nat.succ d) nt with
        | false => exact .inl rfl
        | true => exact .inr ⟨g, rfl, rfl, (by intro d' h; cases h; exact Nat.le_of_ble_eq_true hb), rfl⟩

theorem regionF_cons (po : PO) (pos : List PO) (call : Call) (a : Tm) (s : St) : regionF (po :: pos) call a s =
    bif wanted a po.guard then match po.op.run call a s with | .ok v s' => regionF pos call (putA po.dst v a) s' | .fail => .fail else regionF pos call (putA po.dst unit a) s := rfl

theorem regionF_mono : ∀ (pos : List PO) (call : Call) (a : Tm) (s : St) (x : Ex) (a' : Tm) (s' : St), regionF pos call a s = .ok x a' s' → x = .normal ∧ s.next ≤ s'.next
  | [], call, a, s, x, a', s', h => by cases h; exact ⟨rfl, Nat.le_refl _⟩
  | po :: pos, call, a, s, x, a', s', h => by
    rw [regionF_cons] at h
    cases hw : wanted a po.guard with
    | false => rw [hw, cond_false] at h; exact regionF_mono pos call _ s x a' s' h
    | true =>
      rw [hw, cond_true] at h
      split at h
      · rename_i v s1 h1
        have h2 := regionF_mono pos call _ s1 x a' s' h
        exact ⟨h2.1, Nat.le_trans (run_mono h1) h2.2⟩
      · cases h

theorem region_ops (hT : TTok P tt) (hes : ESok P es) {call : Call} (hcall : CallOK P call) {ops : Array Oper} {nt : Nat} {Q : Exit → Go.Act → World → Prop} : ∀ (os : List Oper) (i : Nat), ops.toList.drop i = os →
    ∀ (D : Nat → Prop) (μ : Nat → Loc) (a : Tm) (ac : Go.Act) (s : St) (w : World) (x : Ex) (a' : Tm) (s' : St), TR D μ nt a ac → SR D μ s.at w → Dis D s s' → regionF (cOpers tt es nt ops.toList os) call a s = .ok x a' s' →
      (∀ D' μ' ac' w', Stp D μ s w D' μ' s' w' → TR D' μ' nt a' ac' → Q .normal ac' w') → wpOps P ops Q (List.range' i os.length) ac w := by
  intro os
  induction os with
  | nil =>
    intro i _ D μ a ac s w x a' s' ht hs hd h hQ
    cases h
    exact hQ D μ ac w (.refl hs) ht
  | cons o os ih =>
    intro i hi D μ a ac s w x a' s' ht hs hd h hQ
    have ho : ops[i]? = some o := by
      rw [← Array.getElem?_toList]
      have := congrArg (·[0]?) hi
      simpa using this
    have hi' : ops.toList.drop (i + 1) = os := by
      have := congrArg (List.drop 1) hi
      simpa [List.drop_drop, Nat.add_comm] using this
    rw [List.length_cons, List.range'_succ]
    simp only [wpOps, ho]
    simp only [cOpers] at h
    rw [regionF_cons] at h
    rcases cOper_cases tt es nt ops.toList o with hb | ⟨g, hg, hok, hdst, hb⟩
    · rw [hb] at h; cases h
    · rw [hb] at h
      rw [wanted_ok ht hg]
      dsimp only at h
      cases hw : wanted a g with
      | false =>
        rw [hw, cond_false] at h
        rw [if_neg (by simp)]
        exact ih (i + 1) hi' D μ _ _ s w x a' s' (putA_ok ht hdst vr_unit) hs hd h hQ
      | true =>
        rw [hw, cond_true] at h
        rw [if_pos rfl]
        split at h
        · rename_i v s1 h1
          have hm := (regionF_mono _ _ _ _ _ _ _ h).2
          refine .inl (op_step hT hes hcall hok ht hs (hd.first hm) h1 fun v' w1 D1 μ1 hst hv => ?_)
          exact ih (i + 1) hi' D1 μ1 _ _ s1 w1 x a' s' (putA_ok (ht.mono hst.sub hst.ext) hdst hv) hst.sr (hd.second hst) h fun D2 μ2 ac2 w2 hst2 ht2 => hQ D2 μ2 ac2 w2 (hst.trans hst2) ht2
        · cases h

end Go.AM
namespace Go.AM

variable {P : Program} {tt : TT} {es : TypeId → Bool}

/-- what is owed of the regions that draw their order -/
def DrawOK (P : Program) (tt : TT) (es : TypeId → Bool) : Prop :=
  ∀ (call : Call) (nt : Nat) (ops : Array Oper) (id : Nat), CallOK P call → ∀ (D : Nat → Prop) (μ : Nat → Loc) (a : Tm) (ac : Go.Act) (s : St) (w : World) (x : Ex) (a' : Tm) (s' : St), TR D μ nt a ac → SR D μ s.at w → Dis D s s' →
    (cRegion tt es nt ops.toList true).run call a s = .ok x a' s' → ∀ Q : Exit → Go.Act → World → Prop, (∀ D' μ' ac' w', Stp D μ s w D' μ' s' w' → TR D' μ' nt a' ac' → Q .normal ac' w') → (Code.region id ops true).wp P Q ac w

def exOf : Ex → Exit
  | .normal => .normal
  | .exit i => .exit i
  | .ret => .ret

theorem traceF_cons (o : DO) (os : List DO) (call : Call) (a : Tm) (s : St) : traceF (o :: os) call a s =
    bif wanted a o.po.guard then
        match o.po.op.run call a s with
        | .ok v s' => match traceF os call (putA o.po.dst v a) s' with
          | .ok a' s'' tr => .ok a' s'' (⟨a, s, v⟩ :: tr)
          | .fail => .fail
        | .fail => .fail
      else match traceF os call (putA o.po.dst unit a) s with
        | .ok a' s'' tr => .ok a' s'' (⟨a, s, unit⟩ :: tr)
        | .fail => .fail := rfl

theorem traceF_mono : ∀ (os : List DO) (call : Call) (a : Tm) (s : St) (a' : Tm) (s' : St) (tr : List TE), traceF os call a s = .ok a' s' tr → s.next ≤ s'.next
  | [], call, a, s, a', s', tr, h => by cases h; exact Nat.le_refl _
  | o :: os, call, a, s, a', s', tr, h => by
    rw [traceF_cons] at h
    cases hw : wanted a o.po.guard with
    | false =>
      rw [hw, cond_false] at h
      split at h <;> cases h
      rename_i h1
      exact traceF_mono _ _ _ _ _ _ _ h1
    | true =>
      rw [hw, cond_true] at h
      split at h
      · rename_i v s1 h1
        split at h <;> cases h
        rename_i h2
        exact Nat.le_trans (run_mono h1) (traceF_mono _ _ _ _ _ _ _ h2)
      · cases h

theorem cRegion_mono {nt : Nat} {ops : List Oper} {d : Bool} {call : Call} {a a' : Tm} {s s' : St} {x : Ex} (h : (cRegion tt es nt ops d).run call a s = .ok x a' s') : x = .normal ∧ s.next ≤ s'.next := by
  unfold cRegion at h
  dsimp only at h
  cases d with
  | false => rw [cond_false] at h; exact regionF_mono _ _ _ _ _ _ _ h
  | true =>
    rw [cond_true] at h
    generalize (downF 0 ops && (chainOk (masksF ops []) (actsF 0 (cOpers tt es nt ops ops)) && (allocsOk (masksF ops []) (actsF 0 (cOpers tt es nt ops ops)) 0 (cOpers tt es nt ops ops) && tmpsOk (masksF ops []) ops 0 ops))) = b at h
    cases b with
    | false => rw [cond_false] at h; cases h
    | true =>
      rw [cond_true] at h
      dsimp only at h
      unfold regionD at h
      split at h
      · rename_i a1 s1 tr h1
        generalize (chkAll _ _ _) = b at h
        cases b with
        | false => cases h
        | true => cases h; exact ⟨rfl, traceF_mono _ _ _ _ _ _ _ h1⟩
      · cases h

theorem loopF_zero (b : PC) (call : Call) (a : Tm) (s : St) : loopF b call 0 a s = .fail := rfl
theorem loopF_succ (b : PC) (call : Call) (n : Nat) (a : Tm) (s : St) : loopF b call (n + 1) a s = match b.run call a s with
      | .ok .normal a' s' => loopF b call n a' s'
      | .ok (.exit i) a' s' => .ok (.exit i) a' s'
      | .ok .ret a' s' => .ok .ret a' s'
      | .fail => .fail := rfl

theorem code_mono {nt : Nat} : ∀ (c : Code) (call : Call) (a : Tm) (s : St) (x : Ex) (a' : Tm) (s' : St), (cCode tt es nt c).run call a s = .ok x a' s' → s.next ≤ s'.next := by
  intro c
  induction c with
  | skip => intro call a s x a' s' h; cases h; exact Nat.le_refl _
  | region id ops d => intro call a s x a' s' h; exact (cRegion_mono h).2
  | seq y z ihy ihz =>
    intro call a s x a' s' h
    simp only [cCode, hSeq] at h
    split at h
    · rename_i a1 s1 h1; exact Nat.le_trans (ihy _ _ _ _ _ _ h1) (ihz _ _ _ _ _ _ h)
    · rename_i i a1 s1 h1; cases h; exact ihy _ _ _ _ _ _ h1
    · rename_i a1 s1 h1; cases h; exact ihy _ _ _ _ _ _ h1
    · cases h
  | cond c y z ihy ihz =>
    intro call a s x a' s' h
    simp only [cCode] at h
    cases hk : okOpd (cOpd c) with
    | false => rw [hk] at h; cases h
    | true =>
      rw [hk, cond_true] at h
      simp only [hCond] at h
      split at h
      · exact ihy _ _ _ _ _ _ h
      · exact ihz _ _ _ _ _ _ h
      · cases h
  | block id b ih =>
    intro call a s x a' s' h
    simp only [cCode, hBlock] at h
    split at h
    · rename_i a1 s1 h1; cases h; exact ih _ _ _ _ _ _ h1
    · rename_i j a1 s1 h1
      have := ih _ _ _ _ _ _ h1
      cases hb : Nat.beq j id with
      | true => rw [hb] at h; cases h; exact this
      | false => rw [hb] at h; cases h; exact this
    · rename_i a1 s1 h1; cases h; exact ih _ _ _ _ _ _ h1
    · cases h
  | loop b ih =>
    intro call a s x a' s' h
    have key : ∀ n a s, loopF (cCode tt es nt b) call n a s = .ok x a' s' → s.next ≤ s'.next := by
      intro n
      induction n with
      | zero => intro a s h; rw [loopF_zero] at h; cases h
      | succ n ihn =>
        intro a s h
        rw [loopF_succ] at h
        split at h
        · rename_i a1 s1 h1; exact Nat.le_trans (ih _ _ _ _ _ _ h1) (ihn _ _ h)
        · rename_i i a1 s1 h1; cases h; exact ih _ _ _ _ _ _ h1
        · rename_i a1 s1 h1; cases h; exact ih _ _ _ _ _ _ h1
        · cases h
    exact key 100000 a s h
  | exit id => intro call a s x a' s' h; cases h; exact Nat.le_refl _
  | ret => intro call a s x a' s' h; cases h; exact Nat.le_refl _
  | _ => intro call a s x a' s' h; cases h

/-- what the code leaves -/
def Post (D : Nat → Prop) (μ : Nat → Loc) (s : St) (w : World) (nt : Nat) (x : Ex) (a' : Tm) (s' : St) : Exit → Go.Act → World → Prop :=
  fun e ac' w' => e = exOf x ∧ ∃ D' μ', Stp D μ s w D' μ' s' w' ∧ TR D' μ' nt a' ac'

theorem Post.after {D D1 : Nat → Prop} {μ μ1 : Nat → Loc} {s s1 s' : St} {w w1 : World} {nt : Nat} {x : Ex} {a' : Tm} (h : Stp D μ s w D1 μ1 s1 w1) {e : Exit} {ac' : Go.Act} {w' : World} (hp : Post D1 μ1 s1 w1 nt x a' s' e ac' w') : Post D μ s w nt x a' s' e ac' w' := by
  obtain ⟨he, D', μ', h1, h2⟩ := hp
  exact ⟨he, D', μ', h.trans h1, h2⟩

theorem code_ok (hT : TTok P tt) (hes : ESok P es) (hD : DrawOK P tt es) {call : Call} (hcall : CallOK P call) {nt : Nat} : ∀ (c : Code) (D : Nat → Prop) (μ : Nat → Loc) (a : Tm) (ac : Go.Act) (s : St) (w : World) (x : Ex) (a' : Tm) (s' : St), TR D μ nt a ac → SR D μ s.at w → Dis D s s' →
    (cCode tt es nt c).run call a s = .ok x a' s' → c.wp P (Post D μ s w nt x a' s') ac w := by
  intro c
  induction c with
  | skip => intro D μ a ac s w x a' s' ht hs hd h; cases h; exact wp_skip ⟨rfl, D, μ, .refl hs, ht⟩
  | region id ops d =>
    intro D μ a ac s w x a' s' ht hs hd h
    have hx := (cRegion_mono h).1
    subst hx
    cases d with
    | true => exact hD call nt ops id hcall D μ a ac s w _ a' s' ht hs hd h _ fun D' μ' ac' w' h1 h2 => ⟨rfl, D', μ', h1, h2⟩
    | false =>
      refine wp_region ?_
      rw [List.range_eq_range']
      have hlen : ops.size = ops.toList.length := by simp
      rw [hlen]
      exact region_ops hT hes hcall ops.toList 0 rfl D μ a ac s w _ a' s' ht hs hd h fun D' μ' ac' w' h1 h2 => ⟨rfl, D', μ', h1, h2⟩
  | seq y z ihy ihz =>
    intro D μ a ac s w x a' s' ht hs hd h
    simp only [cCode, hSeq] at h
    refine wp_seq ?_
    split at h
    · rename_i a1 s1 h1
      have hm := code_mono z _ _ _ _ _ _ h
      refine wp_mono (ihy D μ a ac s w _ a1 s1 ht hs (hd.first hm) h1) fun e ac1 w1 hp => ?_
      obtain ⟨rfl, D1, μ1, g1, g2⟩ := hp
      exact wp_mono (ihz D1 μ1 a1 ac1 s1 w1 x a' s' g2 g1.sr (hd.second g1) h) fun e ac2 w2 hp => hp.after g1
    · rename_i i a1 s1 h1
      cases h
      refine wp_mono (ihy D μ a ac s w _ _ _ ht hs hd h1) fun e ac1 w1 hp => ?_
      obtain ⟨rfl, g⟩ := hp
      exact ⟨rfl, g⟩
    · rename_i a1 s1 h1
      cases h
      refine wp_mono (ihy D μ a ac s w _ _ _ ht hs hd h1) fun e ac1 w1 hp => ?_
      obtain ⟨rfl, g⟩ := hp
      exact ⟨rfl, g⟩
    · cases h
  | cond c y z ihy ihz =>
    intro D μ a ac s w x a' s' ht hs hd h
    simp only [cCode] at h
    cases hk : okOpd (cOpd c) with
    | false => rw [hk] at h; cases h
    | true =>
      rw [hk, cond_true] at h
      have hc := opd_ok ht hs.glob c hk
      simp only [hCond] at h
      split at h
      · rename_i hb; rw [hb] at hc; exact wp_cond_true (vr_bool hc) (ihy _ _ _ _ _ _ _ _ _ ht hs hd h)
      · rename_i hb; rw [hb] at hc; exact wp_cond_false (vr_bool hc) (ihz _ _ _ _ _ _ _ _ _ ht hs hd h)
      · cases h
  | block id b ih =>
    intro D μ a ac s w x a' s' ht hs hd h
    simp only [cCode, hBlock] at h
    refine wp_block ?_
    split at h
    · rename_i a1 s1 h1
      cases h
      refine wp_mono (ih D μ a ac s w _ _ _ ht hs hd h1) fun e ac1 w1 hp => ?_
      obtain ⟨rfl, g⟩ := hp
      exact ⟨rfl, g⟩
    · rename_i j a1 s1 h1
      cases hb : Nat.beq j id with
      | true =>
        rw [hb] at h; cases h
        refine wp_mono (ih D μ a ac s w _ _ _ ht hs hd h1) fun e ac1 w1 hp => ?_
        obtain ⟨rfl, g⟩ := hp
        have := Nat.eq_of_beq_eq_true hb
        subst this
        simp only [exOf, Exit.inBlock, if_true]
        exact ⟨rfl, g⟩
      | false =>
        rw [hb] at h; cases h
        refine wp_mono (ih D μ a ac s w _ _ _ ht hs hd h1) fun e ac1 w1 hp => ?_
        obtain ⟨rfl, g⟩ := hp
        have := Nat.ne_of_beq_eq_false hb
        simp only [exOf, Exit.inBlock, if_neg this]
        exact ⟨rfl, g⟩
    · rename_i a1 s1 h1
      cases h
      refine wp_mono (ih D μ a ac s w _ _ _ ht hs hd h1) fun e ac1 w1 hp => ?_
      obtain ⟨rfl, g⟩ := hp
      exact ⟨rfl, g⟩
    · cases h
  | loop c ih =>
    intro D μ a ac s w x a' s' ht hs hd h
    simp only [cCode, hLoop] at h
    intro b k cs
    have key : ∀ n D μ a ac s w, TR D μ nt a ac → SR D μ s.at w → Dis D s s' → loopF (cCode tt es nt c) call n a s = .ok x a' s' →
        ∃ e ac' w', Post D μ s w nt x a' s' e ac' w' ∧ Arrives P (lone (b.at ac (.code c :: .inLoop c :: k)) cs w) b k cs e ac' w' := by
      intro n
      induction n with
      | zero => intro D μ a ac s w ht hs hd h; rw [loopF_zero] at h; cases h
      | succ n ihn =>
        intro D μ a ac s w ht hs hd h
        have hstep : loopF (cCode tt es nt c) call (n + 1) a s = .ok x a' s' := h
        rw [loopF_succ] at h
        split at h
        · rename_i a1 s1 h1
          have hm : s1.next ≤ s'.next := by
            have : ∀ n a s, loopF (cCode tt es nt c) call n a s = .ok x a' s' → s.next ≤ s'.next := by
              intro n
              induction n with
              | zero => intro a s h; rw [loopF_zero] at h; cases h
              | succ n ihn =>
                intro a s h
                rw [loopF_succ] at h
                split at h
                · rename_i a1 s1 h1; exact Nat.le_trans (code_mono _ _ _ _ _ _ _ h1) (ihn _ _ h)
                · rename_i i a1 s1 h1; cases h; exact code_mono _ _ _ _ _ _ _ h1
                · rename_i a1 s1 h1; cases h; exact code_mono _ _ _ _ _ _ _ h1
                · cases h
            exact this n a1 s1 h
          obtain ⟨e, ac1, w1, hp, harr⟩ := ih D μ a ac s w _ a1 s1 ht hs (hd.first hm) h1 b (.inLoop c :: k) cs
          obtain ⟨rfl, D1, μ1, g1, g2⟩ := hp
          obtain ⟨e2, ac2, w2, hp2, harr2⟩ := ihn D1 μ1 a1 ac1 s1 w1 g2 g1.sr (hd.second g1) h
          exact ⟨e2, ac2, w2, hp2.after g1, .of_steps (Steps.trans harr (.one step_inLoop)) harr2⟩
        · rename_i i a1 s1 h1
          cases h
          obtain ⟨e, ac1, w1, hp, harr⟩ := ih D μ a ac s w _ _ _ ht hs hd h1 b (.inLoop c :: k) cs
          obtain ⟨rfl, g⟩ := hp
          exact ⟨_, ac1, w1, ⟨rfl, g⟩, .pass (x := .inLoop c) rfl (fun _ _ => .inl (by simp [exOf])) harr⟩
        · rename_i a1 s1 h1
          cases h
          obtain ⟨e, ac1, w1, hp, harr⟩ := ih D μ a ac s w _ _ _ ht hs hd h1 b (.inLoop c :: k) cs
          obtain ⟨rfl, g⟩ := hp
          exact ⟨_, ac1, w1, ⟨rfl, g⟩, .pass (x := .inLoop c) rfl (fun _ _ => .inl (by simp [exOf])) harr⟩
        · cases h
    obtain ⟨e, ac', w', hq, harr⟩ := key 100000 D μ a ac s w ht hs hd h
    exact ⟨e, ac', w', hq, .of_steps (.one step_loop) harr⟩
  | exit id => intro D μ a ac s w x a' s' ht hs hd h; cases h; exact wp_exit ⟨rfl, D, μ, .refl hs, ht⟩
  | ret => intro D μ a ac s w x a' s' ht hs hd h; cases h; exact wp_ret ⟨rfl, D, μ, .refl hs, ht⟩
  | _ => intro D μ a ac s w x a' s' ht hs hd h; cases h

end Go.AM
namespace Go.AM

variable {P : Program} {tt : TT} {es : TypeId → Bool}

/-- a result is read -/
def readRes (tmps : Array Value) : ResultVar → Sem Value
  | .tmp t => pure (tmps.getD t undef)
  | .cell a t => do loadVar t (← asAddr (tmps.getD a undef))

theorem row_load {D : Nat → Prop} {μ : Nat → Loc} {s : St} {w : World} {a : Tm} {ac : Go.Act} {nt : Nat} (hT : TTok P tt) (ht : TR D μ nt a ac) (hs : SR D μ s.at w) : ∀ (r : ResultVar) (v : AV), resV a s (cRes tt r) = some v → ∃ v', (readRes ac.tmps r).run P w = .ok v' w ∧ VR D μ v v'
  | .tmp t, v, h => by
    simp only [cRes, resV] at h
    cases h
    exact ⟨_, rfl, ht.get t⟩
  | .cell d t, v, h => by
    simp only [cRes] at h
    split at h
    · rename_i ds n hd hz
      have hx := ht.get d
      obtain ⟨i, hi, hsz⟩ := size_ok hT hz
      cases hg : isAggD ds with
      | true =>
        rw [hg, cond_true] at h
        simp only [resV, hLoadN] at h
        split at h
        · rename_i b k hb
          rw [hb] at hx
          split at h
          · rename_i r hr
            cases hle : Nat.ble (k + n) r.size with
            | false => rw [hle] at h; cases h
            | true =>
              rw [hle, cond_true] at h
              cases h
              obtain ⟨vs, h1, h2, _⟩ := hs.cells (P := P) hr (Nat.le_of_ble_eq_true hle)
              refine ⟨.agg vs, ?_, .agg _ _ h2⟩
              simp only [readRes, (vr_ptr hx).1, asAddr, loadVar, Sem.run_bind, Sem.run_pure, Result.andThen_ok, r_agg (und_ok hT hd), hg, if_true, r_size hi, hsz, h1]
          · cases h
        · cases h
      | false =>
        rw [hg, cond_false] at h
        simp only [resV, hLoad1] at h
        split at h
        · rename_i b k hb
          rw [hb] at hx
          split at h
          · rename_i r hr
            cases hle : Nat.ble (Nat.succ k) r.size with
            | false => rw [hle] at h; cases h
            | true =>
              rw [hle, cond_true] at h
              cases h
              obtain ⟨v', h1, h2, _⟩ := hs.cell hr (Nat.le_of_ble_eq_true hle : k < r.size)
              refine ⟨v', ?_, h2⟩
              simp only [readRes, (vr_ptr hx).1, asAddr, loadVar, Sem.run_bind, Sem.run_pure, Result.andThen_ok, r_agg (und_ok hT hd), hg, Bool.false_eq_true, if_false, run_load, h1]
          · cases h
        · cases h
    · cases h

theorem res_list {D : Nat → Prop} {μ : Nat → Loc} {s : St} {w : World} {a : Tm} {ac : Go.Act} {nt : Nat} (hT : TTok P tt) (ht : TR D μ nt a ac) (hs : SR D μ s.at w) : ∀ (rs : List ResultVar) (vs : List AV), resAll a s (cRess tt rs) = some vs → ∃ vs', (rs.mapM (readRes ac.tmps)).run P w = .ok vs' w ∧ VRs D μ vs vs'
  | [], vs, h => by cases h; exact ⟨[], rfl, .nil⟩
  | r :: rs, vs, h => by
    simp only [cRess, resAll] at h
    split at h
    · rename_i v hv
      split at h
      · rename_i us hus
        cases h
        obtain ⟨v', h1, h2⟩ := row_load hT ht hs r v hv
        obtain ⟨us', h3, h4⟩ := res_list hT ht hs rs us hus
        exact ⟨v' :: us', by simp only [List.mapM_cons, Sem.run_bind, h1, Result.andThen_ok, h3, Sem.run_pure], .cons _ _ _ _ h2 h4⟩
      · cases h
    · cases h

theorem res_ok {D : Nat → Prop} {μ : Nat → Loc} {s : St} {w : World} {a : Tm} {ac : Go.Act} {nt : Nat} (hT : TTok P tt) (ht : TR D μ nt a ac) (hs : SR D μ s.at w) {fn : Func} {vs : List AV} (h : resAll a s (cRess tt fn.results.toList) = some vs) : ∃ v', (results fn ac.tmps).run P w = .ok v' w ∧ VR D μ (tupOf vs) v' := by
  obtain ⟨vs', h1, h2⟩ := res_list hT ht hs _ vs h
  have hm : (fn.results.mapM (readRes ac.tmps)).run P w = .ok vs'.toArray w := by
    rw [Array.mapM_eq_mapM_toList, map_eq_pure_bind, Sem.run_bind, h1]; rfl
  have e : results fn ac.tmps = (do let vs ← fn.results.mapM (readRes ac.tmps); pure (if h : vs.size = 1 then vs[0] else .tuple vs)) := rfl
  rw [e, Sem.run_bind, hm, Result.andThen_ok]
  refine ⟨_, rfl, ?_⟩
  unfold tupOf
  split
  · rename_i v
    cases h2 with
    | cons _ v' _ l hv hl => cases hl; simpa using hv
  · rename_i hne
    have hl := h2.length
    have : ¬ vs'.toArray.size = 1 := fun e => by
      simp at e
      rw [e] at hl
      cases vs with
      | nil => simp at hl
      | cons v r => cases r with | nil => exact hne v rfl | cons _ _ => simp at hl
    rw [dif_neg this]
    exact .tup _ _ (by simpa using h2)

/-- a function's body -/
theorem body_ok (hT : TTok P tt) (hes : ESok P es) (hD : DrawOK P tt es) {call : Call} (hcall : CallOK P call) {f : FuncId} {fn : Func} (hf : P.funcs[f]? = some fn) {D : Nat → Prop} {μ : Nat → Loc} {args : List AV} {args' : Array Value} {s s' : St} {w : World} {v : AV}
    (ha : VRs D μ args args'.toList) (hs : SR D μ s.at w) (hd : Dis D s s') (h : (cFunc tt es fn).run call args s = .ok v s') :
    fn.body.isSome = true ∧ Calls P f args' w fun e w' => ∃ v' D' μ', e = .returned v' ∧ Stp D μ s w D' μ' s' w' ∧ VR D' μ' v v' := by
  unfold cFunc at h
  split at h
  · rename_i c hc
    refine ⟨by rw [hc]; rfl, ?_⟩
    cases hle : Nat.ble (fn.params.size + fn.nfree) fn.ntmps with
    | false => rw [hle] at h; cases h
    | true =>
      rw [hle, cond_true] at h
      simp only [hBody] at h
      cases hb : Nat.beq args.length (fn.params.size + fn.nfree) with
      | false => rw [hb] at h; cases h
      | true =>
        rw [hb, cond_true] at h
        have hle := Nat.le_of_ble_eq_true hle
        have hlen := Nat.eq_of_beq_eq_true hb
        have hal := ha.length
        have hsz : args.length = args'.size := by simpa using hal
        have ht : TR D μ fn.ntmps (Tr.ofList args) { tmps := args' ++ Array.replicate (fn.ntmps - args'.size) undef, defers := [] } := by
          refine ⟨fun t => ?_, by simp; omega, rfl⟩
          simp only [Opd.get, Tr.get_ofList]
          by_cases htl : t < args.length
          · have h2 : t < args'.toList.length := by omega
            rw [List.getElem?_eq_getElem htl]
            have e : (args' ++ Array.replicate (fn.ntmps - args'.size) undef).getD t undef = args'.toList[t] := by
              rw [Array.getD_eq_getD_getElem?, Array.getElem?_append_left (by omega), ← Array.getElem?_toList, List.getElem?_eq_getElem h2]; rfl
            rw [e]
            exact ha.at t htl h2
          · rw [List.getElem?_eq_none (by omega)]
            have e : (args' ++ Array.replicate (fn.ntmps - args'.size) undef).getD t undef = undef := by
              rw [Array.getD_eq_getD_getElem?, Array.getElem?_append_right (by omega), Array.getElem?_replicate]
              split <;> rfl
            rw [e]; exact vr_unit
        have fin : ∀ (x : Ex) (a1 : Tm) (s1 : St), (x = .normal ∨ x = .ret) → (cCode tt es fn.ntmps c).run call (Tr.ofList args) s = .ok x a1 s1 → (∃ vs, resAll a1 s1 (cRess tt fn.results.toList) = some vs ∧ tupOf vs = v ∧ s1 = s') →
            Calls P f args' w fun e w' => ∃ v' D' μ', e = .returned v' ∧ Stp D μ s w D' μ' s' w' ∧ VR D' μ' v v' := by
          intro x a1 s1 hx h1 ⟨vs, h2, h3, h4⟩
          subst h4
          refine calls_of_wp hf hc (wp_mono (code_ok hT hes hD hcall c D μ _ _ s w x a1 s1 ht hs hd h1) fun e ac w' hp => ?_)
          obtain ⟨rfl, D', μ', g1, g2⟩ := hp
          obtain ⟨v', r1, r2⟩ := res_ok hT g2 g1.sr h2
          rw [h3] at r2
          rcases hx with rfl | rfl
          · exact ⟨g2.defers, v', r1, v', D', μ', rfl, g1, r2⟩
          · exact ⟨g2.defers, v', r1, v', D', μ', rfl, g1, r2⟩
        split at h
        · cases h
        · rename_i a1 s1 h1
          split at h
          · rename_i vs h2
            cases h
            exact fin .normal a1 _ (.inl rfl) h1 ⟨vs, h2, rfl, rfl⟩
          · cases h
        · rename_i a1 s1 h1
          split at h
          · rename_i vs h2
            cases h
            exact fin .ret a1 _ (.inr rfl) h1 ⟨vs, h2, rfl, rfl⟩
          · cases h
        · cases h
  · cases h

/-- what is owed of a function that is not walked -/
def PrimOK (P : Program) (f : FuncId) (g : List AV → St → CO) : Prop :=
  ∀ (D : Nat → Prop) (μ : Nat → Loc) (args : List AV) (args' : Array Value) (s : St) (w : World) (v : AV) (s' : St), VRs D μ args args'.toList → SR D μ s.at w → Dis D s s' → g args s = .ok v s' →
    Callable P f ∧ Calls P f args' w fun e w' => ∃ v' D' μ', e = .returned v' ∧ Stp D μ s w D' μ' s' w' ∧ VR D' μ' v v'

/-- a table of the program's functions -/
def FTok (P : Program) (tt : TT) (es : TypeId → Bool) (ft : Tr PF) : Prop := ∀ f p, ft.get (path f) = some p → ∃ fn, P.funcs[f]? = some fn ∧ p = cFunc tt es fn ∧ (fn.body.isSome = true → (fn.name == "runtime.NumGoroutine") = false)

theorem callX_succ (pr : Prims) (ft : Tr PF) (n : Nat) (f : FuncId) (args : List AV) (s : St) : callX pr ft (n + 1) f args s = match pr f with
      | some g => g args s
      | none => match ft.get (path f) with
        | some p => p.run (callX pr ft n) args s
        | none => .fail := rfl

theorem callX_ok (hT : TTok P tt) (hes : ESok P es) (hD : DrawOK P tt es) {pr : Prims} {ft : Tr PF} (hpr : ∀ f g, pr f = some g → PrimOK P f g) (hft : FTok P tt es ft) : ∀ n, CallOK P (callX pr ft n)
  | 0 => fun _ _ _ _ _ _ _ _ _ _ _ _ h => by cases h
  | n + 1 => by
    intro D μ f args args' s w v s' ha hs hd h
    rw [callX_succ] at h
    split at h
    · rename_i g hg
      exact hpr f g hg D μ args args' s w v s' ha hs hd h
    · split at h
      · rename_i p hp
        obtain ⟨fn, h1, rfl, h3⟩ := hft f p hp
        obtain ⟨h4, h5⟩ := body_ok hT hes hD (callX_ok hT hes hD hpr hft n) h1 ha hs hd h
        exact ⟨⟨fn, h1, h4, h3 h4⟩, h5⟩
      · cases h

end Go.AM
namespace Go.AM

theorem hasBit_eq (m i : Nat) : hasBit m i = m.testBit i := by
  unfold hasBit
  rw [Nat.testBit_eq_decide_div_mod_eq]
  show Nat.beq ((m >>> i) % 2) 1 = _
  rw [Nat.shiftRight_eq_div_pow, Bool.eq_iff_iff, Nat.beq_eq, decide_eq_true_iff]

theorem masksF_pre : ∀ (os : List Oper) (pre : List Nat), ∃ suf, masksF os pre = pre ++ suf ∧ suf.length = os.length
  | [], pre => ⟨[], by simp [masksF], rfl⟩
  | o :: os, pre => by
    obtain ⟨suf, h1, h2⟩ := masksF_pre os (pre ++ [maskOf pre o.after.toList])
    exact ⟨maskOf pre o.after.toList :: suf, by simp [masksF, h1], by simp [h2]⟩
theorem masksF_get : ∀ (os : List Oper) (pre : List Nat) (k : Nat) (o : Oper), os[k]? = some o → ∃ pre', (masksF os pre)[pre.length + k]? = some (maskOf pre' o.after.toList) ∧ pre' = (masksF os pre).take (pre.length + k)
  | [], pre, k, o, h => by simp at h
  | x :: os, pre, 0, o, h => by
    simp at h
    subst h
    obtain ⟨suf, h1, h2⟩ := masksF_pre os (pre ++ [maskOf pre x.after.toList])
    refine ⟨pre, ?_, ?_⟩
    · simp [masksF, h1]
    · simp [masksF, h1]
  | x :: os, pre, k + 1, o, h => by
    obtain ⟨pre', h1, h2⟩ := masksF_get os (pre ++ [maskOf pre x.after.toList]) k o (by simpa using h)
    have e : (pre ++ [maskOf pre x.after.toList]).length + k = pre.length + (k + 1) := by simp; omega
    rw [e] at h1 h2
    exact ⟨pre', h1, h2⟩

theorem maskOf_bit : ∀ (es : List Edge) (pre : List Nat) (x : Nat), (maskOf pre es).testBit x = true → ∃ e ∈ es, bindsAny e.ground = true ∧ (x = e.on ∨ ∃ m, pre[e.on]? = some m ∧ m.testBit x = true)
  | [], pre, x, h => by simp [maskOf] at h
  | e :: es, pre, x, h => by
    simp only [maskOf] at h
    cases hb : bindsAny e.ground with
    | false =>
      rw [hb, cond_false] at h
      obtain ⟨e', h1, h2⟩ := maskOf_bit es pre x h
      exact ⟨e', List.mem_cons_of_mem _ h1, h2⟩
    | true =>
      rw [hb, cond_true] at h
      have h : ((2 ^ e.on ||| (match natAt pre e.on with | some m => m | none => 0)) ||| maskOf pre es).testBit x = true := h
      rw [Nat.testBit_or, Nat.testBit_or, Bool.or_eq_true, Bool.or_eq_true] at h
      rcases h with (h | h) | h
      · rw [Nat.testBit_two_pow] at h
        exact ⟨e, List.mem_cons_self, hb, .inl (of_decide_eq_true h).symm⟩
      · rw [natAt_eq] at h
        cases hp : pre[e.on]? with
        | none => rw [hp] at h; simp at h
        | some m => rw [hp] at h; exact ⟨e, List.mem_cons_self, hb, .inr ⟨m, hp, h⟩⟩
      · obtain ⟨e', h1, h2⟩ := maskOf_bit es pre x h
        exact ⟨e', List.mem_cons_of_mem _ h1, h2⟩

theorem edgesDown_ok : ∀ {es : List Edge} {i : Nat}, edgesDown i es = true → ∀ e ∈ es, bindsAny e.ground = true → e.on < i
  | [], i, h, e, he, _ => by cases he
  | x :: es, i, h, e, he, hb => by
    simp only [edgesDown, Bool.and_eq_true, Bool.or_eq_true] at h
    cases he with
    | head =>
      rcases h.1 with h | h
      · rw [hb] at h; cases h
      · exact Nat.le_of_ble_eq_true h
    | tail _ he => exact edgesDown_ok h.2 e he hb
theorem downF_ok : ∀ {ops : List Oper} {i : Nat}, downF i ops = true → ∀ (k : Nat) (o : Oper), ops[k]? = some o → ∀ e ∈ o.after.toList, bindsAny e.ground = true → e.on < i + k
  | [], i, h, k, o, ho => by simp at ho
  | x :: ops, i, h, 0, o, ho => by
    simp only [downF, Bool.and_eq_true] at h
    simp at ho
    subst ho
    exact edgesDown_ok h.1
  | x :: ops, i, h, k + 1, o, ho => by
    simp only [downF, Bool.and_eq_true] at h
    have := downF_ok h.2 k o (by simpa using ho)
    intro e he hb
    have := this e he hb
    omega

/-- with each of its operations those that come ahead of it -/
def Closed (ops : List Oper) (L : Nat → Prop) : Prop := ∀ (y : Nat) (o : Oper), ops[y]? = some o → L y → ∀ e ∈ o.after.toList, bindsAny e.ground = true → L e.on

theorem isPre_edge {ops : List Oper} {x y : Nat} {o : Oper} (hdown : downF 0 ops = true) (ho : ops[y]? = some o) (h : isPre (masksF ops []) x y = true) : ∃ e ∈ o.after.toList, bindsAny e.ground = true ∧ e.on < y ∧ (x = e.on ∨ isPre (masksF ops []) x e.on = true) := by
  obtain ⟨pre', h1, h2⟩ := masksF_get ops [] y o ho
  simp only [List.length_nil, Nat.zero_add] at h1 h2
  unfold isPre at h
  rw [natAt_eq, h1] at h
  simp only [hasBit_eq] at h
  obtain ⟨e, he, hb, hx⟩ := maskOf_bit _ _ _ h
  have hlt := downF_ok hdown y o ho e he hb
  rw [Nat.zero_add] at hlt
  refine ⟨e, he, hb, hlt, hx.imp id ?_⟩
  rintro ⟨m, hm, hbit⟩
  rw [h2, List.getElem?_take_of_lt hlt] at hm
  unfold isPre
  rw [natAt_eq, hm]
  simp only [hasBit_eq]
  exact hbit
theorem isPre_lt {ops : List Oper} {x y : Nat} (h : isPre (masksF ops []) x y = true) : y < ops.length := by
  obtain ⟨suf, h1, h2⟩ := masksF_pre ops []
  unfold isPre at h
  rw [natAt_eq] at h
  rcases Nat.lt_or_ge y ops.length with h3 | h3
  · exact h3
  · rw [List.getElem?_eq_none (by rw [h1]; simp; omega)] at h; cases h

theorem Closed.pre {ops : List Oper} {L : Nat → Prop} (hdown : downF 0 ops = true) (hL : Closed ops L) : ∀ (y x : Nat), L y → isPre (masksF ops []) x y = true → L x := by
  intro y
  induction y using Nat.strongRecOn with
  | _ y ih =>
    intro x hy h
    have hlt := isPre_lt h
    obtain ⟨e, he, hb, hlt2, hx⟩ := isPre_edge hdown (List.getElem?_eq_getElem hlt) h
    have hon := hL y _ (List.getElem?_eq_getElem hlt) hy e he hb
    rcases hx with rfl | hx
    · exact hon
    · exact ih e.on hlt2 x hon hx

/-! those that act -/
theorem actsF_mem : ∀ (pos : List PO) (i x : Nat), x ∈ actsF i pos ↔ ∃ k po, x = i + k ∧ pos[k]? = some po ∧ isAct po.op = true
  | [], i, x => by simp [actsF]
  | o :: pos, i, x => by
    have ih := actsF_mem pos (Nat.succ i) x
    simp only [actsF]
    constructor
    · intro h
      cases ha : isAct o.op with
      | true =>
        rw [ha, cond_true] at h
        cases h with
        | head => exact ⟨0, o, rfl, rfl, ha⟩
        | tail _ h =>
          obtain ⟨k, po, h1, h2, h3⟩ := ih.1 h
          exact ⟨k + 1, po, by omega, by simpa using h2, h3⟩
      | false =>
        rw [ha, cond_false] at h
        obtain ⟨k, po, h1, h2, h3⟩ := ih.1 h
        exact ⟨k + 1, po, by omega, by simpa using h2, h3⟩
    · rintro ⟨k, po, h1, h2, h3⟩
      cases k with
      | zero =>
        simp at h2
        subst h2
        rw [h3, cond_true, h1]
        exact List.mem_cons_self
      | succ k =>
        have hm : x ∈ actsF (Nat.succ i) pos := ih.2 ⟨k, po, by omega, by simpa using h2, h3⟩
        cases isAct o.op with
        | true => exact List.mem_cons_of_mem _ hm
        | false => exact hm
theorem actsF_sorted : ∀ (pos : List PO) (i : Nat), List.Pairwise (· < ·) (actsF i pos)
  | [], i => .nil
  | o :: pos, i => by
    have ih := actsF_sorted pos (Nat.succ i)
    simp only [actsF]
    cases isAct o.op with
    | false => exact ih
    | true =>
      refine .cons (fun x hx => ?_) ih
      obtain ⟨k, po, h1, _⟩ := (actsF_mem pos (Nat.succ i) x).1 hx
      omega

theorem chain_pairs {ops : List Oper} {L : Nat → Prop} (hdown : downF 0 ops = true) (hL : Closed ops L) : ∀ (l : List Nat), chainOk (masksF ops []) l = true → List.Pairwise (fun x y => L y → L x) l
  | [], _ => .nil
  | [x], _ => .cons (fun _ h => by cases h) .nil
  | x :: y :: r, h => by
    simp only [chainOk, Bool.and_eq_true] at h
    have ih := chain_pairs hdown hL (y :: r) h.2
    refine .cons (fun z hz hLz => ?_) ih
    have hy : L y := by
      cases hz with
      | head => exact hLz
      | tail _ hz => exact (List.pairwise_cons.1 ih).1 z hz hLz
    exact hL.pre hdown y x hy h.1
theorem chain_ok {ops : List Oper} {L : Nat → Prop} (hdown : downF 0 ops = true) (hL : Closed ops L) {l : List Nat} (h : chainOk (masksF ops []) l = true) (hs : List.Pairwise (· < ·) l) {x y : Nat} (hx : x ∈ l) (hy : y ∈ l) (hlt : x < y) (hLy : L y) : L x := by
  have hp := chain_pairs hdown hL l h
  obtain ⟨i, hi, rfl⟩ := List.mem_iff_getElem.1 hx
  obtain ⟨j, hj, rfl⟩ := List.mem_iff_getElem.1 hy
  rw [List.pairwise_iff_getElem] at hp hs
  rcases Nat.lt_trichotomy i j with h | h | h
  · exact hp i j hi hj h hLy
  · subst h; omega
  · have := hs j i hj hi h; omega

theorem allocsOk_ok {ms acts : List Nat} : ∀ {pos : List PO} {i : Nat}, allocsOk ms acts i pos = true → ∀ (k : Nat) (po : PO), pos[k]? = some po → isAlloc po.op = true → ∀ w ∈ acts, w ≤ i + k ∨ isPre ms (i + k) w = true
  | [], i, h, k, po, hp => by simp at hp
  | o :: pos, i, h, 0, po, hp => by
    simp only [allocsOk, Bool.and_eq_true, Bool.or_eq_true] at h
    simp at hp
    subst hp
    intro ha w hw
    rcases h.1 with h | h
    · rw [ha] at h; cases h
    · have := List.all_eq_true.1 h w hw
      simp only [Bool.or_eq_true] at this
      exact this.imp Nat.le_of_ble_eq_true id
  | o :: pos, i, h, k + 1, po, hp => by
    simp only [allocsOk, Bool.and_eq_true] at h
    have := allocsOk_ok h.2 k po (by simpa using hp)
    rw [show i + (k + 1) = Nat.succ i + k by omega]
    exact this

theorem tmpsOk1_ok {ms : List Nat} {ops : List Oper} {x : Oper} {i : Nat} : ∀ {ys : List Oper} {j : Nat}, tmpsOk1 ms ops x i j ys = true → ∀ (k : Nat) (y : Oper), ys[k]? = some y → clash ops x y = true → isPre ms i (j + k) = true
  | [], j, h, k, y, hy => by simp at hy
  | z :: ys, j, h, 0, y, hy => by
    simp only [tmpsOk1, Bool.and_eq_true, Bool.or_eq_true] at h
    simp at hy
    subst hy
    intro hc
    rcases h.1 with h | h
    · rw [hc] at h; cases h
    · exact h
  | z :: ys, j, h, k + 1, y, hy => by
    simp only [tmpsOk1, Bool.and_eq_true] at h
    have := tmpsOk1_ok h.2 k y (by simpa using hy)
    rw [show j + (k + 1) = Nat.succ j + k by omega]
    exact this
theorem tmpsOk_ok {ms : List Nat} {ops : List Oper} : ∀ {xs : List Oper} {i : Nat}, tmpsOk ms ops i xs = true → ∀ (k l : Nat) (x y : Oper), xs[k]? = some x → xs[l]? = some y → k < l → clash ops x y = true → isPre ms (i + k) (i + l) = true
  | [], i, h, k, l, x, y, hx, _, _, _ => by simp at hx
  | z :: xs, i, h, 0, l, x, y, hx, hy, hlt, hc => by
    simp only [tmpsOk, Bool.and_eq_true] at h
    simp at hx
    subst hx
    obtain ⟨m, rfl⟩ : ∃ m, l = m + 1 := ⟨l - 1, by omega⟩
    have := tmpsOk1_ok h.1 m y (by simpa using hy) hc
    rw [show i + (m + 1) = Nat.succ i + m by omega]
    exact this
  | z :: xs, i, h, k + 1, l, x, y, hx, hy, hlt, hc => by
    simp only [tmpsOk, Bool.and_eq_true] at h
    obtain ⟨m, rfl⟩ : ∃ m, l = m + 1 := ⟨l - 1, by omega⟩
    have := tmpsOk_ok h.2 k m x y (by simpa using hx) (by simpa using hy) (by omega) hc
    rw [show i + (k + 1) = Nat.succ i + k by omega, show i + (m + 1) = Nat.succ i + m by omega]
    exact this

theorem anyIn_iff (xs : List Nat) : ∀ ys, anyIn xs ys = true ↔ ∃ y ∈ ys, y ∈ xs
  | [] => by simp [anyIn]
  | y :: ys => by simp [anyIn, anyIn_iff xs ys, natIn_iff]

/-! where a reading operation is asked again -/
theorem chk_none {ms : List Nat} {i : Nat} {E : Nat → Prop} : ∀ (l : List Nat) (last : Nat), (∀ w ∈ l, isPre ms w i = true → E w) → (∀ w ∈ l, ¬ E w) → last ∈ chkOf ms i last l
  | [], last, _, _ => by simp [chkOf]
  | w :: ws, last, h1, h2 => by
    have hw : isPre ms w i = false := by
      cases h : isPre ms w i with
      | false => rfl
      | true => exact absurd (h1 w List.mem_cons_self h) (h2 w List.mem_cons_self)
    simp only [chkOf, hw, cond_false]
    cases isPre ms i w with
    | true => simp
    | false => simp
theorem chk_some {ms : List Nat} {i : Nat} {E : Nat → Prop} : ∀ (l : List Nat) (last w0 : Nat), (∀ w ∈ l, isPre ms w i = true → E w) → (∀ w ∈ l, E w → isPre ms i w = false) → List.Pairwise (fun x y => E y → E x) l → List.Pairwise (· < ·) l →
    w0 ∈ l → E w0 → (∀ w ∈ l, E w → w ≤ w0) → w0 + 1 ∈ chkOf ms i last l
  | [], last, w0, _, _, _, _, h, _, _ => by cases h
  | w :: ws, last, w0, h1, h2, h3, h4, h5, h6, h7 => by
    rw [List.pairwise_cons] at h3 h4
    have hEw : E w := by
      cases h5 with
      | head => exact h6
      | tail _ h => exact h3.1 w0 h h6
    have hiw := h2 w List.mem_cons_self hEw
    have hrest : w0 + 1 ∈ chkOf ms i (w + 1) ws := by
      by_cases e : w0 = w
      · subst e
        refine chk_none (E := E) ws _ (fun z hz => h1 z (List.mem_cons_of_mem _ hz)) fun z hz hE => ?_
        have := h4.1 z hz
        have := h7 z (List.mem_cons_of_mem _ hz) hE
        omega
      · have hm : w0 ∈ ws := by
          cases h5 with
          | head => exact absurd rfl e
          | tail _ h => exact h
        exact chk_some ws (w + 1) w0 (fun z hz => h1 z (List.mem_cons_of_mem _ hz)) (fun z hz => h2 z (List.mem_cons_of_mem _ hz)) h3.2 h4.2 hm h6 fun z hz => h7 z (List.mem_cons_of_mem _ hz)
    simp only [chkOf, hiw, cond_false]
    cases isPre ms w i with
    | true => exact hrest
    | false => exact List.mem_cons_of_mem _ hrest

/-! values held against each other -/
mutual
theorem avEq_eq : ∀ (a b : AV), avEq a b = true → a = b
  | .int k m, b, h => by
    cases b <;> first | (simp [avEq] at h; done) | skip
    simp only [avEq, Bool.and_eq_true, kEq_iff, iEq_eq, decide_eq_true_iff] at h
    rw [h.1, h.2]
  | .bool a, b, h => by
    cases b <;> first | (simp [avEq] at h; done) | skip
    rename_i b
    simp only [avEq, bEq_eq, beq_iff_eq] at h
    rw [h]
  | .str a, b, h => by
    cases b <;> first | (simp [avEq] at h; done) | skip
    simp only [avEq, strEq_iff] at h
    rw [h]
  | .ptr x o, b, h => by
    cases b <;> first | (simp [avEq] at h; done) | skip
    simp only [avEq, Bool.and_eq_true, Nat.beq_eq] at h
    rw [h.1, h.2]
  | .nilp, b, h => by
    cases b <;> first | (simp [avEq] at h; done) | rfl
  | .sl x o n c t, b, h => by
    cases b <;> first | (simp [avEq] at h; done) | skip
    simp only [avEq, Bool.and_eq_true, Nat.beq_eq] at h
    obtain ⟨rfl, rfl, rfl, rfl, rfl⟩ := h
    rfl
  | .nils, b, h => by
    cases b <;> first | (simp [avEq] at h; done) | rfl
  | .sle, b, h => by
    cases b <;> first | (simp [avEq] at h; done) | rfl
  | .map r, b, h => by
    cases b <;> first | (simp [avEq] at h; done) | skip
    simp only [avEq, Nat.beq_eq] at h
    rw [h]
  | .nilm, b, h => by
    cases b <;> first | (simp [avEq] at h; done) | rfl
  | .fn f cs, b, h => by
    cases b <;> first | (simp [avEq] at h; done) | skip
    simp only [avEq, Bool.and_eq_true, Nat.beq_eq] at h
    rw [h.1, avsEq_eq cs _ h.2]
  | .nilf, b, h => by
    cases b <;> first | (simp [avEq] at h; done) | rfl
  | .ifc t v, b, h => by
    cases b <;> first | (simp [avEq] at h; done) | skip
    simp only [avEq, Bool.and_eq_true, Nat.beq_eq] at h
    rw [h.1, avEq_eq v _ h.2]
  | .nili, b, h => by
    cases b <;> first | (simp [avEq] at h; done) | rfl
  | .agg cs, b, h => by
    cases b <;> first | (simp [avEq] at h; done) | skip
    simp only [avEq] at h
    rw [avsEq_eq cs _ h]
  | .tup cs, b, h => by
    cases b <;> first | (simp [avEq] at h; done) | skip
    simp only [avEq] at h
    rw [avsEq_eq cs _ h]
theorem avsEq_eq : ∀ (a b : List AV), avsEq a b = true → a = b
  | [], b, h => by cases b with | nil => rfl | cons _ _ => simp [avsEq] at h
  | v :: l, b, h => by
    cases b with
    | nil => simp [avsEq] at h
    | cons u m =>
      simp only [avsEq, Bool.and_eq_true] at h
      rw [avEq_eq v u h.1, avsEq_eq l m h.2]
end

end Go.AM
namespace Go.AM

variable {P : Program} {tt : TT} {es : TypeId → Bool}

/-- one operation of the text's run -/
def StepR (po : PO) (call : Call) (a : Tm) (s : St) (v : AV) (a' : Tm) (s' : St) : Prop :=
  (wanted a po.guard = true ∧ po.op.run call a s = .ok v s' ∧ a' = putA po.dst v a) ∨ (wanted a po.guard = false ∧ v = unit ∧ s' = s ∧ a' = putA po.dst unit a)

theorem trace_steps : ∀ (dos : List DO) (call : Call) (a : Tm) (s : St) (a' : Tm) (s' : St) (tr : List TE), traceF dos call a s = .ok a' s' tr →
    tr.length = dos.length ∧ (∃ v, (tr ++ [⟨a', s', unit⟩])[0]? = some ⟨a, s, v⟩) ∧
      ∀ (j : Nat) (d : DO), dos[j]? = some d → ∃ e e', (tr ++ [⟨a', s', unit⟩])[j]? = some e ∧ (tr ++ [⟨a', s', unit⟩])[j + 1]? = some e' ∧ StepR d.po call e.a e.s e.v e'.a e'.s
  | [], call, a, s, a', s', tr, h => by
    cases h
    exact ⟨rfl, ⟨unit, rfl⟩, fun j d hd => by simp at hd⟩
  | o :: dos, call, a, s, a', s', tr, h => by
    rw [traceF_cons] at h
    have fin : ∀ (v : AV) (a1 : Tm) (s1 : St) (tr1 : List TE), StepR o.po call a s v a1 s1 → traceF dos call a1 s1 = .ok a' s' tr1 → tr = ⟨a, s, v⟩ :: tr1 →
        tr.length = (o :: dos).length ∧ (∃ v, (tr ++ [⟨a', s', unit⟩])[0]? = some ⟨a, s, v⟩) ∧
          ∀ (j : Nat) (d : DO), (o :: dos)[j]? = some d → ∃ e e', (tr ++ [⟨a', s', unit⟩])[j]? = some e ∧ (tr ++ [⟨a', s', unit⟩])[j + 1]? = some e' ∧ StepR d.po call e.a e.s e.v e'.a e'.s := by
      intro v a1 s1 tr1 hstep h1 htr
      subst htr
      obtain ⟨h2, ⟨v1, h3⟩, h4⟩ := trace_steps dos call a1 s1 a' s' tr1 h1
      refine ⟨by simp [h2], ⟨v, rfl⟩, fun j d hd => ?_⟩
      cases j with
      | zero =>
        simp at hd
        subst hd
        exact ⟨⟨a, s, v⟩, ⟨a1, s1, v1⟩, rfl, by simpa using h3, hstep⟩
      | succ j =>
        obtain ⟨e, e', g1, g2, g3⟩ := h4 j d (by simpa using hd)
        exact ⟨e, e', by simpa using g1, by simpa using g2, g3⟩
    cases hw : wanted a o.po.guard with
    | false =>
      rw [hw, cond_false] at h
      split at h <;> cases h
      rename_i h1
      exact fin unit _ _ _ (.inr ⟨hw, rfl, rfl, rfl⟩) h1 rfl
    | true =>
      rw [hw, cond_true] at h
      split at h
      · rename_i v s1 hv
        split at h <;> cases h
        rename_i h1
        exact fin v _ _ _ (.inl ⟨hw, hv, rfl⟩) h1 rfl
      · cases h

theorem chkAll_ok {all : List TE} : ∀ {dos : List DO} {tr : List TE}, chkAll all dos tr = true → ∀ (j : Nat) (d : DO) (e : TE), dos[j]? = some d → tr[j]? = some e → chk1 d e all = true
  | [], tr, h, j, d, e, hd, he => by simp at hd
  | o :: dos, [], h, j, d, e, hd, he => by simp at he
  | o :: dos, t :: tr, h, j, d, e, hd, he => by
    simp only [chkAll, Bool.and_eq_true] at h
    cases j with
    | zero => simp at hd he; subst hd; subst he; exact h.1
    | succ j => exact chkAll_ok h.2 j d e (by simpa using hd) (by simpa using he)
theorem teAt_eq : ∀ (l : List TE) (n : Nat), teAt l n = l[n]?
  | [], n => by simp [teAt]
  | e :: l, 0 => rfl
  | e :: l, n + 1 => by simpa [teAt] using teAt_eq l n
theorem readsSo_ok {f : Tm → St → Option AV} {e : TE} {all : List TE} : ∀ {l : List Nat}, readsSo f e all l = true → ∀ p ∈ l, ∃ t, all[p]? = some t ∧ f e.a t.s = some e.v
  | [], h, p, hp => by cases hp
  | q :: l, h, p, hp => by
    simp only [readsSo, Bool.and_eq_true] at h
    cases hp with
    | tail _ hp => exact readsSo_ok h.2 p hp
    | head =>
      have h := h.1
      split at h
      · rename_i t ht
        rw [teAt_eq] at ht
        split at h
        · rename_i v hv
          rw [avEq_eq _ _ h] at hv
          exact ⟨t, ht, hv⟩
        · cases h
      · cases h
theorem cDOs_get {ms acts : List Nat} : ∀ (pos : List PO) (i k : Nat) (po : PO), pos[k]? = some po → (cDOs ms acts i pos)[k]? = some ⟨po, chkOf ms (i + k) 0 acts⟩
  | [], i, k, po, h => by simp at h
  | o :: pos, i, 0, po, h => by simp at h; subst h; rfl
  | o :: pos, i, k + 1, po, h => by
    have := cDOs_get (ms := ms) (acts := acts) pos (Nat.succ i) k po (by simpa using h)
    simp only [cDOs, List.getElem?_cons_succ]
    rw [this, show Nat.succ i + k = i + (k + 1) by omega]
theorem cDOs_length {ms acts : List Nat} : ∀ (pos : List PO) (i : Nat), (cDOs ms acts i pos).length = pos.length
  | [], i => rfl
  | o :: pos, i => by simp [cDOs, cDOs_length pos]
theorem cOpers_get {nt : Nat} {ops : List Oper} : ∀ (os : List Oper) (k : Nat) (o : Oper), os[k]? = some o → (cOpers tt es nt ops os)[k]? = some (cOper tt es nt ops o)
  | [], k, o, h => by simp at h
  | x :: os, 0, o, h => by simp at h; subst h; rfl
  | x :: os, k + 1, o, h => by simpa [cOpers] using cOpers_get os k o (by simpa using h)
theorem cOpers_length {nt : Nat} {ops : List Oper} : ∀ (os : List Oper), (cOpers tt es nt ops os).length = os.length
  | [] => rfl
  | x :: os => by simp [cOpers, cOpers_length os]

/-- does operation x act? -/
def ActAt (tt : TT) (es : TypeId → Bool) (ops : Array Oper) (x : Nat) : Prop := ∃ o, ops[x]? = some o ∧ isAct (cOp tt es o.op) = true

/-- behind which of the text's operations the world stands when those of L have run -/
def IsPos (tt : TT) (es : TypeId → Bool) (ops : Array Oper) (L : Nat → Prop) (p : Nat) : Prop :=
  (p = 0 ∧ ∀ x, ActAt tt es ops x → ¬ L x) ∨ ∃ w, p = w + 1 ∧ ActAt tt es ops w ∧ L w ∧ ∀ x, ActAt tt es ops x → L x → x ≤ w

structure DrawCtx (tt : TT) (es : TypeId → Bool) (call : Call) (nt : Nat) (ops : Array Oper) (a : Tm) (s : St) (st : Nat → St) (am : Nat → Tm) (vl : Nat → AV) : Prop where
  down : downF 0 ops.toList = true
  st0 : st 0 = s
  am0 : am 0 = a
  op : ∀ j o, ops[j]? = some o → ∃ g, cGuard ops.toList o.guard = some g ∧ okOpds (cOpds o.op.operands.toList) = true ∧ (∀ d, o.dst = some d → d < nt) ∧ StepR ⟨g, o.dst.map path, cOp tt es o.op⟩ call (am j) (st j) (vl j) (am (j + 1)) (st (j + 1))
  chain : ∀ L, Closed ops.toList L → ∀ x y, ActAt tt es ops x → ActAt tt es ops y → x < y → L y → L x
  alloc : ∀ L, Closed ops.toList L → ∀ i o, ops[i]? = some o → isAlloc (cOp tt es o.op) = true → ∀ y, ActAt tt es ops y → i < y → L y → L i
  tmps : ∀ L, Closed ops.toList L → ∀ i j x y, ops[i]? = some x → ops[j]? = some y → i < j → clash ops.toList x y = true → L j → L i
  chk : ∀ L, Closed ops.toList L → ∀ j o f g, ops[j]? = some o → (∀ e ∈ o.after.toList, bindsAny e.ground = true → L e.on) → ¬ L j → cOp tt es o.op = .read f → cGuard ops.toList o.guard = some g → wanted (am j) g = true →
    ∀ p, IsPos tt es ops L p → f (am j) (st p) = some (vl j)

theorem closed_add {ops : List Oper} {L : Nat → Prop} (hL : Closed ops L) {i : Nat} {o : Oper} (ho : ops[i]? = some o) (hr : ∀ e ∈ o.after.toList, bindsAny e.ground = true → L e.on) : Closed ops fun z => L z ∨ z = i := by
  intro y q hq hy e he hb
  rcases hy with hy | rfl
  · exact .inl (hL y q hq hy e he hb)
  · rw [ho] at hq; cases hq; exact .inl (hr e he hb)

theorem draw_ctx {nt : Nat} {ops : Array Oper} {call : Call} {a a' : Tm} {s s' : St} {x : Ex} (h : (cRegion tt es nt ops.toList true).run call a s = .ok x a' s') :
    ∃ st am vl, DrawCtx tt es call nt ops a s st am vl ∧ st ops.size = s' ∧ am ops.size = a' := by
  unfold cRegion at h
  dsimp only at h
  rw [cond_true] at h
  obtain ⟨pos, hpos⟩ : ∃ pos, cOpers tt es nt ops.toList ops.toList = pos := ⟨_, rfl⟩
  obtain ⟨ms, hms⟩ : ∃ ms, masksF ops.toList [] = ms := ⟨_, rfl⟩
  rw [hpos, hms] at h
  obtain ⟨acts, hacts⟩ : ∃ acts, actsF 0 pos = acts := ⟨_, rfl⟩
  rw [hacts] at h
  cases hb : (downF 0 ops.toList && (chainOk ms acts && (allocsOk ms acts 0 pos && tmpsOk ms ops.toList 0 ops.toList))) with
  | false => rw [hb, cond_false] at h; cases h
  | true =>
    rw [hb, cond_true] at h
    simp only [Bool.and_eq_true] at hb
    obtain ⟨hdown, hchain, hallocs, htmps⟩ := hb
    dsimp only at h
    unfold regionD at h
    split at h
    · rename_i a1 s1 tr htr
      cases hchk : chkAll (tr ++ [⟨a1, s1, unit⟩]) (cDOs ms acts 0 pos) tr with
      | false => rw [hchk] at h; cases h
      | true =>
        rw [hchk, cond_true] at h
        cases h
        obtain ⟨t1, ⟨v0, t2⟩, t3⟩ := trace_steps _ _ _ _ _ _ _ htr
        rw [cDOs_length] at t1
        have hlen : tr.length = ops.size := by rw [t1, ← hpos, cOpers_length]; simp
        have hposget : ∀ j o, ops[j]? = some o → pos[j]? = some (cOper tt es nt ops.toList o) := fun j o ho => by
          rw [← hpos]; exact cOpers_get _ j o (by rw [Array.getElem?_toList]; exact ho)
        obtain ⟨all, hall⟩ : ∃ all, tr ++ [⟨a', s', unit⟩] = all := ⟨_, rfl⟩
        rw [hall] at t2 t3 hchk
        have hlast : all[ops.size]? = some ⟨a', s', unit⟩ := by rw [← hall, ← hlen]; simp
        have htrall : ∀ j, j < ops.size → tr[j]? = all[j]? := fun j hj => by rw [← hall, List.getElem?_append_left (by omega)]
        have cases_ : ∀ j o, ops[j]? = some o → ∃ g, cGuard ops.toList o.guard = some g ∧ okOpds (cOpds o.op.operands.toList) = true ∧ (∀ d, o.dst = some d → d < nt) ∧ cOper tt es nt ops.toList o = ⟨g, o.dst.map path, cOp tt es o.op⟩ ∧
            ∃ e e', all[j]? = some e ∧ all[j + 1]? = some e' ∧ StepR ⟨g, o.dst.map path, cOp tt es o.op⟩ call e.a e.s e.v e'.a e'.s := by
          intro j o ho
          obtain ⟨e, e', g1, g2, g3⟩ := t3 j _ (cDOs_get pos 0 j _ (hposget j o ho))
          rcases cOper_cases tt es nt ops.toList o with hb | ⟨g, hg, hok, hdst, hb⟩
          · rw [hb] at g3
            rcases g3 with ⟨_, g3, _⟩ | ⟨g3, _⟩
            · cases g3
            · cases g3
          · rw [hb] at g3
            exact ⟨g, hg, hok, hdst, hb, e, e', g1, g2, g3⟩
        have actIff : ∀ y, y ∈ acts ↔ ActAt tt es ops y := fun y => by
          rw [← hacts, actsF_mem]
          constructor
          · rintro ⟨k, po, rfl, h2, h3⟩
            rw [Nat.zero_add]
            have hk : k < ops.size := by
              rcases Nat.lt_or_ge k ops.size with h | h
              · exact h
              · rw [List.getElem?_eq_none (by rw [← hpos, cOpers_length]; simpa using h)] at h2; cases h2
            have ho : ops[k]? = some ops[k] := Array.getElem?_eq_getElem hk
            obtain ⟨g, _, _, _, hb, _⟩ := cases_ k _ ho
            rw [hposget k _ ho, hb] at h2
            cases h2
            exact ⟨_, ho, h3⟩
          · rintro ⟨o, ho, ha⟩
            obtain ⟨g, _, _, _, hb, _⟩ := cases_ y o ho
            exact ⟨y, _, (Nat.zero_add y).symm, hposget y o ho, by rw [hb]; exact ha⟩
        have hsorted : List.Pairwise (· < ·) acts := hacts ▸ actsF_sorted pos 0
        subst hms
        refine ⟨fun j => ((all[j]?).map TE.s).getD s', fun j => ((all[j]?).map TE.a).getD a', fun j => ((all[j]?).map TE.v).getD unit, ⟨hdown, by rw [t2]; rfl, by rw [t2]; rfl, fun j o ho => ?_, fun L hL y z hy hz hlt hLz => ?_, fun L hL i o ho ha y hy hlt hLy => ?_, fun L hL i j p q hp hq hlt hc hLj => ?_,
          fun L hL j o f g ho hr hnL hf hg hw p hp => ?_⟩, by dsimp only; rw [hlast]; rfl, by dsimp only; rw [hlast]; rfl⟩
        · obtain ⟨g, h1, h2, h3, _, e, e', h5, h6, h7⟩ := cases_ j o ho
          refine ⟨g, h1, h2, h3, ?_⟩
          rw [h5, h6]
          exact h7
        · exact chain_ok hdown hL hchain hsorted ((actIff y).2 hy) ((actIff z).2 hz) hlt hLz
        · obtain ⟨g, _, _, _, hb, _⟩ := cases_ i o ho
          have := allocsOk_ok hallocs i _ (hposget i o ho) (by rw [hb]; exact ha) y ((actIff y).2 hy)
          rw [Nat.zero_add] at this
          rcases this with h | h
          · omega
          · exact hL.pre hdown y i hLy h
        · have := tmpsOk_ok htmps i j p q (by rw [Array.getElem?_toList]; exact hp) (by rw [Array.getElem?_toList]; exact hq) hlt hc
          rw [Nat.zero_add, Nat.zero_add] at this
          exact hL.pre hdown j i hLj this
        · obtain ⟨g', h1, h2, h3, hb, e, e', h5, h6, h7⟩ := cases_ j o ho
          rw [hg] at h1
          cases h1
          rw [h5] at hw ⊢
          have hj : j < ops.size := (Array.getElem?_eq_some_iff.1 ho).1
          have hc := chkAll_ok hchk j _ e (cDOs_get pos 0 j _ (hposget j o ho)) (by rw [htrall j hj]; exact h5)
          unfold chk1 at hc
          dsimp only at hc
          rw [hb] at hc
          dsimp only at hc
          rw [hf] at hc
          dsimp only at hc
          have hw' : wanted e.a g = true := hw
          rw [hw', cond_true, Nat.zero_add] at hc
          have hmem : p ∈ chkOf (masksF ops.toList []) j 0 acts := by
            have hadd := closed_add hL (show ops.toList[j]? = some o by rw [Array.getElem?_toList]; exact ho) hr
            have k1 : ∀ y ∈ acts, isPre (masksF ops.toList []) y j = true → L y := fun y _ hpre => by
              obtain ⟨ed, he, hb', hlt, hx⟩ := isPre_edge hdown (show ops.toList[j]? = some o by rw [Array.getElem?_toList]; exact ho) hpre
              have hon := hr ed he hb'
              rcases hx with rfl | hx
              · exact hon
              · exact hL.pre hdown ed.on y hon hx
            have k2 : ∀ y ∈ acts, L y → isPre (masksF ops.toList []) j y = false := fun y _ hLy => by
              cases hq : isPre (masksF ops.toList []) j y with
              | false => rfl
              | true => exact absurd (hL.pre hdown y j hLy hq) hnL
            rcases hp with ⟨rfl, hno⟩ | ⟨y, rfl, hy1, hy2, hy3⟩
            · exact chk_none (E := L) acts 0 k1 fun y hy hLy => hno y ((actIff y).1 hy) hLy
            · exact chk_some (E := L) acts 0 y k1 k2 (chain_pairs hdown hL acts hchain) hsorted ((actIff y).2 hy1) hy2 fun z hz hLz => hy3 z ((actIff z).1 hz) hLz
          obtain ⟨t, g1, g2⟩ := readsSo_ok hc p hmem
          rw [g1]
          exact g2
    · cases h

end Go.AM
namespace Go.AM

variable {P : Program} {tt : TT} {es : TypeId → Bool} {call : Call} {nt : Nat} {ops : Array Oper} {a : Tm} {s : St} {st : Nat → St} {am : Nat → Tm} {vl : Nat → AV}

open Classical in
noncomputable def lookOf (H : Nat → AO → Prop) (i : Nat) : Option AO := if h : ∃ o, H i o then some h.choose else none
theorem lookOf_has {H : Nat → AO → Prop} {i : Nat} {o : AO} (h : lookOf H i = some o) : H i o := by
  unfold lookOf at h
  split at h
  · rename_i h1; cases h; exact h1.choose_spec
  · cases h
theorem has_lookOf {H : Nat → AO → Prop} (hf : ∀ i o o', H i o → H i o' → o = o') {i : Nat} {o : AO} (h : H i o) : lookOf H i = some o := by
  unfold lookOf
  have h1 : ∃ o, H i o := ⟨o, h⟩
  rw [dif_pos h1]
  exact congrArg some (hf i _ _ h1.choose_spec h)

/-- operation j of the text's run lays o as number i -/
def AllocAt (tt : TT) (es : TypeId → Bool) (ops : Array Oper) (st : Nat → St) (am : Nat → Tm) (j i : Nat) (o : AO) : Prop :=
  ∃ q f mk g, ops[j]? = some q ∧ cOp tt es q.op = .alloc f ∧ cGuard ops.toList q.guard = some g ∧ wanted (am j) g = true ∧ f (am j) = .ok o mk ∧ i = (st j).next

/-- what lies in memory when those of L have run -/
def Has (tt : TT) (es : TypeId → Bool) (ops : Array Oper) (st : Nat → St) (am : Nat → Tm) (L : Nat → Prop) (p i : Nat) (o : AO) : Prop :=
  (st p).at i = some o ∨ ∃ j, L j ∧ p ≤ j ∧ AllocAt tt es ops st am j i o

def dstAt (ops : Array Oper) (j : Nat) : Option Tmp := (ops[j]?).bind (·.dst)

/-- what slot t holds when those of L have run -/
def Slot (ops : Array Oper) (a : Tm) (vl : Nat → AV) (L : Nat → Prop) (t : Tmp) (v : AV) : Prop :=
  (∃ j, L j ∧ dstAt ops j = some t ∧ (∀ j', L j' → dstAt ops j' = some t → j' ≤ j) ∧ v = vl j) ∨ ((∀ j, L j → dstAt ops j ≠ some t) ∧ v = Opd.get a (.tmp (path t)))

section
variable (C : DrawCtx tt es call nt ops a s st am vl)
include C

theorem DrawCtx.up {j : Nat} (hj : j < ops.size) : (st j).next ≤ (st (j + 1)).next := by
  obtain ⟨g, _, _, _, h⟩ := C.op j _ (Array.getElem?_eq_getElem hj)
  rcases h with ⟨_, h, _⟩ | ⟨_, _, h, _⟩
  · exact run_mono h
  · rw [h]; exact Nat.le_refl _
theorem DrawCtx.mono {i j : Nat} (hij : i ≤ j) (hj : j ≤ ops.size) : (st i).next ≤ (st j).next := by
  induction j with
  | zero => rw [Nat.le_zero.1 hij]; exact Nat.le_refl _
  | succ j ih =>
    rcases Nat.eq_or_lt_of_le hij with h | h
    · rw [h]; exact Nat.le_refl _
    · exact Nat.le_trans (ih (by omega) (by omega)) (C.up (by omega))

theorem DrawCtx.allocAt {j i : Nat} {o : AO} (h : AllocAt tt es ops st am j i o) : j < ops.size ∧ st (j + 1) = (st j).new o ∧ i = (st j).next := by
  obtain ⟨q, f, mk, g, h1, h2, h3, h4, h5, h6⟩ := h
  obtain ⟨g', k1, _, _, k2⟩ := C.op j q h1
  rw [h3] at k1
  cases k1
  refine ⟨(Array.getElem?_eq_some_iff.1 h1).1, ?_, h6⟩
  rcases k2 with ⟨_, k2, _⟩ | ⟨k2, _⟩
  · dsimp only at k2
    rw [h2] at k2
    simp only [POp.run, h5] at k2
    exact (CO.ok.inj k2).2.symm
  · dsimp only at k2
    rw [h4] at k2; cases k2

/-- slots: the text's value is the one that lies there -/
theorem DrawCtx.text (t : Tmp) : ∀ q, q ≤ ops.size → (∃ j, j < q ∧ dstAt ops j = some t ∧ (∀ j', j < j' → j' < q → dstAt ops j' ≠ some t) ∧ Opd.get (am q) (.tmp (path t)) = vl j) ∨ ((∀ j, j < q → dstAt ops j ≠ some t) ∧ Opd.get (am q) (.tmp (path t)) = Opd.get a (.tmp (path t))) := by
  intro q
  induction q with
  | zero => intro _; exact .inr ⟨fun j hj => by omega, by rw [C.am0]⟩
  | succ q ih =>
    intro hq
    have hqo : ops[q]? = some ops[q] := Array.getElem?_eq_getElem (by omega)
    obtain ⟨g, _, _, _, h⟩ := C.op q _ hqo
    have ham : am (q + 1) = putA (ops[q].dst.map path) (vl q) (am q) := by
      rcases h with ⟨_, _, h⟩ | ⟨_, h1, _, h⟩
      · exact h
      · rw [h1]; exact h
    have hd : dstAt ops q = ops[q].dst := by simp only [dstAt, hqo, Option.bind_some]
    by_cases e : ops[q].dst = some t
    · refine .inl ⟨q, by omega, by rw [hd, e], fun j' h1 h2 => by omega, ?_⟩
      rw [ham, e]
      simp only [Option.map_some, putA, Opd.get, Tr.get_path_set_same]
    · have hget : Opd.get (am (q + 1)) (.tmp (path t)) = Opd.get (am q) (.tmp (path t)) := by
        rw [ham]
        cases hdd : ops[q].dst with
        | none => rfl
        | some d =>
          have hne : d ≠ t := fun h => e (by rw [hdd, h])
          simp only [Option.map_some, putA, Opd.get, Tr.get_path_set_ne hne]
      rcases ih (by omega) with ⟨j, h1, h2, h3, h4⟩ | ⟨h1, h2⟩
      · refine .inl ⟨j, by omega, h2, fun j' k1 k2 => ?_, by rw [hget, h4]⟩
        by_cases ej : j' = q
        · subst ej; rw [hd]; exact e
        · exact h3 j' k1 (by omega)
      · refine .inr ⟨fun j hj => ?_, by rw [hget, h2]⟩
        by_cases ej : j = q
        · subst ej; rw [hd]; exact e
        · exact h1 j (by omega)

theorem DrawCtx.slot_at {L : Nat → Prop} {t : Tmp} {i : Nat} (hi : i ≤ ops.size) (h : ∀ j, dstAt ops j = some t → (L j ↔ j < i)) : Slot ops a vl L t (Opd.get (am i) (.tmp (path t))) := by
  rcases C.text t i hi with ⟨j, h1, h2, h3, h4⟩ | ⟨h1, h2⟩
  · refine .inl ⟨j, (h j h2).2 h1, h2, fun j' k1 k2 => ?_, h4⟩
    have := (h j' k2).1 k1
    rcases Nat.lt_or_ge j j' with h5 | h5
    · exact absurd k2 (h3 j' h5 this)
    · exact h5
  · exact .inr ⟨fun j k1 k2 => h1 j ((h j k2).1 k1) k2, h2⟩

theorem dst_get {j : Nat} {t : Tmp} (h : dstAt ops j = some t) : ∃ o, ops[j]? = some o ∧ o.dst = some t := by
  have _hC := C
  unfold dstAt at h
  cases ho : ops[j]? with
  | none => rw [ho] at h; cases h
  | some o => rw [ho] at h; exact ⟨o, rfl, h⟩

/-- an operation that may run next: what it reads -/
theorem DrawCtx.slot_read {L : Nat → Prop} (hL : Closed ops.toList L) {i : Nat} {o : Oper} (ho : ops[i]? = some o) (hr : ∀ e ∈ o.after.toList, bindsAny e.ground = true → L e.on) (hn : ¬ L i) {t : Tmp} (ht : t ∈ readsOf ops.toList o) :
    Slot ops a vl L t (Opd.get (am i) (.tmp (path t))) := by
  have hL' := closed_add hL (show ops.toList[i]? = some o by rw [Array.getElem?_toList]; exact ho) hr
  refine C.slot_at (Nat.le_of_lt (Array.getElem?_eq_some_iff.1 ho).1) fun j hj => ?_
  obtain ⟨x, hx, hd⟩ := dst_get C hj
  have hdo : dstOf x = [t] := by simp only [dstOf, hd]
  constructor
  · intro hLj
    rcases Nat.lt_trichotomy j i with h | h | h
    · exact h
    · subst h; exact absurd hLj hn
    · refine absurd (C.tmps L hL i j o x ho hx h ?_ hLj) hn
      simp only [clash, Bool.or_eq_true]
      exact .inr (.inr ((anyIn_iff _ _).2 ⟨t, by rw [hdo]; exact List.mem_singleton_self _, ht⟩))
  · intro hlt
    rcases C.tmps _ hL' j i x o hx ho hlt (by simp only [clash, Bool.or_eq_true]; exact .inl ((anyIn_iff _ _).2 ⟨t, by rw [hdo]; exact List.mem_singleton_self _, ht⟩)) (.inr rfl) with h | h
    · exact h
    · omega

/-- .. and what it writes -/
theorem DrawCtx.slot_write {L : Nat → Prop} (hL : Closed ops.toList L) {i : Nat} {o : Oper} (ho : ops[i]? = some o) (hn : ¬ L i) {t : Tmp} {v : AV} (h : Slot ops a vl (fun z => L z ∨ z = i) t v) :
    (o.dst = some t ∧ v = vl i) ∨ (o.dst ≠ some t ∧ Slot ops a vl L t v) := by
  have hdi : dstAt ops i = o.dst := by simp only [dstAt, ho, Option.bind_some]
  by_cases e : o.dst = some t
  · refine .inl ⟨e, ?_⟩
    rcases h with ⟨j, h1, h2, h3, h4⟩ | ⟨h1, _⟩
    · have hij := h3 i (.inr rfl) (by rw [hdi, e])
      rcases h1 with h1 | h1
      · obtain ⟨x, hx, hd⟩ := dst_get C h2
        have hlt : i < j := by
          rcases Nat.eq_or_lt_of_le hij with h | h
          · subst h; exact absurd h1 hn
          · exact h
        refine absurd (C.tmps L hL i j o x ho hx hlt ?_ h1) hn
        simp only [clash, Bool.or_eq_true]
        exact .inr (.inl ((anyIn_iff _ _).2 ⟨t, by simp only [dstOf, e]; exact List.mem_singleton_self _, by simp only [dstOf, hd]; exact List.mem_singleton_self _⟩))
      · rw [h4, h1]
    · exact absurd (by rw [hdi, e]) (h1 i (.inr rfl))
  · refine .inr ⟨e, ?_⟩
    rcases h with ⟨j, h1, h2, h3, h4⟩ | ⟨h1, h2⟩
    · refine .inl ⟨j, ?_, h2, fun j' k1 k2 => h3 j' (.inl k1) k2, h4⟩
      rcases h1 with h1 | h1
      · exact h1
      · subst h1; rw [hdi] at h2; exact absurd h2 e
    · exact .inr ⟨fun j k => h1 j (.inl k), h2⟩

end

end Go.AM
set_option linter.unusedSectionVars false
namespace Go.AM

variable {P : Program} {tt : TT} {es : TypeId → Bool} {call : Call} {nt : Nat} {ops : Array Oper} {a : Tm} {s : St} {st : Nat → St} {am : Nat → Tm} {vl : Nat → AV} {D : Nat → Prop} {μ : Nat → Loc} {w : World}

structure Inv (tt : TT) (es : TypeId → Bool) (nt : Nat) (ops : Array Oper) (a : Tm) (s : St) (st : Nat → St) (am : Nat → Tm) (vl : Nat → AV) (D : Nat → Prop) (μ : Nat → Loc) (w : World) (L : Nat → Prop) (p : Nat) (ac : Go.Act) (w1 : World) (D1 : Nat → Prop) (μ1 : Nat → Loc) : Prop where
  closed : Closed ops.toList L
  sub : ∀ i, D i → D1 i
  ext : ∀ i, D i → μ1 i = μ i
  new : ∀ i, D1 i → D i ∨ ∃ j, L j ∧ j < ops.size ∧ (st j).next ≤ i ∧ i < (st (j + 1)).next
  sr : SR D1 μ1 (lookOf (Has tt es ops st am L p)) w1
  size : w.heap.size ≤ w1.heap.size
  keep : ∀ r, r < w.heap.size → (∀ i o, s.at i = some o → wr o = true → (μ i).blk ≠ r) → w1.heap[r]? = w.heap[r]?
  own : ∀ i o, Has tt es ops st am L p i o → (∃ j o', s.at j = some o' ∧ (wr o = true → wr o' = true) ∧ (μ j).blk = (μ1 i).blk) ∨ w.heap.size ≤ (μ1 i).blk
  same : Same w w1
  dom : ∀ i o, (st p).at i = some o → (∃ o', s.at i = some o') ∨ (s.next ≤ i ∧ i < (st p).next)
  pos : IsPos tt es ops L p
  slots : ∀ t v, Slot ops a vl L t v → VR D1 μ1 v (ac.tmps.getD t undef)
  tmps : nt ≤ ac.tmps.size
  defers : ac.defers = []

section
variable (C : DrawCtx tt es call nt ops a s st am vl) (hdis : Dis D s (st ops.size)) (hs0 : SR D μ s.at w)
include C hdis hs0

theorem not_D {j i : Nat} (hj : j < ops.size) (h1 : (st j).next ≤ i) (h2 : i < (st (j + 1)).next) : ¬ D i := fun hD => by
  have g1 := C.mono (Nat.zero_le j) (Nat.le_of_lt hj)
  rw [C.st0] at g1
  have g2 := C.mono (show j + 1 ≤ ops.size from hj) (Nat.le_refl _)
  have := hdis i hD
  omega

theorem pos_le {L : Nat → Prop} {p : Nat} (hp : IsPos tt es ops L p) : p ≤ ops.size := by
  rcases hp with ⟨rfl, _⟩ | ⟨x, rfl, ⟨o, ho, _⟩, _⟩
  · omega
  · exact (Array.getElem?_eq_some_iff.1 ho).1

theorem Inv.func {L : Nat → Prop} {p : Nat} {ac : Go.Act} {w1 : World} {D1 : Nat → Prop} {μ1 : Nat → Loc} (I : Inv tt es nt ops a s st am vl D μ w L p ac w1 D1 μ1) : ∀ i o o', Has tt es ops st am L p i o → Has tt es ops st am L p i o' → o = o' := by
  have key : ∀ i o, (st p).at i = some o → ∀ j o', p ≤ j → AllocAt tt es ops st am j i o' → False := by
    intro i o h j o' hpj ha
    obtain ⟨hj, h1, h2⟩ := C.allocAt ha
    have hnx : (st (j + 1)).next = (st j).next + 1 := by rw [h1]; rfl
    rcases I.dom i o h with ⟨o2, h3⟩ | h3
    · exact not_D C hdis hs0 hj (by omega) (by omega) (hs0.live i o2 h3)
    · have := C.mono hpj (Nat.le_of_lt hj); omega
  intro i o o' h h'
  rcases h with h | ⟨j, h1, h2, h3⟩
  · rcases h' with h' | ⟨j, h1, h2, h3⟩
    · rw [h] at h'; exact Option.some.inj h'
    · exact (key i o h j o' h2 h3).elim
  · rcases h' with h' | ⟨j', k1, k2, k3⟩
    · exact (key i o' h' j o h2 h3).elim
    · obtain ⟨hj, e1, e2⟩ := C.allocAt h3
      obtain ⟨hj', e3, e4⟩ := C.allocAt k3
      have n1 : (st (j + 1)).next = (st j).next + 1 := by rw [e1]; rfl
      have n2 : (st (j' + 1)).next = (st j').next + 1 := by rw [e3]; rfl
      have : j = j' := by
        rcases Nat.lt_trichotomy j j' with h | h | h
        · have := C.mono (show j + 1 ≤ j' from h) (Nat.le_of_lt hj'); omega
        · exact h
        · have := C.mono (show j' + 1 ≤ j from h) (Nat.le_of_lt hj); omega
      subst this
      obtain ⟨q, f, mk, g, a1, a2, a3, a4, a5, a6⟩ := h3
      obtain ⟨q', f', mk', g', b1, b2, b3, b4, b5, b6⟩ := k3
      rw [a1] at b1; cases b1
      rw [a2] at b2; cases b2
      rw [a5] at b5; cases b5
      rfl

/-- the text's state at q lies there, if all that was laid up to it has been -/
theorem Inv.at {L : Nat → Prop} {p : Nat} {ac : Go.Act} {w1 : World} {D1 : Nat → Prop} {μ1 : Nat → Loc} (I : Inv tt es nt ops a s st am vl D μ w L p ac w1 D1 μ1) : ∀ q, p ≤ q → q ≤ ops.size → (∀ x, p ≤ x → x < q → ¬ ActAt tt es ops x) →
    (∀ x o, ops[x]? = some o → isAlloc (cOp tt es o.op) = true → p ≤ x → x < q → L x) → ∀ i o, (st q).at i = some o → Has tt es ops st am L p i o := by
  intro q
  induction q with
  | zero => intro h1 _ _ _ i o h; have : p = 0 := by omega
            subst this; exact .inl h
  | succ q ih =>
    intro h1 h2 h3 h4 i o h
    by_cases e : p = q + 1
    · subst e; exact .inl h
    · have ih' := ih (by omega) (by omega) (fun x k1 k2 => h3 x k1 (by omega)) (fun x o k1 k2 k3 k4 => h4 x o k1 k2 k3 (by omega))
      have hqo : ops[q]? = some ops[q] := Array.getElem?_eq_getElem (by omega)
      obtain ⟨g, hg, _, _, hstep⟩ := C.op q _ hqo
      have hact : isAct (cOp tt es ops[q].op) = false := by
        cases hc : isAct (cOp tt es ops[q].op) with
        | false => rfl
        | true => exact absurd ⟨_, hqo, hc⟩ (h3 q (by omega) (by omega))
      rcases hstep with ⟨hw, hrun, _⟩ | ⟨_, _, hst, _⟩
      · dsimp only at hrun hw
        cases hc : cOp tt es ops[q].op with
        | pure f =>
          rw [hc] at hrun
          simp only [POp.run] at hrun
          split at hrun
          · have hst : st (q + 1) = st q := (CO.ok.inj hrun).2.symm
            exact ih' i o (by rw [← hst]; exact h)
          · cases hrun
        | read f =>
          rw [hc] at hrun
          simp only [POp.run] at hrun
          split at hrun
          · have hst : st (q + 1) = st q := (CO.ok.inj hrun).2.symm
            exact ih' i o (by rw [← hst]; exact h)
          · cases hrun
        | alloc f =>
          rw [hc] at hrun
          simp only [POp.run] at hrun
          split at hrun
          · rename_i ob mk hf
            have hst : st (q + 1) = (st q).new ob := (CO.ok.inj hrun).2.symm
            by_cases ei : i = (st q).next
            · subst ei
              rw [hst, St.at_new_same] at h
              cases h
              exact .inr ⟨q, h4 q _ hqo (by rw [hc]; rfl) (by omega) (by omega), by omega, _, f, mk, g, hqo, hc, hg, hw, hf, rfl⟩
            · rw [hst, St.at_new_ne _ (Ne.symm ei)] at h
              exact ih' i o h
          · cases hrun
        | eff f => rw [hc] at hact; cases hact
        | call f => rw [hc] at hact; cases hact
      · exact ih' i o (by rw [← hst]; exact h)

theorem Inv.dom_at {L : Nat → Prop} {p : Nat} {ac : Go.Act} {w1 : World} {D1 : Nat → Prop} {μ1 : Nat → Loc} (I : Inv tt es nt ops a s st am vl D μ w L p ac w1 D1 μ1) {q : Nat} (hq : p ≤ q) (hqn : q ≤ ops.size) (h3 : ∀ x, p ≤ x → x < q → ¬ ActAt tt es ops x) :
    ∀ i o, (st q).at i = some o → (∃ o', s.at i = some o') ∨ (s.next ≤ i ∧ i < (st q).next) := by
  induction q with
  | zero => have : p = 0 := by omega
            subst this; exact I.dom
  | succ q ih =>
    intro i o h
    by_cases e : p = q + 1
    · subst e; exact I.dom i o h
    · have ih' := ih (by omega) (by omega) fun x k1 k2 => h3 x k1 (by omega)
      have hup := C.up (show q < ops.size by omega)
      have h0 := C.mono (Nat.zero_le q) (by omega : q ≤ ops.size)
      rw [C.st0] at h0
      have lift : (∃ o', s.at i = some o') ∨ (s.next ≤ i ∧ i < (st q).next) → (∃ o', s.at i = some o') ∨ (s.next ≤ i ∧ i < (st (q + 1)).next) := fun h => h.imp id fun h => ⟨h.1, by omega⟩
      have hqo : ops[q]? = some ops[q] := Array.getElem?_eq_getElem (by omega)
      obtain ⟨g, hg, _, _, hstep⟩ := C.op q _ hqo
      have hact : isAct (cOp tt es ops[q].op) = false := by
        cases hc : isAct (cOp tt es ops[q].op) with
        | false => rfl
        | true => exact absurd ⟨_, hqo, hc⟩ (h3 q (by omega) (by omega))
      rcases hstep with ⟨hw, hrun, _⟩ | ⟨_, _, hst, _⟩
      · dsimp only at hrun hw
        cases hc : cOp tt es ops[q].op with
        | pure f =>
          rw [hc] at hrun
          simp only [POp.run] at hrun
          split at hrun
          · have hst : st (q + 1) = st q := (CO.ok.inj hrun).2.symm
            exact lift (ih' i o (by rw [← hst]; exact h))
          · cases hrun
        | read f =>
          rw [hc] at hrun
          simp only [POp.run] at hrun
          split at hrun
          · have hst : st (q + 1) = st q := (CO.ok.inj hrun).2.symm
            exact lift (ih' i o (by rw [← hst]; exact h))
          · cases hrun
        | alloc f =>
          rw [hc] at hrun
          simp only [POp.run] at hrun
          split at hrun
          · rename_i ob mk hf
            have hst : st (q + 1) = (st q).new ob := (CO.ok.inj hrun).2.symm
            have hnx : (st (q + 1)).next = (st q).next + 1 := by rw [hst]; rfl
            by_cases ei : i = (st q).next
            · exact .inr ⟨by omega, by omega⟩
            · rw [hst, St.at_new_ne _ (Ne.symm ei)] at h
              exact lift (ih' i o h)
          · cases hrun
        | eff f => rw [hc] at hact; cases hact
        | call f => rw [hc] at hact; cases hact
      · exact lift (ih' i o (by rw [← hst]; exact h))

/-- the numbers of the next operation are not in use -/
theorem Inv.dis {L : Nat → Prop} {p : Nat} {ac : Go.Act} {w1 : World} {D1 : Nat → Prop} {μ1 : Nat → Loc} (I : Inv tt es nt ops a s st am vl D μ w L p ac w1 D1 μ1) {i : Nat} (hi : i < ops.size) (hn : ¬ L i) : Dis D1 (st i) (st (i + 1)) := by
  intro k hk
  rcases I.new k hk with h | ⟨j, h1, h2, h3, h4⟩
  · have g1 := C.mono (Nat.zero_le i) (Nat.le_of_lt hi)
    rw [C.st0] at g1
    have g2 := C.mono (show i + 1 ≤ ops.size from hi) (Nat.le_refl _)
    have := hdis k h
    omega
  · rcases Nat.lt_trichotomy j i with h | h | h
    · have := C.mono (show j + 1 ≤ i from h) (Nat.le_of_lt hi); omega
    · subst h; exact absurd h1 hn
    · have := C.mono (show i + 1 ≤ j from h) (Nat.le_of_lt h2); omega

end

/-- the next operation: what it needs -/
structure Ready (ops : Array Oper) (L : Nat → Prop) (i : Nat) (o : Oper) : Prop where
  get : ops[i]? = some o
  pre : ∀ e ∈ o.after.toList, bindsAny e.ground = true → L e.on
  fresh : ¬ L i

section
variable (C : DrawCtx tt es call nt ops a s st am vl) (hdis : Dis D s (st ops.size)) (hs0 : SR D μ s.at w)
variable {L : Nat → Prop} {p : Nat} {ac : Go.Act} {w1 : World} {D1 : Nat → Prop} {μ1 : Nat → Loc} (I : Inv tt es nt ops a s st am vl D μ w L p ac w1 D1 μ1) {i : Nat} {o : Oper} (R : Ready ops L i o)
include C hdis hs0 I R

theorem Ready.closed : Closed ops.toList fun z => L z ∨ z = i := closed_add I.closed (by rw [Array.getElem?_toList]; exact R.get) R.pre

theorem step_slots {D2 : Nat → Prop} {μ2 : Nat → Loc} {v' : Value} (hD : ∀ k, D1 k → D2 k) (hμ : ∀ k, D1 k → μ2 k = μ1 k) (hv : VR D2 μ2 (vl i) v') (hd : ∀ d, o.dst = some d → d < nt) :
    ∀ t v, Slot ops a vl (fun z => L z ∨ z = i) t v → VR D2 μ2 v ((ac.put o.dst v').tmps.getD t undef) := by
  intro t v h
  rcases C.slot_write I.closed R.get R.fresh h with ⟨h1, rfl⟩ | ⟨h1, h2⟩
  · rw [h1]
    have : t < ac.tmps.size := Nat.lt_of_lt_of_le (hd t h1) I.tmps
    simp only [Go.Act.put]
    rw [Array.getD_eq_getD_getElem?, Array.getElem?_setIfInBounds_self_of_lt this]
    exact hv
  · have := (I.slots t v h2).mono hD hμ
    cases hdst : o.dst with
    | none => exact this
    | some d =>
      have hne : d ≠ t := fun e => h1 (by rw [hdst, e])
      simp only [Go.Act.put]
      rw [Array.getD_eq_getD_getElem?, Array.getElem?_setIfInBounds_ne hne, ← Array.getD_eq_getD_getElem?]
      exact this

theorem put_size (v' : Value) : nt ≤ (ac.put o.dst v').tmps.size := by
  have := I.tmps
  cases o.dst with
  | none => exact this
  | some d => simpa [Go.Act.put] using this
theorem put_defers (v' : Value) : (ac.put o.dst v').defers = [] := by
  cases o.dst with
  | none => exact I.defers
  | some d => exact I.defers

/-- nothing was done to memory -/
theorem step_quiet {v' : Value} {w2 : World} (hact : ¬ ActAt tt es ops i) (hno : ∀ k ob, ¬ AllocAt tt es ops st am i k ob) (hd : ∀ d, o.dst = some d → d < nt) (hv : VR D1 μ1 (vl i) v') (hw : w2 = w1) :
    Inv tt es nt ops a s st am vl D μ w (fun z => L z ∨ z = i) p (ac.put o.dst v') w2 D1 μ1 := by
  subst hw
  have hhas : ∀ k ob, Has tt es ops st am (fun z => L z ∨ z = i) p k ob → Has tt es ops st am L p k ob := by
    rintro k ob (h | ⟨j, h1 | rfl, h2, h3⟩)
    · exact .inl h
    · exact .inr ⟨j, h1, h2, h3⟩
    · exact absurd h3 (hno k ob)
  exact {
    closed := Ready.closed C hdis hs0 I R
    sub := I.sub
    ext := I.ext
    new := fun k hk => (I.new k hk).imp id fun ⟨j, h1, h2⟩ => ⟨j, .inl h1, h2⟩
    sr := I.sr.less fun k ob h => has_lookOf (I.func C hdis hs0) (hhas k ob (lookOf_has h))
    size := I.size
    keep := I.keep
    own := fun k ob h => I.own k ob (hhas k ob h)
    same := I.same
    dom := I.dom
    pos := by
      rcases I.pos with ⟨h1, h2⟩ | ⟨x, h1, h2, h3, h4⟩
      · refine .inl ⟨h1, fun y hy => ?_⟩
        rintro (h | rfl)
        · exact h2 y hy h
        · exact hact hy
      · refine .inr ⟨x, h1, h2, .inl h3, fun y hy => ?_⟩
        rintro (h | rfl)
        · exact h4 y hy h
        · exact absurd hy hact
    slots := step_slots C hdis hs0 I R (fun _ h => h) (fun _ _ => rfl) hv hd
    tmps := put_size C hdis hs0 I R v'
    defers := put_defers C hdis hs0 I R v' }

/-- a block was laid -/
theorem step_alloc {v' : Value} {w2 : World} {c : Obj} {ob : AO} (hact : ¬ ActAt tt es ops i) (ha : ∀ k ob', AllocAt tt es ops st am i k ob' → k = (st i).next ∧ ob' = ob) (hnx : (st (i + 1)).next = (st i).next + 1) (hd : ∀ d, o.dst = some d → d < nt)
    (hv : VR (more D1 (st i).next) (upd μ1 (st i).next ⟨w1.heap.size, 0, topOf c⟩) (vl i) v') (hh : w2.heap = w1.heap.push c) (hs : Same w1 w2)
    (hor : OR (more D1 (st i).next) (upd μ1 (st i).next ⟨w1.heap.size, 0, topOf c⟩) ob ⟨w1.heap.size, 0, topOf c⟩ c) :
    Inv tt es nt ops a s st am vl D μ w (fun z => L z ∨ z = i) p (ac.put o.dst v') w2 (more D1 (st i).next) (upd μ1 (st i).next ⟨w1.heap.size, 0, topOf c⟩) := by
  have hi : i < ops.size := (Array.getElem?_eq_some_iff.1 R.get).1
  have hfresh : ¬ D1 (st i).next := (I.dis C hdis hs0 hi R.fresh).fresh hnx
  have hhas : ∀ k ob', Has tt es ops st am (fun z => L z ∨ z = i) p k ob' → Has tt es ops st am L p k ob' ∨ (k = (st i).next ∧ ob' = ob) := by
    rintro k ob' (h | ⟨j, h1 | rfl, h2, h3⟩)
    · exact .inl (.inl h)
    · exact .inl (.inr ⟨j, h1, h2, h3⟩)
    · exact .inr (ha k ob' h3)
  have hold : ∀ k ob', Has tt es ops st am L p k ob' → lookOf (Has tt es ops st am L p) k = some ob' := fun k ob' h => has_lookOf (I.func C hdis hs0) h
  have hne : ∀ k ob', Has tt es ops st am L p k ob' → k ≠ (st i).next := fun k ob' h e => hfresh (e ▸ I.sr.live k ob' (hold k ob' h))
  have hlt : ∀ k ob', Has tt es ops st am L p k ob' → (μ1 k).blk < w1.heap.size := fun k ob' h => I.sr.lt (hold k ob' h)
  exact {
    closed := Ready.closed C hdis hs0 I R
    sub := fun k h => .inl (I.sub k h)
    ext := fun k h => (upd_old hfresh k (I.sub k h)).trans (I.ext k h)
    new := fun k hk => by
      rcases hk with hk | hk
      · exact (I.new k hk).imp id fun ⟨j, h1, h2⟩ => ⟨j, .inl h1, h2⟩
      · exact .inr ⟨i, .inr rfl, hi, by omega, by omega⟩
    sr := by
      refine ⟨fun k ob' h => ?_, fun k ob' h => ?_, fun k l ob' ob2 h h2 e => ?_, fun g hg => ?_⟩
      · rcases hhas k ob' (lookOf_has h) with h | ⟨h, _⟩
        · exact .inl (I.sr.live k ob' (hold k ob' h))
        · exact .inr h
      · rcases hhas k ob' (lookOf_has h) with h | ⟨h, h'⟩
        · obtain ⟨c0, hc0, hor0⟩ := I.sr.obj k ob' (hold k ob' h)
          rw [upd_ne (hne k ob' h)]
          refine ⟨c0, ?_, hor0.mono (fun _ h => .inl h) (upd_old hfresh)⟩
          have hl := hlt k ob' h
          rw [hh, Array.getElem?_push_lt hl]
          rw [Array.getElem?_eq_getElem hl] at hc0
          exact hc0
        · subst h; subst h'
          rw [upd_same]
          exact ⟨c, by rw [hh]; simp, hor⟩
      · rcases hhas k ob' (lookOf_has h) with h | ⟨h, _⟩
        · rcases hhas l ob2 (lookOf_has h2) with h2 | ⟨h2, _⟩
          · rw [upd_ne (hne k ob' h), upd_ne (hne l ob2 h2)] at e
            exact I.sr.inj k l ob' ob2 (hold k ob' h) (hold l ob2 h2) e
          · subst h2
            rw [upd_same, upd_ne (hne k ob' h)] at e
            have := hlt k ob' h
            simp only at e; omega
        · rcases hhas l ob2 (lookOf_has h2) with h2 | ⟨h2, _⟩
          · subst h
            rw [upd_same, upd_ne (hne l ob2 h2)] at e
            have := hlt l ob2 h2
            simp only at e; omega
          · rw [h, h2]
      · obtain ⟨g1, g2, g3⟩ := I.sr.glob g hg
        have : g ≠ (st i).next := fun e => hfresh (e ▸ g1)
        rw [upd_ne this]
        exact ⟨.inl g1, g2, g3⟩
    size := by rw [hh]; simp; exact Nat.le_succ_of_le I.size
    keep := fun r hr hno => by
      rw [← I.keep r hr hno, hh]
      have hl : r < w1.heap.size := Nat.lt_of_lt_of_le hr I.size
      rw [Array.getElem?_push_lt hl, Array.getElem?_eq_getElem hl]
    own := fun k ob' h => by
      rcases hhas k ob' h with h | ⟨h, _⟩
      · rw [upd_ne (hne k ob' h)]; exact I.own k ob' h
      · subst h; rw [upd_same]; exact .inr I.size
    same := I.same.trans hs
    dom := I.dom
    pos := by
      rcases I.pos with ⟨h1, h2⟩ | ⟨x, h1, h2, h3, h4⟩
      · refine .inl ⟨h1, fun y hy => ?_⟩
        rintro (h | rfl)
        · exact h2 y hy h
        · exact hact hy
      · refine .inr ⟨x, h1, h2, .inl h3, fun y hy => ?_⟩
        rintro (h | rfl)
        · exact h4 y hy h
        · exact absurd hy hact
    slots := step_slots C hdis hs0 I R (fun _ h => .inl h) (upd_old hfresh) hv hd
    tmps := put_size C hdis hs0 I R v'
    defers := put_defers C hdis hs0 I R v' }

/-- where the next of those that act stands -/
theorem act_place (hact : ActAt tt es ops i) : p ≤ i ∧ (∀ x, p ≤ x → x < i → ¬ ActAt tt es ops x) ∧ (∀ x q, ops[x]? = some q → isAlloc (cOp tt es q.op) = true → p ≤ x → x < i → L x) ∧ (∀ x, ActAt tt es ops x → L x → x < i) := by
  have hcl := Ready.closed C hdis hs0 I R
  have before : ∀ x, ActAt tt es ops x → x < i → L x := fun x hx hlt => by
    rcases C.chain _ hcl x i hx hact hlt (.inr rfl) with h | h
    · exact h
    · omega
  have after : ∀ x, ActAt tt es ops x → L x → x < i := fun x hx hLx => by
    rcases Nat.lt_trichotomy x i with h | h | h
    · exact h
    · subst h; exact absurd hLx R.fresh
    · exact absurd (C.chain L I.closed i x hact hx h hLx) R.fresh
  refine ⟨?_, fun x h1 h2 hx => ?_, fun x q hq ha _ hlt => ?_, after⟩
  · rcases I.pos with ⟨h1, _⟩ | ⟨x, h1, h2, h3, _⟩
    · omega
    · have := after x h2 h3; omega
  · rcases I.pos with ⟨h3, h4⟩ | ⟨y, h3, _, _, h4⟩
    · exact h4 x hx (before x hx h2)
    · have := h4 x hx (before x hx h2); omega
  · rcases C.alloc _ hcl x q hq ha i hact hlt (.inr rfl) with h | h
    · exact h
    · omega

/-- one that acts -/
theorem step_act {v' : Value} {w2 : World} {D2 : Nat → Prop} {μ2 : Nat → Loc} (hact : ActAt tt es ops i) (hd : ∀ d, o.dst = some d → d < nt) (hst : Stp D1 μ1 (st i) w1 D2 μ2 (st (i + 1)) w2) (hv : VR D2 μ2 (vl i) v') :
    Inv tt es nt ops a s st am vl D μ w (fun z => L z ∨ z = i) (i + 1) (ac.put o.dst v') w2 D2 μ2 := by
  have hi : i < ops.size := (Array.getElem?_eq_some_iff.1 R.get).1
  obtain ⟨hpi, hna, hal, haft⟩ := act_place C hdis hs0 I R hact
  have hat := I.at C hdis hs0 i hpi (Nat.le_of_lt hi) hna hal
  have hdm := I.dom_at C hdis hs0 hpi (Nat.le_of_lt hi) hna
  have hold : ∀ k ob', Has tt es ops st am L p k ob' → lookOf (Has tt es ops st am L p) k = some ob' := fun k ob' h => has_lookOf (I.func C hdis hs0) h
  -- the blocks that lie beside the text's state
  have hext : ∀ j k ob, L j → i + 1 ≤ j → AllocAt tt es ops st am j k ob → Has tt es ops st am L p k ob ∧ (∀ o', (st i).at k ≠ some o') ∧ (∀ o', (st (i + 1)).at k ≠ some o') := by
    intro j k ob h1 h2 h3
    obtain ⟨hj, e1, e2⟩ := C.allocAt h3
    have hnx : (st (j + 1)).next = (st j).next + 1 := by rw [e1]; rfl
    have hm := C.mono h2 (Nat.le_of_lt hj)
    have hup := C.up hi
    have n1 : ∀ o', (st i).at k ≠ some o' := fun o' h => by
      rcases hdm k o' h with ⟨o2, h⟩ | h
      · exact not_D C hdis hs0 hj (by omega) (by omega) (hs0.live k o2 h)
      · omega
    refine ⟨.inr ⟨j, h1, by omega, h3⟩, n1, fun o' h => ?_⟩
    rcases hst.dom k o' h with ⟨o2, h⟩ | h
    · exact n1 o2 h
    · omega
  have hblk : ∀ j k ob, L j → i + 1 ≤ j → AllocAt tt es ops st am j k ob → μ2 k = μ1 k ∧ D1 k ∧ (μ1 k).blk < w1.heap.size ∧ w2.heap[(μ1 k).blk]? = w1.heap[(μ1 k).blk]? := by
    intro j k ob h1 h2 h3
    obtain ⟨g1, g2, g3⟩ := hext j k ob h1 h2 h3
    have hD1 := I.sr.live k ob (hold k ob g1)
    have hl := I.sr.lt (hold k ob g1)
    refine ⟨hst.ext k hD1, hD1, hl, hst.keep _ hl fun l o' hl' _ e => ?_⟩
    have := I.sr.inj l k o' ob (hold l o' (hat l o' hl')) (hold k ob g1) e
    subst this
    exact g2 o' hl'
  have hsplit : ∀ k ob, Has tt es ops st am (fun z => L z ∨ z = i) (i + 1) k ob → (st (i + 1)).at k = some ob ∨ ∃ j, L j ∧ i + 1 ≤ j ∧ AllocAt tt es ops st am j k ob := by
    rintro k ob (h | ⟨j, h1 | rfl, h2, h3⟩)
    · exact .inl h
    · exact .inr ⟨j, h1, h2, h3⟩
    · omega
  exact {
    closed := Ready.closed C hdis hs0 I R
    sub := fun k h => hst.sub k (I.sub k h)
    ext := fun k h => (hst.ext k (I.sub k h)).trans (I.ext k h)
    new := fun k hk => by
      rcases hst.new k hk with hk | hk
      · exact (I.new k hk).imp id fun ⟨j, h1, h2⟩ => ⟨j, .inl h1, h2⟩
      · exact .inr ⟨i, .inr rfl, hi, hk⟩
    sr := by
      refine ⟨fun k ob h => ?_, fun k ob h => ?_, fun k l ob ob2 h h2 e => ?_, hst.sr.glob⟩
      · rcases hsplit k ob (lookOf_has h) with h | ⟨j, h1, h2, h3⟩
        · exact hst.sr.live k ob h
        · exact hst.sub k (hblk j k ob h1 h2 h3).2.1
      · rcases hsplit k ob (lookOf_has h) with h | ⟨j, h1, h2, h3⟩
        · exact hst.sr.obj k ob h
        · obtain ⟨g1, g2, g3, g4⟩ := hblk j k ob h1 h2 h3
          obtain ⟨c, hc, hor⟩ := I.sr.obj k ob (hold k ob (hext j k ob h1 h2 h3).1)
          rw [g1]
          exact ⟨c, by rw [g4]; exact hc, hor.mono hst.sub hst.ext⟩
      · have cross : ∀ k l ob ob2, (st (i + 1)).at k = some ob → (∃ j, L j ∧ i + 1 ≤ j ∧ AllocAt tt es ops st am j l ob2) → (μ2 k).blk ≠ (μ2 l).blk := by
          rintro k l ob ob2 hk ⟨j, h1, h2, h3⟩ e
          obtain ⟨g1, g2, g3, g4⟩ := hblk j l ob2 h1 h2 h3
          obtain ⟨f1, f2, f3⟩ := hext j l ob2 h1 h2 h3
          rw [g1] at e
          rcases hst.own k ob hk with ⟨m, o', hm, _, e2⟩ | hge
          · have := I.sr.inj m l o' ob2 (hold m o' (hat m o' hm)) (hold l ob2 f1) (e2.trans e)
            subst this
            exact f2 o' hm
          · omega
        rcases hsplit k ob (lookOf_has h) with h | h
        · rcases hsplit l ob2 (lookOf_has h2) with h2 | h2
          · exact hst.sr.inj k l ob ob2 h h2 e
          · exact absurd e (cross k l ob ob2 h h2)
        · rcases hsplit l ob2 (lookOf_has h2) with h2 | h2
          · exact absurd e.symm (cross l k ob2 ob h2 h)
          · obtain ⟨j, h1, h2', h3⟩ := h
            obtain ⟨j', k1, k2, k3⟩ := h2
            rw [(hblk j k ob h1 h2' h3).1, (hblk j' l ob2 k1 k2 k3).1] at e
            exact I.sr.inj k l ob ob2 (hold k ob (hext j k ob h1 h2' h3).1) (hold l ob2 (hext j' l ob2 k1 k2 k3).1) e
    size := Nat.le_trans I.size hst.size
    keep := fun r hr hno => by
      rw [← I.keep r hr hno]
      refine hst.keep r (Nat.lt_of_lt_of_le hr I.size) fun k ob hk hwr e => ?_
      rcases I.own k ob (hat k ob hk) with ⟨j, o', h1, h2, h3⟩ | h
      · exact hno j o' h1 (h2 hwr) (h3.trans e)
      · omega
    own := fun k ob h => by
      rcases hsplit k ob h with h | ⟨j, h1, h2, h3⟩
      · rcases hst.own k ob h with ⟨m, o', hm, hw, e⟩ | hge
        · rcases I.own m o' (hat m o' hm) with ⟨j, o2, h1, h2, h3⟩ | h
          · exact .inl ⟨j, o2, h1, fun hh => h2 (hw hh), h3.trans e⟩
          · exact .inr (e ▸ h)
        · exact .inr (Nat.le_trans I.size hge)
      · rw [(hblk j k ob h1 h2 h3).1]
        exact I.own k ob (hext j k ob h1 h2 h3).1
    same := I.same.trans hst.same
    dom := fun k ob h => by
      have h0 := C.mono (Nat.zero_le i) (Nat.le_of_lt hi)
      rw [C.st0] at h0
      have hup := C.up hi
      rcases hst.dom k ob h with ⟨o', h⟩ | h
      · exact (hdm k o' h).imp id fun h => ⟨h.1, by omega⟩
      · exact .inr ⟨by omega, h.2⟩
    pos := by
      refine .inr ⟨i, rfl, hact, .inr rfl, fun x hx => ?_⟩
      rintro (h | rfl)
      · exact Nat.le_of_lt (haft x hx h)
      · exact Nat.le_refl _
    slots := step_slots C hdis hs0 I R hst.sub hst.ext hv hd
    tmps := put_size C hdis hs0 I R v'
    defers := put_defers C hdis hs0 I R v' }

end

end Go.AM
set_option linter.unusedSectionVars false
namespace Go.AM

variable {P : Program} {tt : TT} {es : TypeId → Bool} {call : Call} {nt : Nat} {ops : Array Oper} {a : Tm} {s : St} {st : Nat → St} {am : Nat → Tm} {vl : Nat → AV} {D : Nat → Prop} {μ : Nat → Loc} {w : World}

def Lof (l : Array Bool) (j : Nat) : Prop := l.getD j false = true
def unl (l : Array Bool) : Nat → Nat
  | 0 => 0
  | k + 1 => unl l k + (if l.getD k false = true then 0 else 1)
theorem unl_le (l : Array Bool) : ∀ k, unl l k ≤ k
  | 0 => Nat.le_refl _
  | k + 1 => by
    have := unl_le l k
    simp only [unl]
    split <;> omega
theorem unl_zero {l : Array Bool} : ∀ {k : Nat}, unl l k = 0 → ∀ j, j < k → Lof l j
  | 0, _, j, hj => by omega
  | k + 1, h, j, hj => by
    simp only [unl] at h
    split at h
    · rename_i hk
      by_cases e : j = k
      · subst e; exact hk
      · exact unl_zero (by omega) j (by omega)
    · omega
theorem getD_set {l : Array Bool} {i j : Nat} (hi : i < l.size) : (l.setIfInBounds i true).getD j false = true ↔ (l.getD j false = true ∨ j = i) := by
  by_cases e : i = j
  · subst e
    rw [Array.getD_eq_getD_getElem?, Array.getElem?_setIfInBounds_self_of_lt hi]
    simp
  · rw [Array.getD_eq_getD_getElem?, Array.getElem?_setIfInBounds_ne e, ← Array.getD_eq_getD_getElem?]
    constructor
    · exact .inl
    · rintro (h | h)
      · exact h
      · exact absurd h.symm e
theorem Lof_set {l : Array Bool} {i : Nat} (hi : i < l.size) : Lof (l.setIfInBounds i true) = fun z => Lof l z ∨ z = i := funext fun z => propext (getD_set hi)
theorem unl_set_le {l : Array Bool} {i : Nat} (hi : i < l.size) : ∀ k, k ≤ i → unl (l.setIfInBounds i true) k = unl l k
  | 0, _ => rfl
  | k + 1, h => by
    simp only [unl, unl_set_le hi k (by omega)]
    congr 1
    have := getD_set (l := l) (j := k) hi
    by_cases e : l.getD k false = true
    · rw [if_pos e, if_pos (this.2 (.inl e))]
    · rw [if_neg e, if_neg fun h2 => (this.1 h2).elim e fun h3 => by omega]
theorem unl_set {l : Array Bool} {i : Nat} (hi : i < l.size) (hn : ¬ Lof l i) : ∀ k, i < k → unl (l.setIfInBounds i true) k + 1 = unl l k
  | 0, h => by omega
  | k + 1, h => by
    simp only [unl]
    have hg := getD_set (l := l) (j := k) hi
    by_cases e : i = k
    · subst e
      rw [unl_set_le hi i (Nat.le_refl _), if_pos (hg.2 (.inr rfl)), if_neg (show ¬ l.getD i false = true from hn)]
    · have ih := unl_set hi hn k (by omega)
      by_cases e2 : l.getD k false = true
      · rw [if_pos e2, if_pos (hg.2 (.inl e2))]; omega
      · rw [if_neg e2, if_neg fun h2 => (hg.1 h2).elim e2 fun h3 => e h3.symm]; omega

theorem binds_any (e : Edge) : Region.binds .any e = bindsAny e.ground := by
  unfold Region.binds bindsAny
  cases e.ground <;> rfl

theorem tmpsOf_mem {t : Tmp} : ∀ {xs : List Operand}, .tmp t ∈ xs → t ∈ tmpsOf xs
  | [], h => by cases h
  | x :: xs, h => by
    cases h with
    | head => exact List.mem_cons_self
    | tail _ h =>
      have := tmpsOf_mem h
      cases x <;> first | exact List.mem_cons_of_mem _ this | exact this

theorem opd_gen {D : Nat → Prop} {μ : Nat → Loc} {a : Tm} {ac : Go.Act} (hg : ∀ g, g ≤ 2 → D g ∧ (μ g).blk = g ∧ (μ g).sh = 0) (x : Operand) (hx : okOpd (cOpd x) = true) (ht : ∀ t, x = .tmp t → VR D μ (Opd.get a (.tmp (path t))) (ac.tmps.getD t undef)) :
    VR D μ ((cOpd x).get a) (ac.eval x) := by
  cases x with
  | tmp t => exact ht t rfl
  | const v =>
    simp only [cOpd] at hx ⊢
    cases hv : absV v with
    | none => simp [hv, okOpd] at hx
    | some u => simp only [Opd.get, Go.Act.eval]; exact absV_ok hv
  | global g =>
    simp only [cOpd] at hx ⊢
    cases hb : Nat.ble g 1 with
    | false => simp [hb, okOpd] at hx
    | true =>
      obtain ⟨h1, h2, h3⟩ := hg g (Nat.le_succ_of_le (Nat.le_of_ble_eq_true hb))
      simp only [cond_true, Opd.get, Go.Act.eval]
      have := VR.ptr (D := D) (μ := μ) g 0 h1
      rwa [h2, h3] at this
  | func f => exact .fn f [] #[] .nil

section
variable (hT : TTok P tt) (hes : ESok P es) (hcall : CallOK P call)
variable (C : DrawCtx tt es call nt ops a s st am vl) (hdis : Dis D s (st ops.size)) (hs0 : SR D μ s.at w)
include hT hes hcall C hdis hs0

/-- one operation, in whatever order -/
theorem one_ok {L : Nat → Prop} {p : Nat} {ac : Go.Act} {w1 : World} {D1 : Nat → Prop} {μ1 : Nat → Loc} (I : Inv tt es nt ops a s st am vl D μ w L p ac w1 D1 μ1) {i : Nat} {o : Oper} (R : Ready ops L i o) {Q : Exit → Go.Act → World → Prop} {K : Go.Act → World → Prop}
    (hK : ∀ p' ac' w' D' μ', Inv tt es nt ops a s st am vl D μ w (fun z => L z ∨ z = i) p' ac' w' D' μ' → K ac' w') : wpOp P ops Q i K ac w1 := by
  have hi : i < ops.size := (Array.getElem?_eq_some_iff.1 R.get).1
  obtain ⟨g, hg, hok, hdst, hstep⟩ := C.op i o R.get
  have hslot : ∀ t, t ∈ readsOf ops.toList o → VR D1 μ1 (Opd.get (am i) (.tmp (path t))) (ac.tmps.getD t undef) := fun t ht => I.slots t _ (C.slot_read I.closed R.get R.pre R.fresh ht)
  have hops : OpsR D1 μ1 (am i) ac.eval o.op.operands.toList := fun x hx => opd_gen I.sr.glob x (okOpds_mem hok x hx) fun t e => hslot t (List.mem_append_right _ (tmpsOf_mem (e ▸ hx)))
  have hwant : Region.wanted o (yielded ops ac.tmps) = wanted (am i) g := wanted_gen hg fun j want q d h1 h2 h3 => hslot d (List.mem_append_left _ (by
    have h2' : ops.toList[j]? = some q := by rw [Array.getElem?_toList]; exact h2
    simp only [guardTmp, h1, h2', dstOf, h3]
    exact List.mem_singleton_self _))
  have hop := op_ok (P := P) (o := o) hT hes
  have hfun := I.func C hdis hs0
  have hsrp : SR D1 μ1 (st p).at w1 := I.sr.less fun k ob h => has_lookOf hfun (.inl h)
  have hsri : ActAt tt es ops i → SR D1 μ1 (st i).at w1 := fun hact => by
    obtain ⟨hpi, hna, hal, _⟩ := act_place C hdis hs0 I R hact
    exact I.sr.less fun k ob h => has_lookOf hfun (I.at C hdis hs0 i hpi (Nat.le_of_lt hi) hna hal k ob h)
  have noact : isAct (cOp tt es o.op) = false → ¬ ActAt tt es ops i := by
    rintro h ⟨o', h1, h2⟩
    rw [R.get] at h1; cases h1
    rw [h] at h2; cases h2
  unfold wpOp
  simp only [R.get]
  rw [hwant]
  rcases hstep with ⟨hw, hrun, _⟩ | ⟨hw, hv, hst, _⟩
  · dsimp only at hw hrun
    rw [hw, if_pos rfl]
    refine .inl ?_
    unfold Oper.wp
    cases hc : cOp tt es o.op with
    | pure f =>
      rw [hc] at hrun hop
      simp only [POp.run] at hrun
      split at hrun
      · rename_i v hf
        have hv : v = vl i := (CO.ok.inj hrun).1
        subst hv
        obtain ⟨v', h1, h2⟩ := hop D1 μ1 (am i) ac.eval w1 _ hops hf
        rw [h1]
        refine hK p _ w1 D1 μ1 (step_quiet C hdis hs0 I R (noact (by rw [hc]; rfl)) ?_ hdst h2 rfl)
        rintro k ob ⟨q, f', mk, g', a1, a2, _⟩
        rw [R.get] at a1; cases a1
        rw [hc] at a2; cases a2
      · cases hrun
    | read f =>
      rw [hc] at hrun hop
      have hf := C.chk L I.closed i o f g R.get R.pre R.fresh hc hg hw p I.pos
      obtain ⟨v', h1, h2⟩ := hop D1 μ1 (am i) ac.eval (st p) w1 _ hops hsrp hf
      rw [h1]
      refine hK p _ w1 D1 μ1 (step_quiet C hdis hs0 I R (noact (by rw [hc]; rfl)) ?_ hdst h2 rfl)
      rintro k ob ⟨q, f', mk, g', a1, a2, _⟩
      rw [R.get] at a1; cases a1
      rw [hc] at a2; cases a2
    | alloc f =>
      rw [hc] at hrun hop
      simp only [POp.run] at hrun
      split at hrun
      · rename_i ob mk hf
        have hv : mk (st i).next = vl i := (CO.ok.inj hrun).1
        have hst : (st i).new ob = st (i + 1) := (CO.ok.inj hrun).2
        have hnx : (st (i + 1)).next = (st i).next + 1 := by rw [← hst]; rfl
        obtain ⟨_, v', w2, c, h1, h2, h3, h4⟩ := hop D1 μ1 (am i) ac.eval w1 ob mk hops hf
        have hfresh : ¬ D1 (st i).next := (I.dis C hdis hs0 hi R.fresh).fresh hnx
        obtain ⟨h5, h6⟩ := h4 (more D1 (st i).next) (upd μ1 (st i).next ⟨w1.heap.size, 0, topOf c⟩) (st i).next (fun _ h => .inl h) (upd_old hfresh) (.inr rfl) upd_same
        rw [upd_same] at h5
        rw [hv] at h6
        rw [h1]
        refine hK p _ w2 _ _ (step_alloc C hdis hs0 I R (noact (by rw [hc]; rfl)) ?_ hnx hdst h6 h2 h3 h5)
        rintro k ob' ⟨q, f', mk', g', a1, a2, a3, a4, a5, a6⟩
        rw [R.get] at a1; cases a1
        rw [hc] at a2; cases a2
        rw [hf] at a5; cases a5
        exact ⟨a6, rfl⟩
      · cases hrun
    | eff f =>
      rw [hc] at hrun hop
      have hact : ActAt tt es ops i := ⟨o, R.get, by rw [hc]; rfl⟩
      obtain ⟨n, v', w2, D2, μ2, h1, h2, h3, h4⟩ := hop D1 μ1 (am i) ac.eval (st i) w1 _ _ hops (hsri hact) (I.dis C hdis hs0 hi R.fresh) (upOnly_ok hrun).1
      rw [h1]
      rcases h2 with rfl | ⟨rfl, rfl⟩
      · exact hK _ _ w2 D2 μ2 (step_act C hdis hs0 I R hact hdst h3 h4)
      · exact hK _ _ w2 D2 μ2 (step_act C hdis hs0 I R hact hdst h3 h4)
    | call f =>
      rw [hc] at hrun hop
      have hact : ActAt tt es ops i := ⟨o, R.get, by rw [hc]; rfl⟩
      simp only [POp.run] at hrun
      split at hrun
      · rename_i g' args hf
        obtain ⟨args', h1, h2⟩ := hop D1 μ1 (am i) ac.eval g' args hops hf
        obtain ⟨h3, h4⟩ := hcall D1 μ1 g' args args' (st i) w1 _ _ h1 (hsri hact) (I.dis C hdis hs0 hi R.fresh) (upOnly_ok hrun).1
        rw [h2 w1 h3, Oper.upon_enter]
        refine Calls.mono h4 fun e w2 he => ?_
        obtain ⟨v', D2, μ2, rfl, h5, h6⟩ := he
        exact hK _ _ w2 D2 μ2 (step_act C hdis hs0 I R hact hdst h5 h6)
      · cases hrun
  · dsimp only at hw
    rw [hw, if_neg (by simp)]
    by_cases hact : ActAt tt es ops i
    · have hstp : Stp D1 μ1 (st i) w1 D1 μ1 (st (i + 1)) w1 := by rw [hst]; exact .refl (hsri hact)
      exact hK _ _ w1 D1 μ1 (step_act C hdis hs0 I R hact hdst hstp (by rw [hv]; exact vr_unit))
    · refine hK p _ w1 D1 μ1 (step_quiet C hdis hs0 I R hact ?_ hdst (by rw [hv]; exact vr_unit) rfl)
      rintro k ob ⟨q, f', mk, g', a1, a2, a3, a4, _⟩
      rw [R.get] at a1; cases a1
      rw [hg] at a3; cases a3
      rw [hw] at a4; cases a4

/-- all have run -/
theorem all_ok {L : Nat → Prop} {p : Nat} {ac : Go.Act} {w1 : World} {D1 : Nat → Prop} {μ1 : Nat → Loc} (I : Inv tt es nt ops a s st am vl D μ w L p ac w1 D1 μ1) (hall : ∀ j, j < ops.size → L j) (hlt : ∀ j, L j → j < ops.size) :
    Stp D μ s w D1 μ1 (st ops.size) w1 ∧ TR D1 μ1 nt (am ops.size) ac := by
  have hp := pos_le C hdis hs0 I.pos
  have hna : ∀ x, p ≤ x → x < ops.size → ¬ ActAt tt es ops x := fun x h1 h2 hx => by
    rcases I.pos with ⟨_, h4⟩ | ⟨y, h3, _, _, h4⟩
    · exact h4 x hx (hall x h2)
    · have := h4 x hx (hall x h2); omega
  have hat := I.at C hdis hs0 ops.size hp (Nat.le_refl _) hna fun x _ _ _ _ h => hall x h
  have h0 := C.mono (Nat.zero_le ops.size) (Nat.le_refl _)
  rw [C.st0] at h0
  refine ⟨⟨I.sub, I.ext, fun k hk => ?_, h0, I.sr.less fun k ob h => has_lookOf (I.func C hdis hs0) (hat k ob h), I.size, I.keep, fun k ob h => I.own k ob (hat k ob h), I.same, I.dom_at C hdis hs0 hp (Nat.le_refl _) hna⟩, ⟨fun t => ?_, I.tmps, I.defers⟩⟩
  · refine (I.new k hk).imp id fun ⟨j, h1, h2, h3, h4⟩ => ?_
    have g1 := C.mono (Nat.zero_le j) (Nat.le_of_lt h2)
    rw [C.st0] at g1
    have g2 := C.mono (show j + 1 ≤ ops.size from h2) (Nat.le_refl _)
    exact ⟨by omega, by omega⟩
  · exact I.slots t _ (C.slot_at (Nat.le_refl _) fun j _ => ⟨hlt j, hall j⟩)

theorem any_ok {Q : Exit → Go.Act → World → Prop} (hQ : ∀ D' μ' ac' w', Stp D μ s w D' μ' (st ops.size) w' → TR D' μ' nt (am ops.size) ac' → Q .normal ac' w') : ∀ (fuel : Nat) (listed : Array Bool) (ac : Go.Act) (w1 : World) (p : Nat) (D1 : Nat → Prop) (μ1 : Nat → Loc),
    listed.size = ops.size → unl listed ops.size ≤ fuel → Inv tt es nt ops a s st am vl D μ w (Lof listed) p ac w1 D1 μ1 → wpAny P .any ops Q fuel listed ac w1 := by
  intro fuel
  induction fuel with
  | zero =>
    intro listed ac w1 p D1 μ1 hsz hu I
    have hall := unl_zero (l := listed) (k := ops.size) (by omega)
    have hlt : ∀ j, Lof listed j → j < ops.size := fun j h => by
      rcases Nat.lt_or_ge j ops.size with h1 | h1
      · exact h1
      · unfold Lof at h
        rw [Array.getD_eq_getD_getElem?, Array.getElem?_eq_none (by omega)] at h; cases h
    obtain ⟨h1, h2⟩ := all_ok hT hes hcall C hdis hs0 I hall hlt
    refine ⟨?_, hQ D1 μ1 ac w1 h1 h2⟩
    rw [List.eq_nil_iff_forall_not_mem]
    intro j hj
    obtain ⟨h3, o, h4, _⟩ := mem_ready.1 hj
    have hjl : j < ops.size := (Array.getElem?_eq_some_iff.1 h4).1
    have := hall j hjl
    unfold Lof at this
    rw [Array.getD_eq_getD_getElem?, Array.getElem?_eq_getElem (by omega)] at this h3
    rw [Option.getD_some] at this h3
    rw [this] at h3; cases h3
  | succ fuel ih =>
    intro listed ac w1 p D1 μ1 hsz hu I
    have hlt : ∀ j, Lof listed j → j < ops.size := fun j h => by
      rcases Nat.lt_or_ge j ops.size with h1 | h1
      · exact h1
      · unfold Lof at h
        rw [Array.getD_eq_getD_getElem?, Array.getElem?_eq_none (by omega)] at h; cases h
    refine ⟨fun hnil => ?_, fun i hi => ?_⟩
    · have hall : ∀ j, j < ops.size → Lof listed j := by
        intro j
        induction j using Nat.strongRecOn with
        | _ j ihj =>
          intro hj
          have ho : ops[j]? = some ops[j] := Array.getElem?_eq_getElem hj
          cases hl : listed.getD j false with
          | true => exact hl
          | false =>
            have : j ∈ Region.ready .any ops listed := mem_ready.2 ⟨by
              rw [Array.getD_eq_getD_getElem?, Array.getElem?_eq_getElem (by omega)] at hl ⊢; exact hl, _, ho, fun e he hb => by
              rw [binds_any] at hb
              have := downF_ok C.down j _ (by rw [Array.getElem?_toList]; exact ho) e (by simpa using he) hb
              exact ihj e.on (by omega) (by omega)⟩
            rw [hnil] at this; cases this
      obtain ⟨h1, h2⟩ := all_ok hT hes hcall C hdis hs0 I hall hlt
      exact hQ D1 μ1 ac w1 h1 h2
    · obtain ⟨h3, o, h4, h5⟩ := mem_ready.1 hi
      have hil : i < ops.size := (Array.getElem?_eq_some_iff.1 h4).1
      have R : Ready ops (Lof listed) i o := ⟨h4, fun e he hb => h5 e (by simpa using he) (by rw [binds_any]; exact hb), fun h => by
        unfold Lof at h
        rw [Array.getD_eq_getD_getElem?, Array.getElem?_eq_getElem (by omega)] at h h3
        rw [Option.getD_some] at h h3
        rw [h] at h3; cases h3⟩
      refine one_ok hT hes hcall C hdis hs0 I R fun p' ac' w' D' μ' I' => ?_
      rw [← Lof_set (by omega)] at I'
      have hu' := unl_set (l := listed) (i := i) (by omega) R.fresh ops.size hil
      exact ih (listed.setIfInBounds i true) ac' w' p' D' μ' (by simpa using hsz) (by omega) I'

end

theorem draw_ok (hT : TTok P tt) (hes : ESok P es) (hm : P.follows .mixedOrders = true) : DrawOK P tt es := by
  intro call nt ops id hcall D μ a ac s w x a' s' ht hs hd h Q hQ
  obtain ⟨st, am, vl, C, e1, e2⟩ := draw_ctx h
  subst e1
  subst e2
  refine wp_region_any hm (any_ok hT hes hcall C hd hs hQ ops.size _ ac _ 0 D μ (by simp) (unl_le _ _) ?_)
  have hL : ∀ j, ¬ Lof (Array.replicate ops.size false) j := fun j h => by
    unfold Lof at h
    rw [Array.getD_eq_getD_getElem?, Array.getElem?_replicate] at h
    split at h <;> cases h
  have hhas : ∀ k ob, Has tt es ops st am (Lof (Array.replicate ops.size false)) 0 k ob → s.at k = some ob := by
    rintro k ob (h | ⟨j, h, _⟩)
    · rw [C.st0] at h; exact h
    · exact absurd h (hL j)
  exact {
    closed := fun y o _ h => absurd h (hL y)
    sub := fun _ h => h
    ext := fun _ _ => rfl
    new := fun _ h => .inl h
    sr := ⟨fun k ob h => hs.live k ob (hhas k ob (lookOf_has h)), fun k ob h => hs.obj k ob (hhas k ob (lookOf_has h)), fun k l ob ob2 h h2 e => hs.inj k l ob ob2 (hhas k ob (lookOf_has h)) (hhas l ob2 (lookOf_has h2)) e, hs.glob⟩
    size := Nat.le_refl _
    keep := fun _ _ _ => rfl
    own := fun k ob h => .inl ⟨k, ob, hhas k ob h, fun h => h, rfl⟩
    same := ⟨rfl, rfl, rfl⟩
    dom := fun k ob h => .inl ⟨ob, by rw [C.st0] at h; exact h⟩
    pos := .inl ⟨rfl, fun x _ => hL x⟩
    slots := fun t v h => by
      rcases h with ⟨j, h, _⟩ | ⟨_, rfl⟩
      · exact absurd h (hL j)
      · exact ht.get t
    tmps := ht.size
    defers := ht.defers }

end Go.AM
