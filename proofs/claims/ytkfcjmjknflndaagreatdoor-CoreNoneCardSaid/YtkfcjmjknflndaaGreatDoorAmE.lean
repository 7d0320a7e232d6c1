/-
  A call whose answer the kernel has reckoned: wherever it is made, it answers so and leaves what lies there.
  The calls that are not walked: what they do to a state.
  What a contract of the kit leaves: old blocks as they were; perhaps one new row that is looked at.
  The tables of a program.
  slices.Insert: the primitive is sound, given the function's four roads.
-/
import Derived.Test.YtkfcjmjknflndaaGreatDoorAmD
import Derived.Below
import Derived.Laws.IdiomCopy
import Derived.Deep.AppendSrc
set_option linter.unusedVariables false
set_option linter.unusedSimpArgs false
namespace Go.AM

variable {P : Program} {tt : TT} {es : TypeId → Bool}

/-- a heap of the two package-level variables alone, that may not be written: e and the cells t -/
noncomputable def roRow (l : List AV) : Row := ⟨l.length, false, .nilp, Tr.ofList l⟩
noncomputable def base0 (e : AV) (t : List AV) : St := ⟨(Tr.nil.set (path 0) (some (.row (roRow [e])))).set (path 1) (some (.row (roRow t))), 10⟩

/-- values that say nothing of memory, but for the block of the types' handles -/
def still : AV → Bool
  | .int _ _ => true
  | .ifc _ (.agg [.ptr 2 _]) => true
  | _ => false
def stills : List AV → Bool
  | [] => true
  | v :: l => still v && stills l

theorem still_vr {D D' : Nat → Prop} {μ μ' : Nat → Loc} {v : AV} {v' : Value} (hv : still v = true) (h : VR D μ v v') (h2 : D' 2) (hμ : μ' 2 = μ 2) : VR D' μ' v v' := by
  unfold still at hv
  split at hv
  · rw [vr_int h]; exact .int _ _
  · rename_i t o
    obtain ⟨u, rfl, hu⟩ := vr_ifc h
    obtain ⟨cs, rfl, hc⟩ := vr_agg hu
    cases hcl : cs.toList with
    | nil => rw [hcl] at hc; cases hc
    | cons x l =>
      rw [hcl] at hc
      cases hc with
      | cons _ _ _ _ hx hl =>
        cases hl
        have hp := (vr_ptr hx).1
        have : cs = #[x] := Array.ext' hcl
        subst this
        refine .ifc _ _ _ (.agg _ _ (.cons _ _ _ _ ?_ .nil))
        rw [hp, ← hμ]
        exact .ptr 2 o h2
  · cases hv
theorem stills_at : ∀ {l : List AV}, stills l = true → ∀ (i : Nat) (h : i < l.length), still l[i] = true
  | [], _, i, h => by simp at h
  | v :: l, hf, i, h => by
    simp only [stills, Bool.and_eq_true] at hf
    cases i with
    | zero => exact hf.1
    | succ i => exact stills_at hf.2 i (by simpa using h)

/-- the row of a variable, as it should be -/
noncomputable def rowIs (s : St) (b : Nat) (l : List AV) : Bool :=
  match s.at b with
  | some (.row r) => Nat.beq r.size l.length && avsEq (r.slice 0 r.size) l
  | _ => false
noncomputable def baseOk (e : AV) (t : List AV) (s : St) : Bool := rowIs s 0 [e] && rowIs s 1 t

theorem rowIs_ok {s : St} {b : Nat} {l : List AV} (h : rowIs s b l = true) : ∃ r, s.at b = some (.row r) ∧ r.size = l.length ∧ ∀ (i : Nat) (hi : i < l.length), r.get i = l[i] := by
  unfold rowIs at h
  split at h
  · rename_i r hr
    simp only [Bool.and_eq_true] at h
    have h1 := Nat.eq_of_beq_eq_true h.1
    have h2 := avsEq_eq _ _ h.2
    refine ⟨r, hr, h1, fun i hi => ?_⟩
    have h3 : i < (r.slice 0 r.size).length := by rw [Row.slice_length]; omega
    have := Row.slice_get r r.size 0 i h3
    rw [Nat.zero_add] at this
    rw [← this]
    simp only [h2]
  · cases h

theorem base_at {e : AV} {t : List AV} {i : Nat} {o : AO} (h : (base0 e t).at i = some o) : (i = 0 ∧ o = .row (roRow [e])) ∨ (i = 1 ∧ o = .row (roRow t)) := by
  unfold base0 St.at at h
  by_cases h1 : i = 1
  · subst h1
    rw [Tr.get_path_set_same] at h
    exact .inr ⟨rfl, (Option.some.inj h).symm⟩
  · rw [Tr.get_path_set_ne (fun e => h1 e.symm)] at h
    by_cases h0 : i = 0
    · subst h0
      rw [Tr.get_path_set_same] at h
      exact .inl ⟨rfl, (Option.some.inj h).symm⟩
    · rw [Tr.get_path_set_ne (fun e => h0 e.symm), Tr.get_empty] at h
      cases h

theorem roRow_get {l : List AV} {i : Nat} (h : i < l.length) : (roRow l).get i = l[i] := by
  simp [roRow, Row.get, Tr.get_ofList, h]

theorem or_ro {D D' : Nat → Prop} {μ μ' : Nat → Loc} {r : Row} {l : List AV} {loc : Loc} {c : Obj} (h : OR D μ (.row r) loc c) (hs : r.size = l.length) (hg : ∀ (i : Nat) (hi : i < l.length), r.get i = l[i]) (hst : stills l = true) (h2 : D' 2) (hμ : μ' 2 = μ 2) : OR D' μ' (.row (roRow l)) loc c := by
  obtain ⟨cs, T, lo, hi, h1, h2', h3, h4, h5⟩ := h
  refine ⟨cs, T, lo, hi, h1, by show loc.sh + l.length ≤ cs.size; omega, h3, fun i hi => ?_, fun h => by cases h⟩
  have hi' : i < l.length := hi
  obtain ⟨v', e, hv, hf⟩ := h4 i (by omega)
  rw [hg i hi'] at hv hf
  rw [roRow_get hi']
  exact ⟨v', e, still_vr (stills_at hst i hi') hv h2 hμ, hf⟩

/-- the heap of the variables alone, in a world that has them -/
theorem base_sr {D : Nat → Prop} {μ : Nat → Loc} {s : St} {w : World} {e : AV} {t : List AV} (hs : SR D μ s.at w) (he : still e = true) (ht : stills t = true) (h : baseOk e t s = true) : SR (fun i => i ≤ 2) μ (base0 e t).at w := by
  simp only [baseOk, Bool.and_eq_true] at h
  obtain ⟨r0, a1, a2, a3⟩ := rowIs_ok h.1
  obtain ⟨r1, b1, b2, b3⟩ := rowIs_ok h.2
  have g := fun g hg => (hs.glob g hg).2
  refine ⟨fun i o hi => ?_, fun i o hi => ?_, fun i j o o' hi hj heq => ?_, fun k hk => ⟨hk, g k hk⟩⟩
  · rcases base_at hi with ⟨h, _⟩ | ⟨h, _⟩ <;> (show i ≤ 2; omega)
  · rcases base_at hi with ⟨rfl, rfl⟩ | ⟨rfl, rfl⟩
    · obtain ⟨c, hc, hor⟩ := hs.obj _ _ a1
      exact ⟨c, hc, or_ro hor a2 a3 (by simp only [stills, he, Bool.and_self]) (Nat.le_refl 2) rfl⟩
    · obtain ⟨c, hc, hor⟩ := hs.obj _ _ b1
      exact ⟨c, hc, or_ro hor b2 b3 ht (Nat.le_refl 2) rfl⟩
  · have hi' : i ≤ 1 := by rcases base_at hi with ⟨h, _⟩ | ⟨h, _⟩ <;> omega
    have hj' : j ≤ 1 := by rcases base_at hj with ⟨h, _⟩ | ⟨h, _⟩ <;> omega
    have e1 := (g i (by omega)).1
    have e2 := (g j (by omega)).1
    omega

/-- a run from there: what lay there stays -/
theorem base_stay {D : Nat → Prop} {μ : Nat → Loc} {s : St} {w w' : World} {D' : Nat → Prop} {μ' : Nat → Loc} {e : AV} {t : List AV} {s1 : St} (hs : SR D μ s.at w) (h : Stp (fun i => i ≤ 2) μ (base0 e t) w D' μ' s1 w') : Stp D μ s w D μ s w' := by
  have hk : ∀ r, r < w.heap.size → w'.heap[r]? = w.heap[r]? := fun r hr => h.keep r hr fun i o hi hw => by
    rcases base_at hi with ⟨_, rfl⟩ | ⟨_, rfl⟩ <;> cases hw
  exact ⟨fun _ h => h, fun _ _ => rfl, fun _ h => .inl h, Nat.le_refl _, ⟨hs.live, fun i o hi => by
    obtain ⟨c, hc, hor⟩ := hs.obj i o hi
    exact ⟨c, by rw [hk _ (hs.lt hi)]; exact hc, hor⟩, hs.inj, hs.glob⟩, h.size, fun r hr _ => hk r hr, fun i o hi => .inl ⟨i, o, hi, fun h => h, rfl⟩, h.same, fun i o hi => .inl ⟨o, hi⟩⟩

/-- a call without arguments that was reckoned -/
noncomputable def known (e : AV) (t : List AV) (b : Bool) (args : List AV) (s : St) : CO :=
  match args with
  | [] => bif baseOk e t s then .ok (.bool b) s else .fail
  | _ => .fail

theorem known_ok {call : Call} (hcall : CallOK P call) {f : FuncId} {e : AV} {t : List AV} {b : Bool} {s1 : St} (he : still e = true) (ht : stills t = true) (h : call f [] (base0 e t) = .ok (.bool b) s1) : PrimOK P f (known e t b) := by
  intro D μ args args' s w v s' ha hs hd hv
  unfold known at hv
  split at hv
  · cases hb : baseOk e t s with
    | false => rw [hb] at hv; cases hv
    | true =>
      rw [hb, cond_true] at hv
      cases hv
      have ha' : VRs (fun i => i ≤ 2) μ [] args'.toList := by
        cases h0 : args'.toList with
        | nil => exact .nil
        | cons x l => rw [h0] at ha; cases ha
      obtain ⟨h1, h2⟩ := hcall (fun i => i ≤ 2) μ f [] args' (base0 e t) w (.bool b) s1 ha' (base_sr hs he ht hb) (fun i hi => .inl (by show i < 10; have : i ≤ 2 := hi; omega)) h
      refine ⟨h1, Calls.mono h2 fun ev w' hev => ?_⟩
      obtain ⟨v', D', μ', rfl, h3, h4⟩ := hev
      have := vr_bool h4
      subst this
      exact ⟨.bool b, D, μ, rfl, base_stay hs h3, .bool b⟩
  · cases hv

end Go.AM
namespace Go.AM

def insI (x : Int) : List Int → List Int
  | [] => [x]
  | y :: r => bif iLe x y then x :: y :: r else y :: insI x r
def insS (x : List Nat) : List (List Nat) → List (List Nat)
  | [] => [x]
  | y :: r => bif strLess y x then y :: insS x r else x :: y :: r
def sortI : List AV → Option (List Int)
  | [] => some []
  | .int .i64 n :: r => match sortI r with | some l => some (insI n l) | none => none
  | _ :: _ => none
def sortS : List AV → Option (List (List Nat))
  | [] => some []
  | .str n :: r => match sortS r with | some l => some (insS n l) | none => none
  | _ :: _ => none
def keysE : List Ent → List AV
  | [] => []
  | e :: r => e.key :: keysE r

def inI64 (n : Int) : Bool := iLe (.negSucc 9223372036854775807) n && iLe n (.ofNat 9223372036854775807)
def bornsOk (c : Nat) : Nat → List Ent → Bool
  | _, [] => true
  | lo, e :: es => Nat.ble lo e.born && (Nat.ble (Nat.succ e.born) c && bornsOk c (Nat.succ e.born) es)
def risingI : List Int → Bool
  | [] => true
  | [a] => inI64 a
  | a :: b :: r => inI64 a && (iLt a b && risingI (b :: r))
def risingS : List (List Nat) → Bool
  | [] => true
  | [a] => Nat.ble a.length 1048576
  | a :: b :: r => Nat.ble a.length 1048576 && (strLess a b && risingS (b :: r))

/-- the keys of a map, sorted; the elements of a slice, sorted -/
noncomputable def ksI (s : St) : AV → Option (List Int)
  | .nilm => some []
  | .map m => match s.at m with
    | some (.map es c) => (match sortI (keysE es) with | some l => bif bornsOk c 0 es && (risingI l && Nat.ble l.length 1048576) then some l else none | none => none)
    | _ => none
  | _ => none
noncomputable def vsI (s : St) : AV → Option (List Int)
  | .nils => some []
  | .sl b o n _ _ => match s.at b with
    | some (.row r) => bif Nat.ble (o + n) r.size && Nat.ble n 1048576 then sortI (r.slice o n) else none
    | _ => none
  | _ => none
noncomputable def ksS (s : St) : AV → Option (List (List Nat))
  | .nilm => some []
  | .map m => match s.at m with
    | some (.map es c) => (match sortS (keysE es) with | some l => bif bornsOk c 0 es && (risingS l && Nat.ble l.length 1048576) then some l else none | none => none)
    | _ => none
  | _ => none
/-- what lies in the box that a closure of the library has captured -/
noncomputable def boxed (s : St) (b o : Nat) : Option AV :=
  match s.at b with
  | some (.row r) => bif Nat.ble (Nat.succ o) r.size then some (r.get o) else none
  | _ => none

def intsV : List Int → List AV
  | [] => []
  | n :: r => .int .i64 n :: intsV r
def strsV : List (List Nat) → List AV
  | [] => []
  | n :: r => .str n :: strsV r
noncomputable def mkSl (l : List AV) (s : St) : CO :=
  match l with
  | [] => .ok .nils s
  | _ :: _ => .ok (.sl s.next 0 l.length l.length 1) (s.new (.row (Row.ofList l)))
noncomputable def pSortI (fk fv : List Nat) (args : List AV) (s : St) : CO :=
  match args with
  | [.fn g [.ptr b o]] => match boxed s b o with
    | some x => match (bif natIn g fk then ksI s x else bif natIn g fv then vsI s x else none) with
      | some l => mkSl (intsV l) s
      | none => .fail
    | none => .fail
  | _ => .fail
noncomputable def pSortS (fk : List Nat) (args : List AV) (s : St) : CO :=
  match args with
  | [.fn g [.ptr b o]] => match boxed s b o with
    | some x => match (bif natIn g fk then ksS s x else none) with
      | some l => mkSl (strsV l) s
      | none => .fail
    | none => .fail
  | _ => .fail

/-- the number behind an error: 'tE' its type, 'tA' that of an error that wraps one -/
noncomputable def asLoop (tE tA : TypeId) : Nat → AV → St → Option Int
  | 0, _, _ => none
  | n + 1, e, s =>
    match e with
    | .ifc t v =>
      bif Nat.beq t tE then (match v with | .int .i64 k => some k | _ => none)
      else bif Nat.beq t tA then
        (match v with
        | .ptr b o => match s.at b with
          | some (.row r) => bif Nat.ble (o + 2) r.size then asLoop tE tA n (r.get (Nat.succ o)) s else none
          | _ => none
        | _ => none)
      else none
    | _ => none
noncomputable def pAs (tE tA tP : TypeId) (e0 : AV) (args : List AV) (s : St) : CO :=
  match args with
  | [e, .ifc t (.ptr b o)] =>
    bif Nat.beq t tP && rowIs s 0 [e0] then
      match asLoop tE tA 4 e s with
      | some k => match storeCells s b o [.int .i64 k] with | some s' => .ok (.bool true) s' | none => .fail
      | none => .fail
    else .fail
  | _ => .fail
/-- only where they are one -/
noncomputable def pIs (tE tA : TypeId) (args : List AV) (s : St) : CO :=
  match args with
  | [e, .ifc t (.int .i64 c)] =>
    bif Nat.beq t tE then
      match asLoop tE tA 4 e s with
      | some k => bif iEq k c then .ok (.bool true) s else .fail
      | none => .fail
    else .fail
  | _ => .fail

/-- slices.Insert, whatever capacity is left -/
def capOk (sz o c : Nat) (r : Row) : Nat → Bool
  | 0 => Nat.ble (o + c * sz) r.size && Nat.ble c 1048576
  | k + 1 => Nat.beq sz (k + 1)
noncomputable def pIns (sz : Nat) (args : List AV) (s : St) : CO :=
  match args with
  | [a, .int .i64 (.ofNat i), .sl vb vo m _ _] =>
    match s.at vb with
    | some (.row rv) =>
      bif (rv.w && !marked rv) && (Nat.ble 1 m && Nat.ble (vo + m * sz) rv.size) then
        match a with
        | .nils => bif Nat.beq i 0 && Nat.ble m 1048576 then .ok (.sl s.next 0 m m sz) (s.new (.row (Row.ofList (rv.slice vo (m * sz))))) else .fail
        | .sl b o n c tl =>
          match s.at b with
          | some (.row r) =>
            bif (r.w && !marked r) && (!(Nat.beq vb b) && (Nat.ble i n && (Nat.ble n c && (Nat.ble (n + m) 1048576 && (Nat.ble (o + n * sz) r.size && capOk sz o c r tl))))) then
              .ok (.sl s.next 0 (n + m) (n + m) sz) ((s.del b).new (.row (Row.ofList (r.slice o (i * sz) ++ (rv.slice vo (m * sz) ++ r.slice (o + i * sz) ((n - i) * sz))))))
            else .fail
          | _ => .fail
        | _ => .fail
      else .fail
    | _ => .fail
  | _ => .fail

def deBruijn : List AV := byteCells [0, 1, 28, 2, 29, 14, 24, 3, 30, 22, 20, 15, 25, 17, 4, 8, 31, 27, 13, 23, 21, 19, 16, 7, 26, 12, 18, 6, 11, 5, 10, 9]

end Go.AM
namespace Go.AM
open Go.RowKit (Below)

variable {P : Program} {tt : TT} {es : TypeId → Bool}

theorem Same.of_below {B : Nat} {w w' : World} (h : Below B w w') : Same w w' := ⟨h.tape, h.os, h.output⟩

theorem Stp.quiet {D : Nat → Prop} {μ : Nat → Loc} {s : St} {w w' : World} (h : SR D μ s.at w) (hb : Below w.heap.size w w') : Stp D μ s w D μ s w' :=
  ⟨fun _ h => h, fun _ _ => rfl, fun _ h => .inl h, Nat.le_refl _, ⟨h.live, fun i o hi => by
    obtain ⟨c, hc, hor⟩ := h.obj i o hi
    exact ⟨c, by rw [hb.block _ (h.lt hi)]; exact hc, hor⟩, h.inj, h.glob⟩, hb.size, fun r hr _ => hb.block r hr, fun i o hi => .inl ⟨i, o, hi, fun h => h, rfl⟩, .of_below hb, fun i o hi => .inl ⟨o, hi⟩⟩

theorem Stp.fresh {D : Nat → Prop} {μ : Nat → Loc} {s s0 : St} {w w' : World} {ob : AO} {c : Obj} {g top : Nat} (h : SR D μ s.at w) (hn : s0.next = s.next) (hsub : ∀ i o, s0.at i = some o → s.at i = some o) (hd : ¬ D s.next) (hb : Below w.heap.size w w')
    (hg : w.heap.size ≤ g) (hc : w'.heap[g]? = some c) (ho : OR (more D s.next) (upd μ s.next ⟨g, 0, top⟩) ob ⟨g, 0, top⟩ c) :
    Stp D μ s w (more D s.next) (upd μ s.next ⟨g, 0, top⟩) (s0.new ob) w' := {
  sub _ h := .inl h
  ext := upd_old hd
  new i hi := hi.imp id fun e => by rw [St.next_new, hn]; omega
  le := by rw [St.next_new, hn]; omega
  sr := by
    have old : ∀ i o, (s0.new ob).at i = some o → i ≠ s.next → s.at i = some o := fun i o hi e => by
      rw [St.at_new_ne s0 (by rw [hn]; exact fun h => e h.symm)] at hi; exact hsub _ _ hi
    refine ⟨fun i o hi => ?_, fun i o hi => ?_, fun i j o o' hi hj e => ?_, fun k hk => ?_⟩
    · by_cases e : i = s.next
      · exact .inr e
      · exact .inl (h.live _ _ (old i o hi e))
    · by_cases e : i = s.next
      · subst e
        rw [upd_same]
        have : (s0.new ob).at s.next = some ob := by rw [← hn]; exact St.at_new_same s0 ob
        rw [this] at hi; cases hi
        exact ⟨c, hc, ho⟩
      · have ho := old i o hi e
        obtain ⟨c0, hc0, hor⟩ := h.obj _ _ ho
        rw [upd_ne e]
        exact ⟨c0, by rw [hb.block _ (h.lt ho)]; exact hc0, hor.mono (fun i hi => .inl hi) (upd_old hd)⟩
    · by_cases e1 : i = s.next
      · by_cases e2 : j = s.next
        · rw [e1, e2]
        · subst e1
          rw [upd_same, upd_ne e2] at e
          have := h.lt (old j o' hj e2)
          simp only at e; omega
      · by_cases e2 : j = s.next
        · subst e2
          rw [upd_same, upd_ne e1] at e
          have := h.lt (old i o hi e1)
          simp only at e; omega
        · rw [upd_ne e1, upd_ne e2] at e
          exact h.inj _ _ _ _ (old i o hi e1) (old j o' hj e2) e
    · obtain ⟨g1, g2, g3⟩ := h.glob k hk
      have : k ≠ s.next := fun e => hd (e ▸ g1)
      rw [upd_ne this]
      exact ⟨.inl g1, g2, g3⟩
  size := hb.size
  keep r hr _ := hb.block r hr
  own i o hi := by
    by_cases e : i = s.next
    · subst e; rw [upd_same]; exact .inr hg
    · rw [upd_ne e]
      rw [St.at_new_ne s0 (by rw [hn]; exact fun h => e h.symm)] at hi
      exact .inl ⟨i, o, hsub _ _ hi, fun h => h, rfl⟩
  same := .of_below hb
  dom i o hi := by
    by_cases e : i = s.next
    · exact .inr ⟨by omega, by rw [St.next_new, hn]; omega⟩
    · rw [St.at_new_ne s0 (by rw [hn]; exact fun h => e h.symm)] at hi
      exact .inl ⟨o, hsub _ _ hi⟩ }

/-! sorting -/
theorem insI_eq (x : Int) : ∀ l : List Int, insI x l = (match l with | [] => [x] | y :: r => if x ≤ y then x :: y :: r else y :: insI x r)
  | [] => rfl
  | y :: r => by
    simp only [insI, iLe_eq]
    by_cases h : x ≤ y <;> simp [h]
theorem insI_perm (x : Int) : ∀ l : List Int, (insI x l).Perm (x :: l)
  | [] => .refl _
  | y :: r => by
    rw [insI_eq]
    dsimp only
    split
    · exact .refl _
    · exact ((insI_perm x r).cons y).trans (.swap x y r)
theorem insI_sorted (x : Int) : ∀ l : List Int, l.Pairwise (· ≤ ·) → (insI x l).Pairwise (· ≤ ·)
  | [], _ => by simp [insI]
  | y :: r, h => by
    rw [insI_eq]
    dsimp only
    rw [List.pairwise_cons] at h
    split
    · rename_i hxy
      refine .cons (fun z hz => ?_) (.cons h.1 h.2)
      cases hz with
      | head => exact hxy
      | tail _ hz => exact Int.le_trans hxy (h.1 z hz)
    · rename_i hxy
      refine .cons (fun z hz => ?_) (insI_sorted x r h.2)
      have := (insI_perm x r).mem_iff.1 hz
      cases this with
      | head => omega
      | tail _ hz => exact h.1 z hz
/-- the numbers of a list of values -/
def numsOf : List AV → Option (List Int)
  | [] => some []
  | .int .i64 n :: r => match numsOf r with | some l => some (n :: l) | none => none
  | _ :: _ => none
theorem sortI_ok : ∀ (ks : List AV) (l : List Int), sortI ks = some l → ∃ ns, numsOf ks = some ns ∧ l.Perm ns ∧ l.Pairwise (· ≤ ·)
  | [], l, h => by cases h; exact ⟨[], rfl, .refl _, .nil⟩
  | k :: ks, l, h => by
    unfold sortI at h
    split at h
    · rename_i e; cases e
    · rename_i n r e
      cases e
      split at h
      · rename_i l' hl'
        cases h
        obtain ⟨ns, h1, h2, h3⟩ := sortI_ok _ l' hl'
        exact ⟨n :: ns, by simp [numsOf, h1], (insI_perm n l').trans (h2.cons n), insI_sorted n l' h3⟩
      · cases h
    · cases h
/-- one sorted list -/
theorem sorted_one {l ns ss : List Int} (h1 : l.Perm ns) (h2 : l.Pairwise (· ≤ ·)) (h3 : ss.Perm ns) : ss.mergeSort (fun x y => decide (x ≤ y)) = l := by
  have tr : ∀ a b c : Int, decide (a ≤ b) = true → decide (b ≤ c) = true → decide (a ≤ c) = true := fun a b c h1 h2 => by simp only [decide_eq_true_eq] at *; omega
  have to : ∀ a b : Int, (decide (a ≤ b) || decide (b ≤ a)) = true := fun a b => by simp only [Bool.or_eq_true, decide_eq_true_eq]; omega
  refine List.Perm.eq_of_pairwise (le := fun a b => a ≤ b) (fun a b _ _ h1 h2 => Int.le_antisymm h1 h2) ?_ h2 (((List.mergeSort_perm ss _).trans h3).trans h1.symm)
  exact (List.pairwise_mergeSort tr to ss).imp fun h => by simpa using h

end Go.AM
namespace Go.AM

variable {P : Program} {tt : TT} {es : TypeId → Bool}

theorem ttok_of (P : Program) : TTok P (Tr.ofList P.types.toList) := by
  intro t i h
  rw [Tr.get_ofList, Array.getElem?_toList] at h
  have hlt : t < P.types.size := (Array.getElem?_eq_some_iff.1 h).1
  unfold Tables.info?
  rw [if_pos hlt]
  exact h

theorem cFuncs_get (tt : TT) (es : TypeId → Bool) : ∀ (fs : List Func) (i : Nat) (t : Tr PF) (f : Nat) (p : PF), (cFuncs tt es i fs t).get (path f) = some p → (∃ k fn, f = i + k ∧ fs[k]? = some fn ∧ p = cFunc tt es fn) ∨ t.get (path f) = some p
  | [], i, t, f, p, h => .inr h
  | fn :: fs, i, t, f, p, h => by
    simp only [cFuncs] at h
    rcases cFuncs_get tt es fs (Nat.succ i) _ f p h with ⟨k, fn', h1, h2, h3⟩ | h
    · exact .inl ⟨k + 1, fn', by omega, by simpa using h2, h3⟩
    · by_cases e : i = f
      · subst e
        rw [Tr.get_path_set_same] at h
        exact .inl ⟨0, fn, rfl, rfl, (Option.some.inj h).symm⟩
      · rw [Tr.get_path_set_ne e] at h
        exact .inr h

theorem ftok_of (P : Program) (tt : TT) (es : TypeId → Bool) (h : P.funcs.toList.all (fun fn => fn.body.isNone || !(fn.name == "runtime.NumGoroutine")) = true) : FTok P tt es (cFuncs tt es 0 P.funcs.toList .nil) := by
  intro f p hp
  rcases cFuncs_get tt es P.funcs.toList 0 .nil f p hp with ⟨k, fn, h1, h2, h3⟩ | h1
  · rw [Nat.zero_add] at h1
    subst h1
    refine ⟨fn, by rw [← Array.getElem?_toList]; exact h2, h3, fun hb => ?_⟩
    have := List.all_eq_true.1 h fn (List.mem_of_getElem? h2)
    simp only [Bool.or_eq_true, Bool.not_eq_true'] at this
    rcases this with h | h
    · cases hbb : fn.body with
      | none => rw [hbb] at hb; cases hb
      | some _ => rw [hbb] at h; cases h
    · exact h
  · rw [Tr.get_empty] at h1; cases h1

/-- the struct types that may be held against each other, written out -/
def esOf (l : List TypeId) (t : TypeId) : Bool := natIn t l
theorem esok_of {l : List TypeId} (h : l.all (fun t => !P.stoodInHeld t && !P.eqGuardType P.depth t) = true) : ESok P (esOf l) := by
  intro t ht
  unfold esOf at ht
  rw [natIn_iff, List.contains_iff_mem] at ht
  have := List.all_eq_true.1 h t ht
  simp only [Bool.and_eq_true, Bool.not_eq_true'] at this
  exact this

end Go.AM
namespace Go.AM
open Go.RowKit (Below)

/-- the four roads of slices.Insert at elements of sz cells, bs bytes -/
structure InsC (P : Program) (f : FuncId) (sz bs : Nat) (T : TypeId) (zc : Array Value) : Prop where
  call : Callable P f
  shift : ∀ (b off n c i vb voff m vc : Nat) (cs vs : List Value) (w : World), i < n → 0 < m → n + m ≤ c → c ≤ 9223372036854775807 → vb ≠ b → cs.length = n * sz → vs.length = m * sz →
    (∀ j v, cs[j]? = some v → w.cell? ⟨b, off + j, none⟩ = some v) → (∀ j, j < (n + m) * sz → (w.cell? ⟨b, off + j, none⟩).isSome = true) → (∀ j, j < (n + m) * sz → w.frozen? ⟨b, off + j, none⟩ = false) →
    (∀ j v, vs[j]? = some v → w.cell? ⟨vb, voff + j, none⟩ = some v) → (∀ v ∈ cs, v.oneCell' = true) → (∀ v ∈ vs, v.oneCell' = true) →
    ∀ (tA tB : TypeId) (kA kB : Nat), w.shape? vb = some (tA, kA) → w.shape? b = some (tB, kB) → kB ≠ 0 → w.frozen? ⟨vb, voff, none⟩ = false → w.frozen? ⟨vb, kA, none⟩ = false →
    Calls P f #[.slice (some ⟨b, off, none⟩) n c, .int .i64 i, .slice (some ⟨vb, voff, none⟩) m vc] w fun e w' =>
      e = .returned (.slice (some ⟨b, off, none⟩) (n + m) c) ∧ w' = (w.drew.setCells b (off + (i + m) * sz) (cs.drop (i * sz))).setCells b (off + i * sz) vs
  endRoom : ∀ (b off n c vb voff m vc : Nat) (vs : List Value) (w : World), 0 < m → n + m ≤ c → c ≤ 9223372036854775807 → vs.length = m * sz →
    (∀ j, j < m * sz → (w.cell? ⟨b, off + n * sz + j, none⟩).isSome = true) → (∀ j, j < m * sz → w.frozen? ⟨b, off + n * sz + j, none⟩ = false) →
    (∀ j v, vs[j]? = some v → w.cell? ⟨vb, voff + j, none⟩ = some v) → (∀ v ∈ vs, v.oneCell' = true) →
    Calls P f #[.slice (some ⟨b, off, none⟩) n c, .int .i64 n, .slice (some ⟨vb, voff, none⟩) m vc] w fun e w' =>
      e = .returned (.slice (some ⟨b, off, none⟩) (n + m) c) ∧ w' = w.setCells b (off + n * sz) vs
  endGrow : ∀ (base : Option Addr) (n c vb voff m vc : Nat) (cs vs : List Value) (w : World), 0 < m → n ≤ c → c < n + m → (n + m) * bs ≤ 140737488355328 → cs.length = n * sz → vs.length = m * sz → (base = none → n = 0) →
    (∀ a, base = some a → ∀ j v, cs[j]? = some v → w.cell? (a.add j) = some v) → (∀ j v, vs[j]? = some v → w.cell? ⟨vb, voff + j, none⟩ = some v) → (∀ v ∈ vs, v.oneCell' = true) →
    Calls P f #[.slice base n c, .int .i64 n, .slice (some ⟨vb, voff, none⟩) m vc] w fun e w' =>
      e = .returned (.slice (some ⟨w.heap.size, 0, none⟩) (n + m) (grownCap w (n + m) c T)) ∧ w' = w.drew.alloc (.cells ((cs ++ vs).toArray ++ Builtin.zeroCells zc (grownCap w (n + m) c T - (n + m))) T)
  grow : ∀ (b off n c i vb voff m vc : Nat) (cs vs : List Value) (w : World), i < n → 0 < m → n ≤ c → c < n + m → (n + m) * bs ≤ 140737488355328 → cs.length = n * sz → vs.length = m * sz →
    (∀ j v, cs[j]? = some v → w.cell? ⟨b, off + j, none⟩ = some v) → (∀ j v, vs[j]? = some v → w.cell? ⟨vb, voff + j, none⟩ = some v) → (∀ v ∈ cs, v.oneCell' = true) → (∀ v ∈ vs, v.oneCell' = true) →
    Calls P f #[.slice (some ⟨b, off, none⟩) n c, .int .i64 i, .slice (some ⟨vb, voff, none⟩) m vc] w fun e w' =>
      e = .returned (.slice (some ⟨w.heap.size, 0, none⟩) (n + m) (grownCap w (n + m) c T)) ∧
      w' = (((w.alloc (.cells ((cs.take (i * sz)).toArray ++ Builtin.zeroCells zc (n + m - i) ++ Builtin.zeroCells zc (grownCap w (n + m) c T - (n + m))) T)).drew.setCells w.heap.size (i * sz) vs).drew).setCells w.heap.size ((i + m) * sz) (cs.drop (i * sz))

variable {P : Program} {D : Nat → Prop} {μ : Nat → Loc}

def seg (cur : Array Value) (k : Nat) (vs : List Value) : Array Value := (cur.toList.take k ++ vs ++ cur.toList.drop (k + vs.length)).toArray

theorem setCells_seg (P : Program) {w : World} {A k : Nat} {cur : Array Value} {T : TypeId} {lo hi : Nat} {vs : List Value} (h : w.heap[A]? = some (.cells cur T (lo, hi))) (hl : lo = hi) (hle : k + vs.length ≤ cur.size) (h1 : ∀ v ∈ vs, v.oneCell' = true) :
    w.setCells A k vs = w.setRow A (seg cur k vs) := by
  have e1 := run_store_at (P := P) A k T lo hi vs 0 cur w h (.inl hl) (by omega) h1
  have e2 := run_storeCells_cells (P := P) A k vs 0 w (fun j hj => by simp [World.cell?, h]; omega) (fun j hj => by subst hl; simp [World.frozen?, h]) h1
  rw [e1] at e2
  have := (Result.ok.inj e2).2
  simp only [Nat.add_zero] at this
  exact this.symm
theorem seg_heap {w : World} {A k : Nat} {cur : Array Value} {T : TypeId} {lo hi : Nat} {vs : List Value} (h : w.heap[A]? = some (.cells cur T (lo, hi))) : (w.setRow A (seg cur k vs)).heap[A]? = some (.cells (seg cur k vs) T (lo, hi)) := setRow_heap w _ cur _ T _ h
theorem seg_sz {cur : Array Value} {vs : List Value} {k : Nat} (hk : k + vs.length ≤ cur.size) : (seg cur k vs).size = cur.size := seg_size cur vs k hk
theorem seg_at {cur : Array Value} {vs : List Value} {k : Nat} (hk : k + vs.length ≤ cur.size) (j : Nat) : (seg cur k vs)[j]? = if k ≤ j ∧ j < k + vs.length then vs[j - k]? else cur[j]? := seg_get cur vs k hk j

/-- cells of one's own laid between others -/
theorem splice_at (olds news : List Value) (a j : Nat) (ha : a ≤ olds.length) : (olds.take a ++ (news ++ olds.drop a))[j]? = if j < a then olds[j]? else if j < a + news.length then news[j - a]? else olds[j - news.length]? := by
  have h1 : (olds.take a).length = a := by rw [List.length_take]; omega
  by_cases h : j < a
  · rw [if_pos h, List.getElem?_append_left (by omega), List.getElem?_take_of_lt h]
  · rw [if_neg h, List.getElem?_append_right (by omega), h1]
    by_cases h2 : j < a + news.length
    · rw [if_pos h2, List.getElem?_append_left (by omega)]
    · rw [if_neg h2, List.getElem?_append_right (by omega), List.getElem?_drop]
      congr 1; omega

theorem or_cells {q : List AV} {Q : List Value} {cur : Array Value} {T : TypeId} {lo hi b off top : Nat} (h : VRs D μ q Q) (hf : flat q = true) (hx : ∀ j v, Q[j]? = some v → cur[off + j]? = some v) (hl : lo = hi) (hle : off + q.length ≤ cur.size) (ht : top ≤ cur.size) :
    OR D μ (.row (Row.ofList q)) ⟨b, off, top⟩ (.cells cur T (lo, hi)) := by
  refine ⟨cur, T, lo, hi, rfl, by show off + (Row.ofList q).size ≤ _; rw [Row.size_ofList]; exact hle, ht, fun i hi => ?_, fun _ => .inl hl⟩
  rw [Row.size_ofList] at hi
  have hi' : i < Q.length := by rw [← h.length]; exact hi
  refine ⟨Q[i], hx i _ (List.getElem?_eq_getElem hi'), ?_⟩
  rw [Row.get_ofList q i hi]; exact ⟨h.at i hi hi', flat_mem hf i hi⟩

theorem slice_take (r : Row) (o n k : Nat) (h : k ≤ n) : (r.slice o n).take k = r.slice o k := by
  apply List.ext_getElem
  · rw [List.length_take, Row.slice_length, Row.slice_length]; omega
  · intro i h1 h2
    rw [List.getElem_take, Row.slice_get, Row.slice_get]
theorem slice_drop (r : Row) (o n k : Nat) : (r.slice o n).drop k = r.slice (o + k) (n - k) := by
  apply List.ext_getElem
  · rw [List.length_drop, Row.slice_length, Row.slice_length]
  · intro i h1 h2
    rw [List.getElem_drop, Row.slice_get, Row.slice_get, Nat.add_assoc]

/-- a row of its own -/
theorem fresh_row {s s0 : St} {w w' : World} (hs : SR D μ s.at w) (hn : s0.next = s.next) (hsub : ∀ i o, s0.at i = some o → s.at i = some o) (hd : ¬ D s.next) (hb : Below w.heap.size w w') {cur : Array Value} {T : TypeId} (hc : w'.heap[w.heap.size]? = some (.cells cur T (0, 0)))
    {q : List AV} {Q : List Value} (hq : VRs D μ q Q) (hf : flat q = true) (hx : ∀ (j : Nat) (v : Value), Q[j]? = some v → cur[j]? = some v) {N G sz : Nat} (hG : cur.size = G * sz) (hNG : N ≤ G) (hG63 : G ≤ 9223372036854775807) (h0 : 0 < sz) (hl : q.length = N * sz) :
    ∃ D' μ', Stp D μ s w D' μ' (s0.new (.row (Row.ofList q))) w' ∧ VR D' μ' (.sl s0.next 0 N N sz) (.slice (some ⟨w.heap.size, 0, none⟩) N G) := by
  obtain ⟨k, rfl⟩ : ∃ k, sz = k + 1 := ⟨sz - 1, by omega⟩
  have hm : N * (k + 1) ≤ G * (k + 1) := Nat.mul_le_mul_right _ hNG
  refine ⟨_, _, Stp.fresh hs hn hsub hd hb (Nat.le_refl _) hc (or_cells (off := 0) (top := cur.size) (hq.mono (fun _ h => .inl h) (upd_old hd)) hf (fun j v h => by rw [Nat.zero_add]; exact hx j v h) rfl (by omega) (Nat.le_refl _)), ?_⟩
  have := VR.slk (D := more D s.next) (μ := upd μ s.next ⟨w.heap.size, 0, cur.size⟩) s.next 0 N N k G (.inr rfl) hNG (by rw [upd_same]; show 0 + 0 + G * (k + 1) ≤ cur.size; omega) hG63
  rw [upd_same] at this
  rw [hn]
  exact this

theorem grown_le {w : World} {n c : Nat} {T : TypeId} (h : n ≤ 1048576) : n ≤ grownCap w n c T ∧ grownCap w n c T ≤ 9223372036854775807 := by
  have := Nat.mod_lt (w.tape w.drawn (.appendCap n c T)) (show 2 ^ 63 - n > 0 by omega)
  have e1 : grownCap w n c T = n + w.tape w.drawn (.appendCap n c T) % (2 ^ 63 - n) := rfl
  omega

theorem at_of_cell {w : World} {b k : Nat} {cur : Array Value} {T : TypeId} {lo hi : Nat} (h : w.heap[b]? = some (.cells cur T (lo, hi))) : w.cell? ⟨b, k, none⟩ = cur[k]? := by simp [World.cell?, h]

theorem arg3 {a b c : AV} {args' : Array Value} (h : VRs D μ [a, b, c] args'.toList) : ∃ a' b' c', args' = #[a', b', c'] ∧ VR D μ a a' ∧ VR D μ b b' ∧ VR D μ c c' := by
  cases hl : args'.toList with
  | nil => rw [hl] at h; cases h
  | cons x r =>
    rw [hl] at h
    cases h with
    | cons _ _ _ _ hx hr =>
      cases r with
      | nil => cases hr
      | cons y q =>
        cases hr with
        | cons _ _ _ _ hy hq =>
          cases q with
          | nil => cases hq
          | cons z p =>
            cases hq with
            | cons _ _ _ _ hz hp => cases hp; exact ⟨x, y, z, Array.ext' hl, hx, hy, hz⟩

theorem zc_size (zc : Array Value) (n : Nat) : (Builtin.zeroCells zc n).size = n * zc.size := by simp [Builtin.zeroCells]

theorem pIns_ok {f : FuncId} {sz bs : Nat} {T : TypeId} {zc : Array Value} (C : InsC P f sz bs T zc) (hzc : zc.size = sz) (h0 : 0 < sz) (hbs : bs ≤ 1048576) : PrimOK P f (pIns sz) := by
  intro D μ args args' s w v s' ha hs hd hv
  refine ⟨C.call, ?_⟩
  have big : ∀ k, k ≤ 1048576 → k * bs ≤ 140737488355328 := fun k hk => Nat.le_trans (Nat.mul_le_mul hk hbs) (by omega)
  unfold pIns at hv
  split at hv
  · rename_i a i vb vo m vc vt
    obtain ⟨a', i', v', rfl, hxa, hxi, hxv⟩ := arg3 ha
    have := vr_int hxi
    subst this
    obtain ⟨vc', rfl, hDv, _⟩ := vr_sl hxv
    split at hv
    · rename_i rv hrv
      cases hc : (rv.w && !marked rv) && (Nat.ble 1 m && Nat.ble (vo + m * sz) rv.size) with
      | false => rw [hc] at hv; cases hv
      | true =>
        rw [hc, cond_true] at hv
        simp only [Bool.and_eq_true, Bool.not_eq_true'] at hc
        obtain ⟨⟨hvw, hvm⟩, hm1, hvf⟩ := hc
        have hm1 := Nat.le_of_ble_eq_true hm1
        have hvf := Nat.le_of_ble_eq_true hvf
        obtain ⟨vcs, vT, vlo, vhi, v1, v2, v3, v4, v5⟩ := hs.row hrv
        have vlh : vlo = vhi := (v5 hvw).elim id fun h => by rw [hvm] at h; cases h.2
        obtain ⟨news, n1, n2, n3, n4⟩ := row_cells hs hrv hvf
        have none_ := ones_of n3 n4
        have hvs : ∀ j u, news[j]? = some u → w.cell? ⟨(μ vb).blk, (μ vb).sh + vo + j, none⟩ = some u := n2
        split at hv
        · -- nothing there yet
          have := vr_nils hxa
          subst this
          cases hc : Nat.beq i 0 && Nat.ble m 1048576 with
          | false => rw [hc] at hv; cases hv
          | true =>
            rw [hc, cond_true] at hv
            simp only [Bool.and_eq_true] at hc
            have hi0 := Nat.eq_of_beq_eq_true hc.1
            have hm2 := Nat.le_of_ble_eq_true hc.2
            subst hi0
            cases hv
            refine Calls.mono (C.endGrow none 0 0 (μ vb).blk ((μ vb).sh + vo) m vc' [] news w (by omega) (Nat.le_refl _) (by omega) (big _ (by omega)) (by simp) n1 (fun _ => rfl) (fun _ h => by cases h) hvs none_) fun e w' h => ?_
            obtain ⟨rfl, rfl⟩ := h
            obtain ⟨g1, g2⟩ := grown_le (w := w) (c := 0) (T := T) (show 0 + m ≤ 1048576 by omega)
            obtain ⟨G, hG⟩ : ∃ G, G = grownCap w (0 + m) 0 T := ⟨_, rfl⟩
            rw [← hG] at g1 g2 ⊢
            have hcur : (([] ++ news).toArray ++ Builtin.zeroCells zc (G - (0 + m))).size = G * sz := by
              simp only [List.nil_append, Array.size_append, List.size_toArray, n1, zc_size, hzc]
              rw [← Nat.add_mul]; congr 1; omega
            obtain ⟨D', μ', q1, q2⟩ := fresh_row (s0 := s) hs rfl (fun _ _ h => h) (hd.fresh rfl) (w' := w.drew.alloc (.cells (([] ++ news).toArray ++ Builtin.zeroCells zc (G - (0 + m))) T)) ⟨rfl, rfl, rfl, by simp, fun k hk => Below.heap_alloc w.drew _ k hk⟩ (heap_alloc_new w.drew _) n3 n4 (fun j u hj => by
              have hlt : j < news.length := (List.getElem?_eq_some_iff.1 hj).1
              rw [List.nil_append, Array.getElem?_append_left (by simpa using hlt)]; simpa using hj) hcur g1 g2 h0 (by rw [Row.slice_length, Nat.zero_add])
            rw [Nat.zero_add] at q1 q2 ⊢
            exact ⟨_, D', μ', rfl, q1, q2⟩
        · rename_i b o n c tl
          obtain ⟨c', rfl, hDb, hcc⟩ := vr_sl hxa
          split at hv
          · rename_i r hr
            cases hc : (r.w && !marked r) && (!(Nat.beq vb b) && (Nat.ble i n && (Nat.ble n c && (Nat.ble (n + m) 1048576 && (Nat.ble (o + n * sz) r.size && capOk sz o c r tl))))) with
            | false => rw [hc] at hv; cases hv
            | true =>
              rw [hc, cond_true] at hv
              cases hv
              simp only [Bool.and_eq_true, Bool.not_eq_true'] at hc
              obtain ⟨⟨hw, hmk⟩, hvb, hin, hnc, hnm, hon, hcap⟩ := hc
              have hin := Nat.le_of_ble_eq_true hin
              have hnc := Nat.le_of_ble_eq_true hnc
              have hnm := Nat.le_of_ble_eq_true hnm
              have hon := Nat.le_of_ble_eq_true hon
              have hvb := Nat.ne_of_beq_eq_false hvb
              have hblk : (μ vb).blk ≠ (μ b).blk := fun e => hvb (hs.inj _ _ _ _ hrv hr e)
              obtain ⟨cs, T1, lo, hi, g1, g2, g3, g4, g5⟩ := hs.row hr
              have lh : lo = hi := (g5 hw).elim id fun h => by rw [hmk] at h; cases h.2
              obtain ⟨olds, o1, o2, o3, o4⟩ := row_cells hs hr hon
              have oone := ones_of o3 o4
              have hcapc : (μ b).sh + o + c' * sz ≤ cs.size ∧ c' ≤ 9223372036854775807 := by
                cases tl with
                | zero =>
                  simp only [capOk, Bool.and_eq_true] at hcap
                  have h1 := Nat.le_of_ble_eq_true hcap.1
                  have h2 := Nat.le_of_ble_eq_true hcap.2
                  have : c' = c := by cases hxa; rfl
                  subst this
                  exact ⟨by omega, by omega⟩
                | succ k =>
                  have hk := Nat.eq_of_beq_eq_true (show Nat.beq sz (k + 1) = true from hcap)
                  cases hxa with
                  | slk _ _ _ _ _ _ _ _ h1 h2 => rw [hk]; exact ⟨by omega, h2⟩
              have hdn : ¬ D s.next := hd.fresh rfl
              have ein : (i * sz) ≤ n * sz := Nat.mul_le_mul_right _ hin
              have eim : (i + m) * sz = i * sz + m * sz := Nat.add_mul _ _ _
              have enm : (n + m) * sz = n * sz + m * sz := Nat.add_mul _ _ _
              have eni : (n - i) * sz = n * sz - i * sz := Nat.sub_mul _ _ _
              have hq : VRs D μ (r.slice o (i * sz) ++ (rv.slice vo (m * sz) ++ r.slice (o + i * sz) ((n - i) * sz))) (olds.take (i * sz) ++ (news ++ olds.drop (i * sz))) := by
                have t1 := o3.take (i * sz)
                have t2 := o3.drop (i * sz)
                rw [slice_take _ _ _ _ ein] at t1
                rw [slice_drop, ← eni] at t2
                exact t1.append (n3.append t2)
              have hqf : flat (r.slice o (i * sz) ++ (rv.slice vo (m * sz) ++ r.slice (o + i * sz) ((n - i) * sz))) = true := by
                refine flat_of fun j hj => ?_
                have hjq := hj
                obtain ⟨u, hu⟩ : ∃ u, u = (r.slice o (i * sz) ++ (rv.slice vo (m * sz) ++ r.slice (o + i * sz) ((n - i) * sz)))[j] := ⟨_, rfl⟩
                rw [← hu]
                have hmem : u ∈ r.slice o (i * sz) ++ (rv.slice vo (m * sz) ++ r.slice (o + i * sz) ((n - i) * sz)) := hu ▸ List.getElem_mem hj
                have inr : ∀ x ∈ r.slice o (n * sz), flat1 x = true := fun x hx => by
                  obtain ⟨k, hk, rfl⟩ := List.getElem_of_mem hx; exact flat_mem o4 k hk
                rcases List.mem_append.1 hmem with h | h
                · rw [← slice_take r o (n * sz) (i * sz) ein] at h; exact inr _ (List.mem_of_mem_take h)
                · rcases List.mem_append.1 h with h | h
                  · obtain ⟨k, hk, rfl⟩ := List.getElem_of_mem h; exact flat_mem n4 k hk
                  · rw [eni, ← slice_drop r o (n * sz) (i * sz)] at h; exact inr _ (List.mem_of_mem_drop h)
              have hql : (r.slice o (i * sz) ++ (rv.slice vo (m * sz) ++ r.slice (o + i * sz) ((n - i) * sz))).length = (n + m) * sz := by
                rw [List.length_append, List.length_append, Row.slice_length, Row.slice_length, Row.slice_length, enm, eni]; omega
              have hQ : ∀ j u, (olds.take (i * sz) ++ (news ++ olds.drop (i * sz)))[j]? = some u → j < (n + m) * sz := fun j u hj => by
                have := (List.getElem?_eq_some_iff.1 hj).1
                rw [← hq.length, hql] at this; exact this
              have hsub : ∀ k x, (s.del b).at k = some x → s.at k = some x := fun k x hk => by
                by_cases e2 : b = k
                · subst e2; rw [St.at_del_same] at hk; cases hk
                · rw [St.at_del_ne s e2] at hk; exact hk
              have hcell : ∀ j u, olds[j]? = some u → w.cell? ⟨(μ b).blk, (μ b).sh + o + j, none⟩ = some u := o2
              by_cases hroom : n + m ≤ c'
              · -- there is room
                have hmul : (n + m) * sz ≤ c' * sz := Nat.mul_le_mul_right sz hroom
                have hsp : ∀ j, j < (n + m) * sz → (w.cell? ⟨(μ b).blk, (μ b).sh + o + j, none⟩).isSome = true := fun j hj => by
                  rw [at_of_cell g1, Array.getElem?_eq_getElem (by omega)]; rfl
                have hfz : ∀ k, w.frozen? ⟨(μ b).blk, k, none⟩ = false := fun k => by subst lh; simp [World.frozen?, g1]
                have hvz : ∀ k, w.frozen? ⟨(μ vb).blk, k, none⟩ = false := fun k => by subst vlh; simp [World.frozen?, v1]
                have hcc' : ∀ j u, olds[j]? = some u → cs[(μ b).sh + o + j]? = some u := fun j u hj => by rw [← at_of_cell g1]; exact hcell j u hj
                have fin : ∀ (W w' : World), W.heap = w.heap → Same w W → w' = (W.setCells (μ b).blk ((μ b).sh + o + (i + m) * sz) (olds.drop (i * sz))).setCells (μ b).blk ((μ b).sh + o + i * sz) news →
                    ∃ D' μ', Stp D μ s w D' μ' ((s.del b).new (.row (Row.ofList (r.slice o (i * sz) ++ (rv.slice vo (m * sz) ++ r.slice (o + i * sz) ((n - i) * sz)))))) w' ∧
                      VR D' μ' (.sl s.next 0 (n + m) (n + m) sz) (.slice (some ⟨(μ b).blk, (μ b).sh + o, none⟩) (n + m) c') := by
                  intro W w' hWh hWs hw'
                  have k1 : W.heap[(μ b).blk]? = some (.cells cs T1 (lo, hi)) := by rw [hWh]; exact g1
                  have f1 : (μ b).sh + o + (i + m) * sz + (olds.drop (i * sz)).length ≤ cs.size := by rw [List.length_drop, o1, eim]; omega
                  rw [setCells_seg P k1 lh f1 (fun v hv => oone v (List.mem_of_mem_drop hv))] at hw'
                  have k2 := seg_heap (k := (μ b).sh + o + (i + m) * sz) (vs := olds.drop (i * sz)) k1
                  have f2 : (μ b).sh + o + i * sz + news.length ≤ (seg cs ((μ b).sh + o + (i + m) * sz) (olds.drop (i * sz))).size := by rw [seg_sz f1, n1]; omega
                  rw [setCells_seg P k2 lh f2 none_] at hw'
                  have k3 := seg_heap (k := (μ b).sh + o + i * sz) (vs := news) k2
                  have hsize : (seg (seg cs ((μ b).sh + o + (i + m) * sz) (olds.drop (i * sz))) ((μ b).sh + o + i * sz) news).size = cs.size := by rw [seg_sz f2, seg_sz f1]
                  obtain ⟨k, hk⟩ : ∃ k, sz = k + 1 := ⟨sz - 1, by omega⟩
                  subst hw'
                  refine ⟨more D s.next, upd μ s.next ⟨(μ b).blk, (μ b).sh + o, cs.size⟩, Stp.swap hs hr hw hdn k3 (fun q hq => ?_) ?_ ⟨hWs.tape, hWs.os, hWs.output⟩ (or_cells (hq.mono (fun _ h => .inl h) (upd_old hdn)) hqf (fun j u hj => ?_) lh (by rw [hsize, hql]; omega) (by rw [hsize]; exact Nat.le_refl _)), ?_⟩
                  · rw [setRow_other _ _ q _ hq, setRow_other _ _ q _ hq, hWh]
                  · rw [setRow_size, setRow_size, hWh]
                  · have hj2 := hQ j u hj
                    rw [splice_at olds news _ j (by rw [o1]; exact ein)] at hj
                    rw [seg_at f2, seg_at f1, List.length_drop, o1]
                    rw [n1] at hj ⊢
                    by_cases c1 : j < i * sz
                    · rw [if_pos c1] at hj
                      rw [if_neg (by omega), if_neg (by rw [eim]; omega)]
                      exact hcc' j u hj
                    · rw [if_neg c1] at hj
                      by_cases c2 : j < i * sz + m * sz
                      · rw [if_pos c2] at hj
                        rw [if_pos (by omega), ← hj]
                        congr 1; omega
                      · rw [if_neg c2] at hj
                        rw [if_neg (by omega), if_pos (by rw [eim]; omega), List.getElem?_drop, ← hj]
                        congr 1; rw [eim]; omega
                  · have hx2 := VR.slk (D := more D s.next) (μ := upd μ s.next ⟨(μ b).blk, (μ b).sh + o, cs.size⟩) s.next 0 (n + m) (n + m) k c' (.inr rfl) hroom (by rw [upd_same, ← hk]; show (μ b).sh + o + 0 + c' * sz ≤ cs.size; omega) hcapc.2
                    rw [upd_same] at hx2
                    rw [hk]
                    exact hx2
                by_cases hie : i < n
                · have hsa : w.shape? (μ vb).blk = some (vT, vcs.size) := by simp [World.shape?, v1]
                  have hsb : w.shape? (μ b).blk = some (T1, cs.size) := by simp [World.shape?, g1]
                  have hpos : cs.size ≠ 0 := fun h => by
                    have : 1 * sz ≤ (n + m) * sz := Nat.mul_le_mul_right sz (by omega)
                    omega
                  refine Calls.mono (C.shift (μ b).blk ((μ b).sh + o) n c' i (μ vb).blk ((μ vb).sh + vo) m vc' olds news w hie (by omega) hroom hcapc.2 hblk o1 n1 hcell hsp (fun j _ => hfz _) hvs oone none_ vT T1 vcs.size cs.size hsa hsb hpos (hvz _) (hvz _)) fun e w' h => ?_
                  obtain ⟨rfl, hw'⟩ := h
                  obtain ⟨D', μ', q1, q2⟩ := fin w.drew w' rfl ⟨rfl, rfl, rfl⟩ hw'
                  exact ⟨_, D', μ', rfl, q1, q2⟩
                · have : i = n := by omega
                  subst this
                  refine Calls.mono (C.endRoom (μ b).blk ((μ b).sh + o) i c' (μ vb).blk ((μ vb).sh + vo) m vc' news w (by omega) hroom hcapc.2 n1 (fun j hj => by rw [Nat.add_assoc]; exact hsp _ (by omega)) (fun j _ => hfz _) hvs none_) fun e w' h => ?_
                  obtain ⟨rfl, hw'⟩ := h
                  have hdr : olds.drop (i * sz) = [] := List.drop_eq_nil_of_le (by omega)
                  obtain ⟨D', μ', q1, q2⟩ := fin w w' rfl (.refl w) (by rw [hdr]; exact hw')
                  exact ⟨_, D', μ', rfl, q1, q2⟩
              · -- there is none
                obtain ⟨p1, p2⟩ := grown_le (w := w) (c := c') (T := T) hnm
                by_cases hie : i < n
                · refine Calls.mono (C.grow (μ b).blk ((μ b).sh + o) n c' i (μ vb).blk ((μ vb).sh + vo) m vc' olds news w hie (by omega) (by omega) (by omega) (big _ hnm) o1 n1 hcell hvs oone none_) fun e w' h => ?_
                  obtain ⟨rfl, hw'⟩ := h
                  obtain ⟨G, hG⟩ : ∃ G, G = grownCap w (n + m) c' T := ⟨_, rfl⟩
                  rw [← hG] at p1 p2 hw' ⊢
                  obtain ⟨ROW, hROW⟩ : ∃ ROW : Array Value, ROW = (olds.take (i * sz)).toArray ++ Builtin.zeroCells zc (n + m - i) ++ Builtin.zeroCells zc (G - (n + m)) := ⟨_, rfl⟩
                  rw [← hROW] at hw'
                  have hRs : ROW.size = G * sz := by
                    rw [hROW]
                    simp only [Array.size_append, List.size_toArray, List.length_take, o1, zc_size, hzc]
                    rw [Nat.min_eq_left ein, ← Nat.add_mul, ← Nat.add_mul]; congr 1; omega
                  have hmG : (n + m) * sz ≤ G * sz := Nat.mul_le_mul_right sz p1
                  have k1 : ((w.alloc (.cells ROW T)).drew).heap[w.heap.size]? = some (.cells ROW T (0, 0)) := heap_alloc_new w _
                  have f1 : i * sz + news.length ≤ ROW.size := by rw [n1, hRs]; omega
                  rw [setCells_seg P k1 rfl f1 none_] at hw'
                  have k2 := seg_heap (k := i * sz) (vs := news) k1
                  have f2 : (i + m) * sz + (olds.drop (i * sz)).length ≤ (seg ROW (i * sz) news).size := by rw [seg_sz f1, List.length_drop, o1, hRs, eim]; omega
                  have k2' : ((((w.alloc (.cells ROW T)).drew).setRow w.heap.size (seg ROW (i * sz) news)).drew).heap[w.heap.size]? = some (.cells (seg ROW (i * sz) news) T (0, 0)) := k2
                  rw [setCells_seg P k2' rfl f2 (fun v hv => oone v (List.mem_of_mem_drop hv))] at hw'
                  have k3 := seg_heap (k := (i + m) * sz) (vs := olds.drop (i * sz)) k2'
                  subst hw'
                  have hbel : Below w.heap.size w ((((w.alloc (.cells ROW T)).drew.setRow w.heap.size (seg ROW (i * sz) news)).drew).setRow w.heap.size (seg (seg ROW (i * sz) news) ((i + m) * sz) (olds.drop (i * sz)))) :=
                    ⟨rfl, rfl, rfl, by rw [setRow_size]; show _ ≤ (World.setRow _ _ _).heap.size; rw [setRow_size]; show _ ≤ (w.alloc _).heap.size; simp, fun k hk => by
                      rw [setRow_other _ _ k _ (by omega)]
                      show (World.setRow _ _ _).heap[k]? = _
                      rw [setRow_other _ _ k _ (by omega)]
                      exact Below.heap_alloc w _ k hk⟩
                  have hxx : ∀ (j : Nat) (u : Value), (olds.take (i * sz) ++ (news ++ olds.drop (i * sz)))[j]? = some u → (seg (seg ROW (i * sz) news) ((i + m) * sz) (olds.drop (i * sz)))[j]? = some u := fun j u hj => by
                    have hj2 := hQ j u hj
                    rw [splice_at olds news _ j (by rw [o1]; exact ein)] at hj
                    rw [seg_at f2, seg_at f1, List.length_drop, o1]
                    rw [n1] at hj ⊢
                    by_cases c1 : j < i * sz
                    · rw [if_pos c1] at hj
                      rw [if_neg (by rw [eim]; omega), if_neg (by omega), hROW, Array.append_assoc, Array.getElem?_append_left (by rw [List.size_toArray, List.length_take, o1, Nat.min_eq_left ein]; exact c1), List.getElem?_toArray, List.getElem?_take_of_lt c1]
                      exact hj
                    · rw [if_neg c1] at hj
                      by_cases c2 : j < i * sz + m * sz
                      · rw [if_pos c2] at hj
                        rw [if_neg (by rw [eim]; omega), if_pos (by omega)]
                        exact hj
                      · rw [if_neg c2] at hj
                        rw [if_pos (by rw [eim]; omega), List.getElem?_drop, ← hj]
                        congr 1; rw [eim]; omega
                  obtain ⟨D', μ', q1, q2⟩ := fresh_row (s0 := s.del b) hs rfl hsub hdn hbel k3 hq hqf hxx (by rw [seg_sz f2, seg_sz f1]; exact hRs) p1 p2 h0 hql
                  exact ⟨_, D', μ', rfl, q1, q2⟩
                · have : i = n := by omega
                  subst this
                  have hsome : ∀ a, some (⟨(μ b).blk, (μ b).sh + o, none⟩ : Addr) = some a → ∀ j v, olds[j]? = some v → w.cell? (a.add j) = some v := fun a ha j v hj => by cases ha; rw [add_at]; exact hcell j v hj
                  refine Calls.mono (C.endGrow (some ⟨(μ b).blk, (μ b).sh + o, none⟩) i c' (μ vb).blk ((μ vb).sh + vo) m vc' olds news w (by omega) (by omega) (by omega) (big _ hnm) o1 n1 (fun h => by cases h) hsome hvs none_) fun e w' h => ?_
                  obtain ⟨rfl, hw'⟩ := h
                  obtain ⟨G, hG⟩ : ∃ G, G = grownCap w (i + m) c' T := ⟨_, rfl⟩
                  rw [← hG] at p1 p2 hw' ⊢
                  subst hw'
                  have hcur : ((olds ++ news).toArray ++ Builtin.zeroCells zc (G - (i + m))).size = G * sz := by
                    simp only [Array.size_append, List.size_toArray, List.length_append, o1, n1, zc_size, hzc]
                    rw [← Nat.add_mul, ← Nat.add_mul]; congr 1; omega
                  have hbel : Below w.heap.size w (w.drew.alloc (.cells ((olds ++ news).toArray ++ Builtin.zeroCells zc (G - (i + m))) T)) := ⟨rfl, rfl, rfl, by simp, fun k hk => Below.heap_alloc w.drew _ k hk⟩
                  have hxx : ∀ (j : Nat) (u : Value), (olds.take (i * sz) ++ (news ++ olds.drop (i * sz)))[j]? = some u → ((olds ++ news).toArray ++ Builtin.zeroCells zc (G - (i + m)))[j]? = some u := fun j u hj => by
                    have e1 : olds.take (i * sz) ++ (news ++ olds.drop (i * sz)) = olds ++ news := by
                      rw [List.take_of_length_le (by omega), List.drop_eq_nil_of_le (by omega), List.append_nil]
                    rw [e1] at hj
                    have hlt : j < (olds ++ news).length := (List.getElem?_eq_some_iff.1 hj).1
                    rw [Array.getElem?_append_left (by simpa using hlt)]
                    simpa using hj
                  obtain ⟨D', μ', q1, q2⟩ := fresh_row (s0 := s.del b) hs rfl hsub hdn hbel (heap_alloc_new w.drew _) hq hqf hxx hcur p1 p2 h0 hql
                  exact ⟨_, D', μ', rfl, q1, q2⟩
          · cases hv
        · cases hv
    · cases hv
  · cases hv

end Go.AM
