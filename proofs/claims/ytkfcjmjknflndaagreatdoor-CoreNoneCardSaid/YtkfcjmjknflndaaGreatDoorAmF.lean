/-
  slices.Sorted over what an iterator of the library yields, wherever the iterator's box lies; the iterator may read what lay ahead of the call.
  slices.Sorted over what an iterator of the library yields, wherever the iterator's box lies; the iterator may read what lay ahead of the call.
  slices.Sorted: the primitive is sound.
  slices.Sorted at strings: the primitive is sound.
-/
import Derived.Test.YtkfcjmjknflndaaGreatDoorAmE
import Derived.Shelf.SlIterI.Nil
import Derived.Shelf.SortM.Plain
import Derived.Shelf.SortM.SortNone
import Derived.Shelf.SlIter.Nil
import Derived.Sort.Walk0
set_option linter.unusedVariables false
set_option linter.unusedSimpArgs false
namespace Go.AM
open Go Go.RowKit Go.Maps Go.Sort Go.Shelf Go.Proofs
variable {P : Program} {ρ : Ren}

/-- an iterator's promise to a caller that leaves what lay below -/
def GivesB {α : Type} (F : Fence) (n : Nat) (P : Program) (g : Nat) (lb : Array Value) (enc : α → Value) (S : List α → Prop) (N : Nat) (w : World) : Prop :=
  ∀ (l : Nat) (J : List α → World → Prop) (W : World), Below w.heap.size w W → AbidesFrom W.heap.size J → (∀ pre W1, J pre W1 → Below w.heap.size w W1) →
    (∀ pre x W1, J pre W1 → pre.length < N → YieldAt F (n - 1) P l #[enc x] W1 fun e W' => e = .returned (.bool true) ∧ J (pre ++ [x]) W' ∧ KeepsWalks W1 W') →
    J [] W →
    CallsIn F n P g (#[.func (.yield l) #[] #[]] ++ lb) W fun e W' => (∃ v, e = .returned v) ∧ ∃ xs, S xs ∧ J xs W'

theorem sortsI_in (L : SlLaysM.n5 P ρ) {ρ' : Ren} (hρ : ρ'.f 9 = ρ.f 5) (m : Nat) : AnyZI.SortsIn P ρ' Fence.wide m :=
  ⟨fun blk off cap ss W hH hblk hsz => by rw [hρ]; exact callsIn_wide.2 (AnyM.slices_Sort_int L blk off cap ss W hH hblk hsz),
   fun p cap W => by rw [hρ]; exact callsIn_wide.2 (AnyM.slices_Sort_int_none L p cap W)⟩

set_option maxRecDepth 100000 in
set_option maxHeartbeats 1000000 in
/-- the keys of a map, the map's box at any place -/
theorem keys1I_at (L : SlLaysZI.n10 P ρ) {H : Type} (F : Fence) (n : Nat) (h10 : F.fn (ρ.f 10)) (hro : F.round = none) (hn : 1 ≤ n) (l Bm off b nn : Nat) (D0 : DataW H) {R : Value → Option (DataW H × List MemPlace)} (J : List Int → World → Prop)
    (hY : ∀ pre x W, J pre W → pre.length < Maps.size D0 → YieldAt F (n - 1) P l #[encZ x] W fun e W' => e = .returned (.bool true) ∧ J (pre ++ [x]) W' ∧ KeepsWalks W W')
    (W : World) (hJ : AbidesFrom W.heap.size J) (hm : W.cell? ⟨Bm, off, none⟩ = some (.map (some b))) (hown : W.ownsMap P (ρ.t 26) R b nn D0) (h0 : J [] W) :
    CallsIn F n P (ρ.f 10) #[.func (.yield l) #[] #[], .pointer (some ⟨Bm, off, none⟩)] W fun e W' => (∃ v, e = .returned v) ∧ ∃ ss : List Int, ss.Perm (intKeys D0) ∧ J ss W' := by
  have mixed := L.mixed; have t0 := L.t0; have a0 := L.a0; have z0 := L.z0; have v0 := L.v0; have t4 := L.t4; have a4 := L.a4; have z4 := L.z4; have v4 := L.v4; have t23 := L.t23; have a23 := L.a23; have z23 := L.z23; have v23 := L.v23; have t26 := L.t26; have a26 := L.a26; have z26 := L.z26; have v26 := L.v26; have t33 := L.t33; have a33 := L.a33; have z33 := L.z33; have v33 := L.v33
  have u0 := run_underlying L.t0; have u4 := run_underlying L.t4; have u23 := run_underlying L.t23; have u26 := run_underlying L.t26; have u33 := run_underlying L.t33
  obtain ⟨_, _, FG⟩ := L.f10
  refine callsIn_of_wp FG rfl h10 ?_ hro
  simp only [SlBodyZ.n10_ntmps ρ, List.size_toArray, List.length_cons, List.length_nil, Nat.reduceAdd, Nat.reduceSub, Array.replicate_succ, Array.replicate_zero, List.push_toArray, List.append_toArray, List.nil_append, List.cons_append]
  gi_wp2_with (first
    | (gi_at_range; refine wpListIn_range_own _ rfl _ (ρ.t 23) rfl (ρ.t 26) (ρ.t 3) (int_keyed L.t26) L.t23 _ b nn _ rfl hown ?_; intro w0 hrg0 hg0 hs0)
    | gi_in)
  go_frame
  gi_loopw [3] (fun _ wr => ∃ (left : Lit → Bool) (cnt : Nat) (ss : List Int), wr.ranges P (ρ.t 26) R b W.heap.size nn D0 left cnt ∧ ss.length + cnt ≤ Maps.size D0 ∧ CollectedI D0 left ss ∧ J ss wr)
    (fun _ wr => wr.rangeLeft b W.heap.size)
  case atStart =>
    exact ⟨_, _, [], hrg0, by simp, CollectedI.start D0, hJ [] W w0 none h0 hg0 (fun r e => by cases e)⟩
  case round =>
    obtain ⟨left, cnt, ss, hrg, hcs, hC, hJs⟩ := hrel
    gi_wp2_with (first
      | (gi_at_next; refine wpListIn_next_ranges _ rfl _ rfl (ρ.t 26) (int_keyed L.t26) R encZ id (fun key kl hk => by obtain ⟨x, hx, _⟩ := Maps.keyOf_i64 L.t26 hk; exact ⟨x, hx⟩) (fun v _ _ => ⟨v, rfl⟩) b W.heap.size nn _ _ _ rfl hrg ?_ ?_)
      | gi_in)
    · intro hc0 hl0
      gi_wp2
      go_end0
      exact ⟨⟨_, rfl⟩, ss, hC.perm hown (int_keyed L.t26) L.t26 hl0, hJs⟩
    · intro x c kl yd yp w2 cnt2 hkey hlk hv hat hrg2 hlt hg2 hs2 hen
      obtain ⟨x', ex, rfl, _⟩ := Maps.keyOf_i64 L.t26 hkey
      obtain rfl : x = x' := encZ_inj ex
      have hJ2 : J ss w2 := hJ ss wr w2 (some W.heap.size) hJs hg2 (fun r e => by cases e; exact ⟨Nat.le_refl _, hrg.iter_walk⟩)
      obtain ⟨fn, tmps, assign, body, hy, hR⟩ := hY ss x w2 hJ2 (by omega)
      clear hs2
      gi_wp2
      refine hR.mono ?_
      rintro e W3 ⟨rfl, hJ3, hk3⟩
      gi_wp2
      have hrg3 := hrg2.of_walks hk3
      go_roundw
      case rel => exact ⟨_, cnt2, ss ++ [x], hrg3, by simp; omega, hC.step hlk hat, hJ3⟩
      case measure => rw [hrg3.left_eq, hrg.left_eq]; exact hlt

theorem keysI_gives (L : SlLaysZI.n10 P ρ) {H : Type} (F : Fence) (n : Nat) (h10 : F.fn (ρ.f 10)) (hro : F.round = none) (hn : 1 ≤ n) (Bm off b nn : Nat) (D0 : DataW H) {R : Value → Option (DataW H × List MemPlace)} (w : World) (hBm : Bm < w.heap.size)
    (hm : w.cell? ⟨Bm, off, none⟩ = some (.map (some b))) (hown : w.ownsMap P (ρ.t 26) R b nn D0) :
    GivesB F n P (ρ.f 10) #[.pointer (some ⟨Bm, off, none⟩)] encZ (fun ss => ss.Perm (intKeys D0)) (Maps.size D0) w := fun l J W hW hJ _ hY h0 => by
  have hown' : W.ownsMap P (ρ.t 26) R b nn D0 := by
    have hbl := hown.lt
    obtain ⟨es, clock, hb, Ft, hs, hD⟩ := hown
    exact ⟨es, clock, (hW.block b hbl).trans hb, Ft, hs, hD⟩
  exact keys1I_at { L with } F n h10 hro hn l Bm off b nn D0 J hY W hJ ((hW.cell (p := ⟨Bm, off, none⟩) hBm).trans hm) hown' h0

set_option maxRecDepth 100000 in
set_option maxHeartbeats 1000000 in
theorem keys1I_nil_at (L : SlLaysZI.n10 P ρ) (F : Fence) (n : Nat) (h10 : F.fn (ρ.f 10)) (hro : F.round = none) (l Bm off : Nat) (J : List Int → World → Prop) (W : World) (hJ : AbidesFrom W.heap.size J)
    (hm : W.cell? ⟨Bm, off, none⟩ = some (.map none)) (h0 : J [] W) :
    CallsIn F n P (ρ.f 10) #[.func (.yield l) #[] #[], .pointer (some ⟨Bm, off, none⟩)] W fun e W' => (∃ v, e = .returned v) ∧ ∃ ss : List Int, ss = [] ∧ J ss W' := by
  have mixed := L.mixed; have t0 := L.t0; have a0 := L.a0; have z0 := L.z0; have v0 := L.v0; have t4 := L.t4; have a4 := L.a4; have z4 := L.z4; have v4 := L.v4; have t23 := L.t23; have a23 := L.a23; have z23 := L.z23; have v23 := L.v23; have t26 := L.t26; have a26 := L.a26; have z26 := L.z26; have v26 := L.v26; have t33 := L.t33; have a33 := L.a33; have z33 := L.z33; have v33 := L.v33
  have u0 := run_underlying L.t0; have u4 := run_underlying L.t4; have u23 := run_underlying L.t23; have u26 := run_underlying L.t26; have u33 := run_underlying L.t33
  obtain ⟨_, _, FG⟩ := L.f10
  refine callsIn_of_wp FG rfl h10 ?_ hro
  simp only [SlBodyZ.n10_ntmps ρ, List.size_toArray, List.length_cons, List.length_nil, Nat.reduceAdd, Nat.reduceSub, Array.replicate_succ, Array.replicate_zero, List.push_toArray, List.append_toArray, List.nil_append, List.cons_append]
  have hrg := run_range_nilMap (P := P) W (ρ.t 23) (ρ.t 26) (ρ.t 3) L.t23
  have hnx : ∀ ty, (Instr.next (.pointer (some ⟨W.heap.size, 0, none⟩)) false ty).run P (W.alloc (.mapIter none 0 #[] 0)) = _ := fun ty => run_next_nilMap _ ty 0 0 #[]
  gi_wp2
  refine wpIn_loop_rounds 1 ?_
  rw [roundsIn_succ]
  gi_wp2
  go_end0
  exact ⟨⟨_, rfl⟩, [], rfl, hJ [] W _ none h0 (World.grownBy_alloc W _ none) (fun r e => by cases e)⟩

theorem keysI_gives_nil (L : SlLaysZI.n10 P ρ) (F : Fence) (n : Nat) (h10 : F.fn (ρ.f 10)) (hro : F.round = none) (Bm off : Nat) (w : World) (hBm : Bm < w.heap.size) (hm : w.cell? ⟨Bm, off, none⟩ = some (.map none)) :
    GivesB F n P (ρ.f 10) #[.pointer (some ⟨Bm, off, none⟩)] encZ (fun ss : List Int => ss = []) 0 w := fun l J W hW hJ _ _ h0 =>
  keys1I_nil_at { L with } F n h10 hro l Bm off J W hJ ((hW.cell (p := ⟨Bm, off, none⟩) hBm).trans hm) h0

set_option maxRecDepth 100000 in
set_option maxHeartbeats 2000000 in
theorem appendSeqI_at (L : SlLaysZI.n11 P ρ) (F : Fence) (n : Nat) (h11 : F.fn (ρ.f 11)) (hro : F.round = none) (hn : 2 ≤ n) (g : Nat) (lb : Array Value) (hFg : F.fn g) (eg : ∀ args w, (callFunc g args).run P w = .ok (.enter g args) w)
    (S : List Int → Prop) (N : Nat) (hN : N ≤ maxLen) (hNb : N * 8 ≤ 140737488355328) (w : World) (hseq : GivesB F (n - 1) P g lb encZ S N w) :
    CallsIn F n P (ρ.f 11) #[.slice none 0 0, .func (.func g) #[] lb] w fun e w' => ∃ (v : Value) (ss : List Int), e = .returned v ∧ S ss ∧ w'.ownsRow w.heap.size (ρ.t 26) 1 v ss.length (ss.map encZ) ∧ (v = .slice none 0 0 ↔ ss = []) ∧ Below w.heap.size w w' := by
  have h1 : 1 ≤ n := by omega
  have mixed := L.mixed; have t0 := L.t0; have a0 := L.a0; have z0 := L.z0; have v0 := L.v0; have t24 := L.t24; have a24 := L.a24; have z24 := L.z24; have v24 := L.v24; have t26 := L.t26; have a26 := L.a26; have z26 := L.z26; have v26 := L.v26; have t28 := L.t28; have a28 := L.a28; have z28 := L.z28; have v28 := L.v28
  have hne : ρ.t 24 ≠ ρ.t 26 := fun e => by have h := L.t24; rw [e, L.t26] at h; cases h
  have u0 := run_underlying L.t0; have u24 := run_underlying L.t24; have u26 := run_underlying L.t26; have u28 := run_underlying L.t28
  obtain ⟨_, _, FG⟩ := L.f11
  refine callsIn_of_wp_marks FG rfl h11 ?_ hro
  simp only [SlBodyZ.n11_ntmps ρ, List.size_toArray, List.length_cons, List.length_nil, Nat.reduceAdd, Nat.reduceSub, Array.replicate_succ, Array.replicate_zero, List.push_toArray, List.append_toArray, List.nil_append, List.cons_append]
  gi_wp2
  refine wpIn_rangeFunc ?_
  intro fn hfn
  rw [hro]
  obtain ⟨W0, hW0⟩ : ∃ W0, w.alloc (.cells #[.slice none 0 0] (ρ.t 24)) = W0 := ⟨_, rfl⟩
  have hs0 : W0.heap.size = w.heap.size + 1 := by rw [← hW0]; simp
  have hv0 : W0.heap[w.heap.size]? = some (.cells #[.slice none 0 0] (ρ.t 24) (0, 0)) := by rw [← hW0]; exact World.alloc_heap_new w _
  have hb0 : Below w.heap.size w W0 := by rw [← hW0]; exact (Below.refl _ w).alloc (Nat.le_refl _) _
  rw [hW0]
  obtain ⟨W1, hW1⟩ : ∃ W1, (W0.alloc (.deferred (some []))).alloc (.loop (AnyZI.apRec ρ fn (.func (.func g) #[] lb) w.heap.size W0.heap.size .ready none)) = W1 := ⟨_, rfl⟩
  have hold : ∀ k, k < W0.heap.size → W1.heap[k]? = W0.heap[k]? := fun k hk => by
    rw [← hW1]; exact (Below.heap_alloc _ _ k (by simp; omega)).trans (Below.heap_alloc _ _ k hk)
  have hb1 : Below w.heap.size w W1 := by rw [← hW1]; exact (hb0.alloc hb0.size _).alloc (by have := hb0.size; simp; omega) _
  have hs1 : W1.heap.size = W0.heap.size + 2 := by rw [← hW1]; simp
  have hM : AnyZI.ApAt ρ w fn (.func (.func g) #[] lb) w.heap.size (W0.heap.size + 1) W0.heap.size [] W1 :=
    ⟨⟨_, (hold w.heap.size (by omega)).trans hv0, ⟨rfl, .inl ⟨rfl, rfl⟩⟩, by simp⟩,
     by rw [← hW1]; have := World.alloc_heap_new (W0.alloc (.deferred (some []))) (.loop (AnyZI.apRec ρ fn (.func (.func g) #[] lb) w.heap.size W0.heap.size .ready none)); rwa [World.size_alloc] at this,
     by rw [← hW1]; exact (Below.heap_alloc _ _ _ (by simp)).trans (World.alloc_heap_new W0 _), hb1⟩
  refine ⟨W0.heap.size + 1, [{ target := .collected W0.heap.size, args := #[] }], W1, { target := .fn (.func g) lb, args := #[.func (.yield (W0.heap.size + 1)) #[] #[]] }, W1, g,
    #[.func (.yield (W0.heap.size + 1)) #[] #[]] ++ lb, W1, ?_, ?_, ?_, ?_, fun _ => h1, ?_⟩
  · rw [← hW1]; exact run_enterLoop_outer _ _ _ _ _
  · simp [resolve, go_sem]
  · intro f' hf'; simp [Target.leads] at hf'; subst hf'; exact hFg
  · simp [invoke, go_sem, eg]
  · refine (hseq (W0.heap.size + 1) (AnyZI.ApAt ρ w fn (.func (.func g) #[] lb) w.heap.size (W0.heap.size + 1) W0.heap.size) W1 hb1 (AnyZI.ap_abides ρ _ _ _ _ _ _ _ hb1.size) (fun _ _ h => h.below)
      (fun pre x W hJ hl => AnyZI.apYield { L with } F (n - 1 - 1) w fn hfn _ w.heap.size (W0.heap.size + 1) W0.heap.size (by omega) (by omega) (by omega) (Nat.le_refl _) (by omega) N hN hNb pre x W hJ hl) hM).mono ?_
    rintro e W2 ⟨⟨v0, rfl⟩, ss, hS, h2⟩
    obtain ⟨v, hv, hrow, hnil⟩ := h2.box
    have hend := run_endLoop (P := P) h2.L (by simp [AnyZI.apRec])
    obtain ⟨W3, hW3⟩ : ∃ W3, W2.putObj (W0.heap.size + 1) (.loop { AnyZI.apRec ρ fn (.func (.func g) #[] lb) w.heap.size W0.heap.size .ready none with state := .exhausted }) = W3 := ⟨_, rfl⟩
    rw [hW3] at hend
    have hg3 : W2.grownBy W3 (some (W0.heap.size + 1)) := by rw [← hW3]; exact grownBy_putObj_a _ _ _
    have hv3 : W3.heap[w.heap.size]? = some (.cells #[v] (ρ.t 24) (0, 0)) := by rw [← hW3]; exact (World.putObj_heap_other (by omega)).trans hv
    have hK3 : W3.heap[W0.heap.size]? = some (.deferred (some [])) := by rw [← hW3]; exact (World.putObj_heap_other (by omega)).trans h2.K
    have hrow3 := hrow.kept hg3 (ownsRow_ne_a hrow h2.L (fun cur e => by first | cases e | exact hne (Obj.cells.inj e).2.1))
    have hb3 : Below w.heap.size w W3 := h2.below.grown hg3 h2.below.size (fun k e => by cases e; omega)
    obtain ⟨hc3, hf3⟩ := cell_of_box_a hv3
    clear hW3
    refine ⟨none, W3, hend, ?_⟩
    gi_wp2
    rw [← hs0]
    refine ⟨by simp, .inl ⟨_, _, rfl, run_takeDeferred hK3, ?_⟩⟩
    exact ⟨_, results_tmp rfl _ _ _, v, ss, rfl, hS, hrow3.kept (grownBy_putObj_a _ _ _) (ownsRow_ne_a hrow3 hK3 (fun cur e => by first | cases e | exact hne (Obj.cells.inj e).2.1)), hnil, hb3.grown (grownBy_putObj_a _ _ _) hb3.size (fun k e => by cases e; omega)⟩

set_option maxHeartbeats 1000000 in
theorem collectI_at (L : SlLaysZI.n8 P ρ) (F : Fence) (n : Nat) (h8 : F.fn (ρ.f 8)) (h11 : F.fn (ρ.f 11)) (hro : F.round = none) (hn : 3 ≤ n) (g : Nat) (lb : Array Value) (hFg : F.fn g) (eg : ∀ args w, (callFunc g args).run P w = .ok (.enter g args) w)
    (S : List Int → Prop) (N : Nat) (hN : N ≤ maxLen) (hNb : N * 8 ≤ 140737488355328) (w : World) (hseq : GivesB F (n - 1 - 1) P g lb encZ S N w) :
    CallsIn F n P (ρ.f 8) #[.func (.func g) #[] lb] w fun e w' => ∃ (v : Value) (ss : List Int), e = .returned v ∧ S ss ∧ w'.ownsRow w.heap.size (ρ.t 26) 1 v ss.length (ss.map encZ) ∧ (v = .slice none 0 0 ↔ ss = []) ∧ Below w.heap.size w w' := by
  have h1 : 1 ≤ n := by omega
  have e11 : ∀ args w, (callFunc (ρ.f 11) args).run P w = .ok (.enter (ρ.f 11) args) w := L.f11.enters rfl
  have mixed := L.mixed; have t0 := L.t0; have a0 := L.a0; have z0 := L.z0; have v0 := L.v0; have t24 := L.t24; have a24 := L.a24; have z24 := L.z24; have v24 := L.v24; have t26 := L.t26; have a26 := L.a26; have z26 := L.z26; have v26 := L.v26; have t28 := L.t28; have a28 := L.a28; have z28 := L.z28; have v28 := L.v28
  have u0 := run_underlying L.t0; have u24 := run_underlying L.t24; have u26 := run_underlying L.t26; have u28 := run_underlying L.t28
  obtain ⟨_, _, FG⟩ := L.f8
  refine callsIn_of_wp FG rfl h8 ?_ hro
  simp only [SlBodyZ.n8_ntmps ρ, List.size_toArray, List.length_cons, List.length_nil, Nat.reduceAdd, Nat.reduceSub, Array.replicate_succ, Array.replicate_zero, List.push_toArray, List.append_toArray, List.nil_append, List.cons_append]
  gi_wp2_with (gi_at_fn (ρ.f 11); refine (appendSeqI_at { L with } F (n - 1) h11 hro (by omega) g lb hFg eg S N hN hNb _ hseq).mono ?_; rintro e w' ⟨v, ss, rfl, hS, hrow, hnil, hb⟩)
  go_ret
  exact ⟨v, ss, rfl, hS, hrow, hnil, hb⟩

set_option maxRecDepth 100000 in
set_option maxHeartbeats 2000000 in
theorem sortedI_at (L : SlLaysZI.n6 P ρ) (F : Fence) (n : Nat) (h6 : F.fn (ρ.f 6)) (h8 : F.fn (ρ.f 8)) (h9 : F.fn (ρ.f 9)) (h11 : F.fn (ρ.f 11)) (hro : F.round = none) (hn : 4 ≤ n) (hsort : AnyZI.SortsIn P ρ F (n - 1)) (e9 : ∀ args w, (callFunc (ρ.f 9) args).run P w = .ok (.enter (ρ.f 9) args) w) (g : Nat) (lb : Array Value) (hFg : F.fn g) (eg : ∀ args w, (callFunc g args).run P w = .ok (.enter g args) w)
    (S : List Int → Prop) (N : Nat) (hN : N ≤ maxLen) (hNb : N * 8 ≤ 140737488355328) (hSl : ∀ ss, S ss → ss.length ≤ N) (w : World) (hseq : GivesB F (n - 1 - 1 - 1) P g lb encZ S N w) :
    CallsIn F n P (ρ.f 6) #[.func (.func g) #[] lb] w fun e w' => ∃ (v : Value) (ss : List Int), e = .returned v ∧ S ss ∧
      w'.ownsRow w.heap.size (ρ.t 26) 1 v ss.length ((ss.mergeSort (fun x y => decide (x ≤ y))).map encZ) ∧ (v = .slice none 0 0 ↔ ss = []) ∧ Below w.heap.size w w' := by
  have h1 : 1 ≤ n := by omega
  have e8 : ∀ args w, (callFunc (ρ.f 8) args).run P w = .ok (.enter (ρ.f 8) args) w := L.f8.enters rfl
  have mixed := L.mixed; have t0 := L.t0; have a0 := L.a0; have z0 := L.z0; have v0 := L.v0; have t24 := L.t24; have a24 := L.a24; have z24 := L.z24; have v24 := L.v24; have t26 := L.t26; have a26 := L.a26; have z26 := L.z26; have v26 := L.v26; have t28 := L.t28; have a28 := L.a28; have z28 := L.z28; have v28 := L.v28
  have u0 := run_underlying L.t0; have u24 := run_underlying L.t24; have u26 := run_underlying L.t26; have u28 := run_underlying L.t28
  obtain ⟨_, _, FG⟩ := L.f6
  refine callsIn_of_wp FG rfl h6 ?_ hro
  simp only [SlBodyZ.n6_ntmps ρ, List.size_toArray, List.length_cons, List.length_nil, Nat.reduceAdd, Nat.reduceSub, Array.replicate_succ, Array.replicate_zero, List.push_toArray, List.append_toArray, List.nil_append, List.cons_append]
  gi_wp2_with (gi_at_fn (ρ.f 8); refine (collectI_at { L with } F (n - 1) h8 h11 hro (by omega) g lb hFg eg _ N hN hNb _ hseq).mono ?_; rintro e W ⟨v, ss, rfl, hS, hrow, hnil, hb⟩)
  have hlen := hSl ss hS
  rcases hrow.2 with ⟨rfl, hz⟩ | ⟨gb, cap, cur, rfl, hbase, hgb, r1, r2, r3, r4⟩
  · have hss : ss = [] := List.eq_nil_of_length_eq_zero hz
    subst hss
    gi_wp2_with (gi_at_fn (ρ.f 9); refine (hsort.2 none 0 W).mono ?_; rintro e w' ⟨rfl, rfl⟩)
    go_ret
    exact ⟨.slice none 0 0, [], rfl, hS, by simpa using hrow, by simp, hb⟩
  · have hH : Holds encZ W gb 0 ss.toArray := holds_of_block_i hgb (by simpa using r4)
    have hgl : gb < W.heap.size := (Array.getElem?_eq_some_iff.1 hgb).1
    have hsz : ss.length < 4611686018427387904 := by omega
    have cS := hsort.1 gb 0 cap ss W hH hgl hsz
    gi_wp2_with (gi_at_fn (ρ.f 9); refine cS.mono ?_; rintro e w' ⟨rfl, nn, os, rfl⟩)
    go_ret
    exact ⟨_, ss, rfl, hS, ownsRow_sorted_i (by simp) hbase hgb r1 r2 r3, hnil, hb.grown (grownBy_sorted_i _) hb.size (fun j hj => by cases hj; exact hbase)⟩

end Go.AM
namespace Go.AM
open Go Go.RowKit Go.Maps Go.Sort Go.Shelf Go.Proofs
variable {P : Program} {ρ : Ren}

theorem sortsS_in (L : SlLaysM.n6 P ρ) {ρ' : Ren} (hρ : ρ'.f 9 = ρ.f 6) (m : Nat) : AnyZ.SortsIn P ρ' Fence.wide m :=
  ⟨fun blk off cap ss W hH hblk hsz => by rw [hρ]; exact callsIn_wide.2 (AnyM.slices_Sort_string L blk off cap ss W hH hblk hsz),
   fun p cap W => by rw [hρ]; exact callsIn_wide.2 (AnyM.slices_Sort_string_none L p cap W)⟩

set_option maxRecDepth 100000 in
set_option maxHeartbeats 1000000 in
/-- the keys of a map, the map's box at any place -/
theorem keys1S_at (L : SlLaysZ.n10 P ρ) {H : Type} (F : Fence) (n : Nat) (h10 : F.fn (ρ.f 10)) (hro : F.round = none) (hn : 1 ≤ n) (l Bm off b nn : Nat) (D0 : DataW H) {R : Value → Option (DataW H × List MemPlace)} (J : List (List UInt8) → World → Prop)
    (hY : ∀ pre x W, J pre W → pre.length < Maps.size D0 → YieldAt F (n - 1) P l #[encStr x] W fun e W' => e = .returned (.bool true) ∧ J (pre ++ [x]) W' ∧ KeepsWalks W W')
    (W : World) (hJ : AbidesFrom W.heap.size J) (hm : W.cell? ⟨Bm, off, none⟩ = some (.map (some b))) (hown : W.ownsMap P (ρ.t 26) R b nn D0) (h0 : J [] W) :
    CallsIn F n P (ρ.f 10) #[.func (.yield l) #[] #[], .pointer (some ⟨Bm, off, none⟩)] W fun e W' => (∃ v, e = .returned v) ∧ ∃ ss : List (List UInt8), ss.Perm (strKeys D0) ∧ J ss W' := by
  have mixed := L.mixed; have t0 := L.t0; have a0 := L.a0; have z0 := L.z0; have v0 := L.v0; have t4 := L.t4; have a4 := L.a4; have z4 := L.z4; have v4 := L.v4; have t23 := L.t23; have a23 := L.a23; have z23 := L.z23; have v23 := L.v23; have t26 := L.t26; have a26 := L.a26; have z26 := L.z26; have v26 := L.v26; have t33 := L.t33; have a33 := L.a33; have z33 := L.z33; have v33 := L.v33
  have u0 := run_underlying L.t0; have u4 := run_underlying L.t4; have u23 := run_underlying L.t23; have u26 := run_underlying L.t26; have u33 := run_underlying L.t33
  obtain ⟨_, _, FG⟩ := L.f10
  refine callsIn_of_wp FG rfl h10 ?_ hro
  simp only [SlBodyZ.n10_ntmps ρ, List.size_toArray, List.length_cons, List.length_nil, Nat.reduceAdd, Nat.reduceSub, Array.replicate_succ, Array.replicate_zero, List.push_toArray, List.append_toArray, List.nil_append, List.cons_append]
  gi_wp2_with (first
    | (gi_at_range; refine wpListIn_range_own _ rfl _ (ρ.t 23) rfl (ρ.t 26) (ρ.t 3) (string_keyed L.t26) L.t23 _ b nn _ rfl hown ?_; intro w0 hrg0 hg0 hs0)
    | gi_in)
  go_frame
  gi_loopw [3] (fun _ wr => ∃ (left : Lit → Bool) (cnt : Nat) (ss : List (List UInt8)), wr.ranges P (ρ.t 26) R b W.heap.size nn D0 left cnt ∧ ss.length + cnt ≤ Maps.size D0 ∧ Collected D0 left ss ∧ J ss wr)
    (fun _ wr => wr.rangeLeft b W.heap.size)
  case atStart =>
    exact ⟨_, _, [], hrg0, by simp, Collected.start D0, hJ [] W w0 none h0 hg0 (fun r e => by cases e)⟩
  case round =>
    obtain ⟨left, cnt, ss, hrg, hcs, hC, hJs⟩ := hrel
    gi_wp2_with (first
      | (gi_at_next; refine wpListIn_next_ranges _ rfl _ rfl (ρ.t 26) (string_keyed L.t26) R encStr id (fun key kl hk => by obtain ⟨x, hx, _⟩ := Maps.keyOf_str L.t26 hk; exact ⟨x, hx⟩) (fun v _ _ => ⟨v, rfl⟩) b W.heap.size nn _ _ _ rfl hrg ?_ ?_)
      | gi_in)
    · intro hc0 hl0
      gi_wp2
      go_end0
      exact ⟨⟨_, rfl⟩, ss, hC.perm hown (string_keyed L.t26) L.t26 hl0, hJs⟩
    · intro x c kl yd yp w2 cnt2 hkey hlk hv hat hrg2 hlt hg2 hs2 hen
      obtain ⟨x', ex, rfl, _⟩ := Maps.keyOf_str L.t26 hkey
      obtain rfl : x = x' := encStr_inj ex
      have hJ2 : J ss w2 := hJ ss wr w2 (some W.heap.size) hJs hg2 (fun r e => by cases e; exact ⟨Nat.le_refl _, hrg.iter_walk⟩)
      obtain ⟨fn, tmps, assign, body, hy, hR⟩ := hY ss x w2 hJ2 (by omega)
      clear hs2
      gi_wp2
      refine hR.mono ?_
      rintro e W3 ⟨rfl, hJ3, hk3⟩
      gi_wp2
      have hrg3 := hrg2.of_walks hk3
      go_roundw
      case rel => exact ⟨_, cnt2, ss ++ [x], hrg3, by simp; omega, hC.step hlk hat, hJ3⟩
      case measure => rw [hrg3.left_eq, hrg.left_eq]; exact hlt

theorem keysS_gives (L : SlLaysZ.n10 P ρ) {H : Type} (F : Fence) (n : Nat) (h10 : F.fn (ρ.f 10)) (hro : F.round = none) (hn : 1 ≤ n) (Bm off b nn : Nat) (D0 : DataW H) {R : Value → Option (DataW H × List MemPlace)} (w : World) (hBm : Bm < w.heap.size)
    (hm : w.cell? ⟨Bm, off, none⟩ = some (.map (some b))) (hown : w.ownsMap P (ρ.t 26) R b nn D0) :
    GivesB F n P (ρ.f 10) #[.pointer (some ⟨Bm, off, none⟩)] encStr (fun ss => ss.Perm (strKeys D0)) (Maps.size D0) w := fun l J W hW hJ _ hY h0 => by
  have hown' : W.ownsMap P (ρ.t 26) R b nn D0 := by
    have hbl := hown.lt
    obtain ⟨es, clock, hb, Ft, hs, hD⟩ := hown
    exact ⟨es, clock, (hW.block b hbl).trans hb, Ft, hs, hD⟩
  exact keys1S_at { L with } F n h10 hro hn l Bm off b nn D0 J hY W hJ ((hW.cell (p := ⟨Bm, off, none⟩) hBm).trans hm) hown' h0

set_option maxRecDepth 100000 in
set_option maxHeartbeats 1000000 in
theorem keys1S_nil_at (L : SlLaysZ.n10 P ρ) (F : Fence) (n : Nat) (h10 : F.fn (ρ.f 10)) (hro : F.round = none) (l Bm off : Nat) (J : List (List UInt8) → World → Prop) (W : World) (hJ : AbidesFrom W.heap.size J)
    (hm : W.cell? ⟨Bm, off, none⟩ = some (.map none)) (h0 : J [] W) :
    CallsIn F n P (ρ.f 10) #[.func (.yield l) #[] #[], .pointer (some ⟨Bm, off, none⟩)] W fun e W' => (∃ v, e = .returned v) ∧ ∃ ss : List (List UInt8), ss = [] ∧ J ss W' := by
  have mixed := L.mixed; have t0 := L.t0; have a0 := L.a0; have z0 := L.z0; have v0 := L.v0; have t4 := L.t4; have a4 := L.a4; have z4 := L.z4; have v4 := L.v4; have t23 := L.t23; have a23 := L.a23; have z23 := L.z23; have v23 := L.v23; have t26 := L.t26; have a26 := L.a26; have z26 := L.z26; have v26 := L.v26; have t33 := L.t33; have a33 := L.a33; have z33 := L.z33; have v33 := L.v33
  have u0 := run_underlying L.t0; have u4 := run_underlying L.t4; have u23 := run_underlying L.t23; have u26 := run_underlying L.t26; have u33 := run_underlying L.t33
  obtain ⟨_, _, FG⟩ := L.f10
  refine callsIn_of_wp FG rfl h10 ?_ hro
  simp only [SlBodyZ.n10_ntmps ρ, List.size_toArray, List.length_cons, List.length_nil, Nat.reduceAdd, Nat.reduceSub, Array.replicate_succ, Array.replicate_zero, List.push_toArray, List.append_toArray, List.nil_append, List.cons_append]
  have hrg := run_range_nilMap (P := P) W (ρ.t 23) (ρ.t 26) (ρ.t 3) L.t23
  have hnx : ∀ ty, (Instr.next (.pointer (some ⟨W.heap.size, 0, none⟩)) false ty).run P (W.alloc (.mapIter none 0 #[] 0)) = _ := fun ty => run_next_nilMap _ ty 0 0 #[]
  gi_wp2
  refine wpIn_loop_rounds 1 ?_
  rw [roundsIn_succ]
  gi_wp2
  go_end0
  exact ⟨⟨_, rfl⟩, [], rfl, hJ [] W _ none h0 (World.grownBy_alloc W _ none) (fun r e => by cases e)⟩

theorem keysS_gives_nil (L : SlLaysZ.n10 P ρ) (F : Fence) (n : Nat) (h10 : F.fn (ρ.f 10)) (hro : F.round = none) (Bm off : Nat) (w : World) (hBm : Bm < w.heap.size) (hm : w.cell? ⟨Bm, off, none⟩ = some (.map none)) :
    GivesB F n P (ρ.f 10) #[.pointer (some ⟨Bm, off, none⟩)] encStr (fun ss : List (List UInt8) => ss = []) 0 w := fun l J W hW hJ _ _ h0 =>
  keys1S_nil_at { L with } F n h10 hro l Bm off J W hJ ((hW.cell (p := ⟨Bm, off, none⟩) hBm).trans hm) h0

set_option maxRecDepth 100000 in
set_option maxHeartbeats 2000000 in
theorem appendSeqS_at (L : SlLaysZ.n11 P ρ) (F : Fence) (n : Nat) (h11 : F.fn (ρ.f 11)) (hro : F.round = none) (hn : 2 ≤ n) (g : Nat) (lb : Array Value) (hFg : F.fn g) (eg : ∀ args w, (callFunc g args).run P w = .ok (.enter g args) w)
    (S : List (List UInt8) → Prop) (N : Nat) (hN : N ≤ maxLen) (hNb : N * 16 ≤ 140737488355328) (w : World) (hseq : GivesB F (n - 1) P g lb encStr S N w) :
    CallsIn F n P (ρ.f 11) #[.slice none 0 0, .func (.func g) #[] lb] w fun e w' => ∃ (v : Value) (ss : List (List UInt8)), e = .returned v ∧ S ss ∧ w'.ownsRow w.heap.size (ρ.t 26) 1 v ss.length (ss.map encStr) ∧ (v = .slice none 0 0 ↔ ss = []) ∧ Below w.heap.size w w' := by
  have h1 : 1 ≤ n := by omega
  have mixed := L.mixed; have t0 := L.t0; have a0 := L.a0; have z0 := L.z0; have v0 := L.v0; have t24 := L.t24; have a24 := L.a24; have z24 := L.z24; have v24 := L.v24; have t26 := L.t26; have a26 := L.a26; have z26 := L.z26; have v26 := L.v26; have t28 := L.t28; have a28 := L.a28; have z28 := L.z28; have v28 := L.v28
  have hne : ρ.t 24 ≠ ρ.t 26 := fun e => by have h := L.t24; rw [e, L.t26] at h; cases h
  have u0 := run_underlying L.t0; have u24 := run_underlying L.t24; have u26 := run_underlying L.t26; have u28 := run_underlying L.t28
  obtain ⟨_, _, FG⟩ := L.f11
  refine callsIn_of_wp_marks FG rfl h11 ?_ hro
  simp only [SlBodyZ.n11_ntmps ρ, List.size_toArray, List.length_cons, List.length_nil, Nat.reduceAdd, Nat.reduceSub, Array.replicate_succ, Array.replicate_zero, List.push_toArray, List.append_toArray, List.nil_append, List.cons_append]
  gi_wp2
  refine wpIn_rangeFunc ?_
  intro fn hfn
  rw [hro]
  obtain ⟨W0, hW0⟩ : ∃ W0, w.alloc (.cells #[.slice none 0 0] (ρ.t 24)) = W0 := ⟨_, rfl⟩
  have hs0 : W0.heap.size = w.heap.size + 1 := by rw [← hW0]; simp
  have hv0 : W0.heap[w.heap.size]? = some (.cells #[.slice none 0 0] (ρ.t 24) (0, 0)) := by rw [← hW0]; exact World.alloc_heap_new w _
  have hb0 : Below w.heap.size w W0 := by rw [← hW0]; exact (Below.refl _ w).alloc (Nat.le_refl _) _
  rw [hW0]
  obtain ⟨W1, hW1⟩ : ∃ W1, (W0.alloc (.deferred (some []))).alloc (.loop (AnyZ.apRec ρ fn (.func (.func g) #[] lb) w.heap.size W0.heap.size .ready none)) = W1 := ⟨_, rfl⟩
  have hold : ∀ k, k < W0.heap.size → W1.heap[k]? = W0.heap[k]? := fun k hk => by
    rw [← hW1]; exact (Below.heap_alloc _ _ k (by simp; omega)).trans (Below.heap_alloc _ _ k hk)
  have hb1 : Below w.heap.size w W1 := by rw [← hW1]; exact (hb0.alloc hb0.size _).alloc (by have := hb0.size; simp; omega) _
  have hs1 : W1.heap.size = W0.heap.size + 2 := by rw [← hW1]; simp
  have hM : AnyZ.ApAt ρ w fn (.func (.func g) #[] lb) w.heap.size (W0.heap.size + 1) W0.heap.size [] W1 :=
    ⟨⟨_, (hold w.heap.size (by omega)).trans hv0, ⟨rfl, .inl ⟨rfl, rfl⟩⟩, by simp⟩,
     by rw [← hW1]; have := World.alloc_heap_new (W0.alloc (.deferred (some []))) (.loop (AnyZ.apRec ρ fn (.func (.func g) #[] lb) w.heap.size W0.heap.size .ready none)); rwa [World.size_alloc] at this,
     by rw [← hW1]; exact (Below.heap_alloc _ _ _ (by simp)).trans (World.alloc_heap_new W0 _), hb1⟩
  refine ⟨W0.heap.size + 1, [{ target := .collected W0.heap.size, args := #[] }], W1, { target := .fn (.func g) lb, args := #[.func (.yield (W0.heap.size + 1)) #[] #[]] }, W1, g,
    #[.func (.yield (W0.heap.size + 1)) #[] #[]] ++ lb, W1, ?_, ?_, ?_, ?_, fun _ => h1, ?_⟩
  · rw [← hW1]; exact run_enterLoop_outer _ _ _ _ _
  · simp [resolve, go_sem]
  · intro f' hf'; simp [Target.leads] at hf'; subst hf'; exact hFg
  · simp [invoke, go_sem, eg]
  · refine (hseq (W0.heap.size + 1) (AnyZ.ApAt ρ w fn (.func (.func g) #[] lb) w.heap.size (W0.heap.size + 1) W0.heap.size) W1 hb1 (AnyZ.ap_abides ρ _ _ _ _ _ _ _ hb1.size) (fun _ _ h => h.below)
      (fun pre x W hJ hl => AnyZ.apYield { L with } F (n - 1 - 1) w fn hfn _ w.heap.size (W0.heap.size + 1) W0.heap.size (by omega) (by omega) (by omega) (Nat.le_refl _) (by omega) N hN hNb pre x W hJ hl) hM).mono ?_
    rintro e W2 ⟨⟨v0, rfl⟩, ss, hS, h2⟩
    obtain ⟨v, hv, hrow, hnil⟩ := h2.box
    have hend := run_endLoop (P := P) h2.L (by simp [AnyZ.apRec])
    obtain ⟨W3, hW3⟩ : ∃ W3, W2.putObj (W0.heap.size + 1) (.loop { AnyZ.apRec ρ fn (.func (.func g) #[] lb) w.heap.size W0.heap.size .ready none with state := .exhausted }) = W3 := ⟨_, rfl⟩
    rw [hW3] at hend
    have hg3 : W2.grownBy W3 (some (W0.heap.size + 1)) := by rw [← hW3]; exact grownBy_putObj_a _ _ _
    have hv3 : W3.heap[w.heap.size]? = some (.cells #[v] (ρ.t 24) (0, 0)) := by rw [← hW3]; exact (World.putObj_heap_other (by omega)).trans hv
    have hK3 : W3.heap[W0.heap.size]? = some (.deferred (some [])) := by rw [← hW3]; exact (World.putObj_heap_other (by omega)).trans h2.K
    have hrow3 := hrow.kept hg3 (ownsRow_ne_a hrow h2.L (fun cur e => by first | cases e | exact hne (Obj.cells.inj e).2.1))
    have hb3 : Below w.heap.size w W3 := h2.below.grown hg3 h2.below.size (fun k e => by cases e; omega)
    obtain ⟨hc3, hf3⟩ := cell_of_box_a hv3
    clear hW3
    refine ⟨none, W3, hend, ?_⟩
    gi_wp2
    rw [← hs0]
    refine ⟨by simp, .inl ⟨_, _, rfl, run_takeDeferred hK3, ?_⟩⟩
    exact ⟨_, results_tmp rfl _ _ _, v, ss, rfl, hS, hrow3.kept (grownBy_putObj_a _ _ _) (ownsRow_ne_a hrow3 hK3 (fun cur e => by first | cases e | exact hne (Obj.cells.inj e).2.1)), hnil, hb3.grown (grownBy_putObj_a _ _ _) hb3.size (fun k e => by cases e; omega)⟩

set_option maxHeartbeats 1000000 in
theorem collectS_at (L : SlLaysZ.n8 P ρ) (F : Fence) (n : Nat) (h8 : F.fn (ρ.f 8)) (h11 : F.fn (ρ.f 11)) (hro : F.round = none) (hn : 3 ≤ n) (g : Nat) (lb : Array Value) (hFg : F.fn g) (eg : ∀ args w, (callFunc g args).run P w = .ok (.enter g args) w)
    (S : List (List UInt8) → Prop) (N : Nat) (hN : N ≤ maxLen) (hNb : N * 16 ≤ 140737488355328) (w : World) (hseq : GivesB F (n - 1 - 1) P g lb encStr S N w) :
    CallsIn F n P (ρ.f 8) #[.func (.func g) #[] lb] w fun e w' => ∃ (v : Value) (ss : List (List UInt8)), e = .returned v ∧ S ss ∧ w'.ownsRow w.heap.size (ρ.t 26) 1 v ss.length (ss.map encStr) ∧ (v = .slice none 0 0 ↔ ss = []) ∧ Below w.heap.size w w' := by
  have h1 : 1 ≤ n := by omega
  have e11 : ∀ args w, (callFunc (ρ.f 11) args).run P w = .ok (.enter (ρ.f 11) args) w := L.f11.enters rfl
  have mixed := L.mixed; have t0 := L.t0; have a0 := L.a0; have z0 := L.z0; have v0 := L.v0; have t24 := L.t24; have a24 := L.a24; have z24 := L.z24; have v24 := L.v24; have t26 := L.t26; have a26 := L.a26; have z26 := L.z26; have v26 := L.v26; have t28 := L.t28; have a28 := L.a28; have z28 := L.z28; have v28 := L.v28
  have u0 := run_underlying L.t0; have u24 := run_underlying L.t24; have u26 := run_underlying L.t26; have u28 := run_underlying L.t28
  obtain ⟨_, _, FG⟩ := L.f8
  refine callsIn_of_wp FG rfl h8 ?_ hro
  simp only [SlBodyZ.n8_ntmps ρ, List.size_toArray, List.length_cons, List.length_nil, Nat.reduceAdd, Nat.reduceSub, Array.replicate_succ, Array.replicate_zero, List.push_toArray, List.append_toArray, List.nil_append, List.cons_append]
  gi_wp2_with (gi_at_fn (ρ.f 11); refine (appendSeqS_at { L with } F (n - 1) h11 hro (by omega) g lb hFg eg S N hN hNb _ hseq).mono ?_; rintro e w' ⟨v, ss, rfl, hS, hrow, hnil, hb⟩)
  go_ret
  exact ⟨v, ss, rfl, hS, hrow, hnil, hb⟩

set_option maxRecDepth 100000 in
set_option maxHeartbeats 2000000 in
theorem sortedS_at (L : SlLaysZ.n6 P ρ) (F : Fence) (n : Nat) (h6 : F.fn (ρ.f 6)) (h8 : F.fn (ρ.f 8)) (h9 : F.fn (ρ.f 9)) (h11 : F.fn (ρ.f 11)) (hro : F.round = none) (hn : 4 ≤ n) (hsort : AnyZ.SortsIn P ρ F (n - 1)) (e9 : ∀ args w, (callFunc (ρ.f 9) args).run P w = .ok (.enter (ρ.f 9) args) w) (g : Nat) (lb : Array Value) (hFg : F.fn g) (eg : ∀ args w, (callFunc g args).run P w = .ok (.enter g args) w)
    (S : List (List UInt8) → Prop) (N : Nat) (hN : N ≤ maxLen) (hNb : N * 16 ≤ 140737488355328) (hSl : ∀ ss, S ss → ss.length ≤ N) (w : World) (hseq : GivesB F (n - 1 - 1 - 1) P g lb encStr S N w) :
    CallsIn F n P (ρ.f 6) #[.func (.func g) #[] lb] w fun e w' => ∃ (v : Value) (ss : List (List UInt8)), e = .returned v ∧ S ss ∧
      w'.ownsRow w.heap.size (ρ.t 26) 1 v ss.length ((ss.mergeSort (fun x y => decide (x ≤ y))).map encStr) ∧ (v = .slice none 0 0 ↔ ss = []) ∧ Below w.heap.size w w' := by
  have h1 : 1 ≤ n := by omega
  have e8 : ∀ args w, (callFunc (ρ.f 8) args).run P w = .ok (.enter (ρ.f 8) args) w := L.f8.enters rfl
  have mixed := L.mixed; have t0 := L.t0; have a0 := L.a0; have z0 := L.z0; have v0 := L.v0; have t24 := L.t24; have a24 := L.a24; have z24 := L.z24; have v24 := L.v24; have t26 := L.t26; have a26 := L.a26; have z26 := L.z26; have v26 := L.v26; have t28 := L.t28; have a28 := L.a28; have z28 := L.z28; have v28 := L.v28
  have u0 := run_underlying L.t0; have u24 := run_underlying L.t24; have u26 := run_underlying L.t26; have u28 := run_underlying L.t28
  obtain ⟨_, _, FG⟩ := L.f6
  refine callsIn_of_wp FG rfl h6 ?_ hro
  simp only [SlBodyZ.n6_ntmps ρ, List.size_toArray, List.length_cons, List.length_nil, Nat.reduceAdd, Nat.reduceSub, Array.replicate_succ, Array.replicate_zero, List.push_toArray, List.append_toArray, List.nil_append, List.cons_append]
  gi_wp2_with (gi_at_fn (ρ.f 8); refine (collectS_at { L with } F (n - 1) h8 h11 hro (by omega) g lb hFg eg _ N hN hNb _ hseq).mono ?_; rintro e W ⟨v, ss, rfl, hS, hrow, hnil, hb⟩)
  have hlen := hSl ss hS
  rcases hrow.2 with ⟨rfl, hz⟩ | ⟨gb, cap, cur, rfl, hbase, hgb, r1, r2, r3, r4⟩
  · have hss : ss = [] := List.eq_nil_of_length_eq_zero hz
    subst hss
    gi_wp2_with (gi_at_fn (ρ.f 9); refine (hsort.2 none 0 W).mono ?_; rintro e w' ⟨rfl, rfl⟩)
    go_ret
    exact ⟨.slice none 0 0, [], rfl, hS, by simpa using hrow, by simp, hb⟩
  · have hH : Holds encStr W gb 0 ss.toArray := holds_of_block hgb (by simpa using r4)
    have hgl : gb < W.heap.size := (Array.getElem?_eq_some_iff.1 hgb).1
    have hsz : ss.length < 4611686018427387904 := by omega
    have cS := hsort.1 gb 0 cap ss W hH hgl hsz
    gi_wp2_with (gi_at_fn (ρ.f 9); refine cS.mono ?_; rintro e w' ⟨rfl, nn, os, rfl⟩)
    go_ret
    exact ⟨_, ss, rfl, hS, ownsRow_sorted (by simp) hbase hgb r1 r2 r3, hnil, hb.grown (grownBy_sorted _) hb.size (fun j hj => by cases hj; exact hbase)⟩

end Go.AM
namespace Go.AM
open Go Go.RowKit Go.Maps Go.Sort Go.Shelf Go.Proofs
variable {P : Program} {ρ : Ren}

theorem Callable.of_bears {f : FuncId} {B : Func} {c : Code} (h : Bears P f B) (hb : B.body = some c) : Callable P f := by
  obtain ⟨nm, hn, hf⟩ := h
  exact ⟨_, hf, by show B.body.isSome = true; rw [hb]; rfl, hn⟩

theorem or_take {D : Nat → Prop} {μ : Nat → Loc} {l : List AV} {xs : List Value} {cur : Array Value} {n : Nat} (h : VRs D μ l xs) (hf : flat l = true) (hx : cur.toList.take n = xs) (hle : l.length ≤ cur.size) (T : TypeId) (g : Nat) : OR D μ (.row (Row.ofList l)) ⟨g, 0, cur.size⟩ (.cells cur T (0, 0)) := by
  refine ⟨cur, T, 0, 0, rfl, by show 0 + (Row.ofList l).size ≤ cur.size; rw [Row.size_ofList]; omega, Nat.le_refl _, fun i hi => ?_, fun _ => .inl rfl⟩
  rw [Row.size_ofList] at hi
  have hi' : i < xs.length := by rw [← h.length]; exact hi
  refine ⟨xs[i], ?_, ?_⟩
  · have h1 : i < (cur.toList.take n).length := by rw [hx]; exact hi'
    have h2 : i < n := by simp at h1; omega
    have : (cur.toList.take n)[i]? = some xs[i] := by rw [hx]; exact List.getElem?_eq_getElem hi'
    rw [List.getElem?_take_of_lt h2] at this
    simpa using this
  · rw [Row.get_ofList l i hi]; exact ⟨h.at i hi hi', flat_mem hf i hi⟩

theorem mkSl_ok {D : Nat → Prop} {μ : Nat → Loc} {s s' : St} {w w' : World} {v : AV} {v' : Value} {avs : List AV} {xs : List Value} {T : TypeId} {n : Nat} (hs : SR D μ s.at w) (hd : Dis D s s') (hb : Below w.heap.size w w') (hv : mkSl avs s = .ok v s')
    (hx : ∀ D μ, VRs D μ avs xs) (hf : flat avs = true) (hn : n = avs.length) (hrow : w'.ownsRow w.heap.size T 1 v' n xs) (hnil : avs = [] → v' = .slice none 0 0) : ∃ D' μ', Stp D μ s w D' μ' s' w' ∧ VR D' μ' v v' := by
  cases avs with
  | nil =>
    cases hv
    rw [hnil rfl]
    exact ⟨D, μ, Stp.quiet hs hb, .nils⟩
  | cons a r =>
    simp only [mkSl] at hv
    cases hv
    rcases hrow.2 with ⟨_, h0⟩ | ⟨g, cap, cur, rfl, hbase, hg, r1, r2, r3, r4⟩
    · simp at hn; omega
    · have hnd : ¬ D s.next := fun h => by
        rcases hd _ h with h | h
        · omega
        · rw [St.next_new] at h; omega
      rw [Nat.mul_one] at r3
      have ho := or_take (hx (more D s.next) (upd μ s.next ⟨g, 0, cur.size⟩)) hf r4 (by omega) T g
      refine ⟨_, _, Stp.fresh hs rfl (fun _ _ h => h) hnd hb hbase hg ho, ?_⟩
      have h1 : (upd μ s.next ⟨g, 0, cur.size⟩ s.next) = ⟨g, 0, cur.size⟩ := upd_same
      have := VR.slk (D := more D s.next) (μ := upd μ s.next ⟨g, 0, cur.size⟩) s.next 0 (a :: r).length (a :: r).length 0 cap (.inr rfl) (by omega) (by rw [h1]; show 0 + 0 + cap * (0 + 1) ≤ cur.size; omega) (by have : maxLen = 9223372036854775807 := rfl; omega)
      rw [h1] at this
      rw [hn]
      exact this

/-! ints -/
theorem intsV_length (l : List Int) : (intsV l).length = l.length := by induction l with | nil => rfl | cons _ _ ih => simp [intsV, ih]
theorem intsV_flat (l : List Int) : flat (intsV l) = true := by induction l with | nil => rfl | cons _ _ ih => simp [intsV, flat, flat1, ih]
theorem intsV_vrs {D : Nat → Prop} {μ : Nat → Loc} : ∀ l : List Int, VRs D μ (intsV l) (l.map encZ)
  | [] => .nil
  | n :: r => .cons _ _ _ _ (.int .i64 n) (intsV_vrs r)

theorem sortedI_prim (L : SlLaysZI.n6 P ρ) {ρs : Ren} (Ls : SlLaysM.n5 P ρs) (h9 : ρ.f 9 = ρs.f 5) (e9 : Enters P (ρ.f 9)) {g : Nat} {lb : Array Value} (eg : Enters P g) {S : List Int → Prop} {N : Nat} (hN : N ≤ 1048576) (hSl : ∀ ss, S ss → ss.length ≤ N)
    {D : Nat → Prop} {μ : Nat → Loc} {s s' : St} {w : World} {v : AV} (hs : SR D μ s.at w) (hd : Dis D s s') (hseq : GivesB Fence.wide 2 P g lb encZ S N w) {l : List Int} (hl : ∀ ss, S ss → ss.mergeSort (fun x y => decide (x ≤ y)) = l) (hv : mkSl (intsV l) s = .ok v s') :
    Calls P (ρ.f 6) #[.func (.func g) #[] lb] w fun e w' => ∃ v' D' μ', e = .returned v' ∧ Stp D μ s w D' μ' s' w' ∧ VR D' μ' v v' := by
  have hm : maxLen = 9223372036854775807 := rfl
  refine Calls.mono (callsIn_wide.1 (sortedI_at L Fence.wide 5 trivial trivial trivial trivial rfl (by omega) (sortsI_in Ls h9 _) e9 g lb trivial eg S N (by omega) (by omega) hSl w hseq)) fun e w' ⟨v', ss, he, hS, hrow, hnil, hb⟩ => ?_
  have h1 := hl ss hS
  rw [h1] at hrow
  have hlen : ss.length = l.length := by rw [← h1, List.length_mergeSort]
  obtain ⟨D', μ', h2, h3⟩ := mkSl_ok hs hd hb hv (fun _ _ => intsV_vrs l) (intsV_flat l) (n := ss.length) (by rw [intsV_length, hlen]) hrow (fun h => hnil.2 (by
    have : l.length = 0 := by rw [← intsV_length, h]; rfl
    exact List.eq_nil_of_length_eq_zero (by omega)))
  exact ⟨v', D', μ', he, h2, h3⟩

theorem nums_keys {D : Nat → Prop} {μ : Nat → Loc} {es : List Ent} {es' : List MapEntry} (h : ER D μ es es') : ∀ {ns : List Int}, numsOf (keysE es) = some ns → es'.map (·.key) = ns.map encZ := by
  induction h with
  | nil => intro ns h; cases h; rfl
  | cons e e' es es' h1 h2 h3 h4 ih =>
    intro ns hn
    simp only [keysE] at hn
    unfold numsOf at hn
    split at hn
    · rename_i heq; cases heq
    · rename_i n r heq
      obtain ⟨hk, rfl⟩ := List.cons.inj heq
      split at hn
      · rename_i l hl
        cases hn
        have : e'.key = .int .i64 n := by rw [hk] at h1; exact vr_int h1
        simp [this, ih hl, encZ]
      · cases hn
    · cases hn
theorem borns_ok {D : Nat → Prop} {μ : Nat → Loc} {es : List Ent} {es' : List MapEntry} (h : ER D μ es es') (c : Nat) : ∀ lo, bornsOk c lo es = true → (∀ x ∈ es', lo ≤ x.born ∧ x.born < c) ∧ (es'.map (·.born)).Nodup := by
  induction h with
  | nil => intro lo _; simp
  | cons e e' es es' h1 h2 h3 h4 ih =>
    intro lo hb
    simp only [bornsOk, Bool.and_eq_true] at hb
    have b1 := Nat.le_of_ble_eq_true hb.1
    have b2 := Nat.le_of_ble_eq_true hb.2.1
    obtain ⟨i1, i2⟩ := ih _ hb.2.2
    refine ⟨fun x hx => ?_, ?_⟩
    · rcases List.mem_cons.1 hx with rfl | hx
      · omega
      · have := i1 x hx; omega
    · rw [List.map_cons, List.nodup_cons]
      refine ⟨fun hm => ?_, i2⟩
      obtain ⟨x, hx, he⟩ := List.mem_map.1 hm
      have := i1 x hx
      omega
theorem rising_ok : ∀ l : List Int, risingI l = true → l.Pairwise (· < ·) ∧ ∀ x ∈ l, inI64 x = true
  | [], _ => by simp
  | [a], h => by simp only [risingI] at h; simpa using h
  | a :: b :: r, h => by
    simp only [risingI, Bool.and_eq_true, iLt_eq, decide_eq_true_eq] at h
    obtain ⟨h1, h2⟩ := rising_ok (b :: r) h.2.2
    refine ⟨.cons (fun x hx => ?_) h1, fun x hx => ?_⟩
    · rcases List.mem_cons.1 hx with rfl | hx
      · exact h.2.1
      · exact Int.lt_trans h.2.1 ((List.pairwise_cons.1 h1).1 x hx)
    · rcases List.mem_cons.1 hx with rfl | hx
      · exact h.1
      · exact h2 x hx
theorem inI64_wf {n : Int} (h : inI64 n = true) : (Lit.int .i64 n).wf = true := by
  simp only [inI64, Bool.and_eq_true, iLe_eq, decide_eq_true_eq] at h
  have h1 : (-9223372036854775808 : Int) ≤ n := h.1
  have h2 : n ≤ (9223372036854775807 : Int) := h.2
  simp only [Lit.wf, Bool.and_eq_true, decide_eq_true_eq]
  exact ⟨h1, h2⟩

/-- a map of ints in a world, as the shelf wants it -/
theorem owns_ints {D : Nat → Prop} {μ : Nat → Loc} {es : List Ent} {c : Nat} {l : List Int} {k : TypeId} (hk : P.underlying k = some (.int .i64)) {w : World} {b : Nat} {es' : Array MapEntry} (hm : w.heap[b]? = some (.map es' c)) (he : ER D μ es es'.toList)
    (hl : sortI (keysE es) = some l) (hb : bornsOk c 0 es = true) (hr : risingI l = true) (hn : l.length ≤ 1048576) :
    ∃ D0 : DataW Unit, w.ownsMap P k (fun _ => some (.nil, [])) b es'.size D0 ∧ Maps.size D0 ≤ 1048576 ∧ ∀ ss : List Int, ss.Perm (intKeys D0) → ss.length ≤ Maps.size D0 ∧ ss.mergeSort (fun x y => decide (x ≤ y)) = l := by
  obtain ⟨ns, n1, n2, n3⟩ := sortI_ok _ _ hl
  obtain ⟨r1, r2⟩ := rising_ok l hr
  have hks := nums_keys he n1
  obtain ⟨b1, b2⟩ := borns_ok he c 0 hb
  have hlen : es'.size = ns.length := by have := congrArg List.length hks; simpa using this
  have hnd : ns.Nodup := n2.nodup_iff.1 (r1.imp fun h e => by omega)
  have hmem : ∀ n ∈ ns, (Lit.int .i64 n).wf = true := fun n hn => inI64_wf (r2 n (n2.mem_iff.2 hn))
  have hrd : ∀ x ∈ es'.toList, ∃ n, n ∈ ns ∧ x.key = encZ n ∧ WideElems.rd (H := Unit) P k (fun _ => some (.nil, [])) x = some (.int .i64 n, .nil) := fun x hx => by
    have : x.key ∈ es'.toList.map (·.key) := List.mem_map.2 ⟨x, hx, rfl⟩
    rw [hks] at this
    obtain ⟨n, h1, h2⟩ := List.mem_map.1 this
    refine ⟨n, h1, h2.symm, ?_⟩
    unfold WideElems.rd
    rw [← h2, keyOf_int_mk hk (hmem n h1)]
    rfl
  have hrg : es'.toList.map (fun x => Go.intOf (WideElems.rg (H := Unit) P k (fun _ => some (.nil, [])) x).1) = ns := by
    have : es'.toList.map (fun x => encZ (Go.intOf (WideElems.rg (H := Unit) P k (fun _ => some (.nil, [])) x).1)) = ns.map encZ := by
      rw [← hks]
      refine List.map_congr_left fun x hx => ?_
      obtain ⟨n, _, h2, h3⟩ := hrd x hx
      show encZ (Go.intOf (WideElems.rg (H := Unit) P k (fun _ => some (.nil, [])) x).1) = x.key
      unfold WideElems.rg
      rw [h3, h2]; rfl
    have h2 : (es'.toList.map (fun x => Go.intOf (WideElems.rg (H := Unit) P k (fun _ => some (.nil, [])) x).1)).map encZ = ns.map encZ := by rw [List.map_map]; exact this
    exact (List.map_inj_right fun _ _ h => encZ_inj h).1 h2
  have hm' : maxLen = 9223372036854775807 := rfl
  have hll : l.length = ns.length := n2.length_eq
  refine ⟨_, ⟨es', c, hm, ⟨by omega, ⟨fun x hx => (b1 x hx).2, b2, by rw [hks]; exact (List.pairwise_map.2 (hnd.imp fun h e => h (encZ_inj e)))⟩, fun x hx => ?_⟩, Nat.le_refl _, rfl⟩, ?_, fun ss hss => ?_⟩
  · obtain ⟨n, _, _, h⟩ := hrd x hx; exact ⟨_, h⟩
  · show List.length _ ≤ _
    rw [(WideShapes.sorted_perm _).length_eq]; simp; omega
  · have hp : (intKeys (.map ((es'.toList.map (WideElems.rg (H := Unit) P k (fun _ => some (.nil, [])))).foldr DataW.insert []))).Perm ns := by
      show (List.map _ _).Perm ns
      refine ((WideShapes.sorted_perm _).map _).trans ?_
      rw [List.map_map]
      exact .of_eq hrg
    have hp2 := hss.trans hp
    refine ⟨?_, sorted_one n2 n3 hp2⟩
    show _ ≤ List.length _
    rw [(WideShapes.sorted_perm _).length_eq, hp2.length_eq]; simp; omega

/-- an iterator over a slice of ints -/
def YieldsI (P : Program) (g : Nat) : Prop :=
  Enters P g ∧ ∀ (Bs off : Nat) (w : World), Bs < w.heap.size →
    (w.cell? ⟨Bs, off, none⟩ = some (.slice none 0 0) → GivesB Fence.wide 2 P g #[.pointer (some ⟨Bs, off, none⟩)] encZ (fun ss : List Int => ss = []) 0 w) ∧
    ∀ (b o cap : Nat) (zs : List Int), zs.length ≤ 1048576 → w.cell? ⟨Bs, off, none⟩ = some (.slice (some ⟨b, o, none⟩) zs.length cap) → b < w.heap.size → (∀ j, j < zs.length → w.cell? ⟨b, o + j, none⟩ = some (.int .i64 (zs[j]?.getD 0))) →
      GivesB Fence.wide 2 P g #[.pointer (some ⟨Bs, off, none⟩)] encZ (fun ss : List Int => ss = zs) zs.length w

theorem boxed_ok {D : Nat → Prop} {μ : Nat → Loc} {s : St} {w : World} (hs : SR D μ s.at w) {b o : Nat} {x : AV} (h : boxed s b o = some x) : ∃ x', w.cell? ⟨(μ b).blk, (μ b).sh + o, none⟩ = some x' ∧ VR D μ x x' ∧ (μ b).blk < w.heap.size := by
  unfold boxed at h
  split at h
  · rename_i r hr
    cases hb : Nat.ble (Nat.succ o) r.size with
    | false => rw [hb] at h; cases h
    | true =>
      rw [hb] at h
      cases h
      have hle := Nat.le_of_ble_eq_true hb
      obtain ⟨c, hc, cs, T, lo, hi, h1, h2, h3, h4, h5⟩ := hs.obj _ _ hr
      obtain ⟨v', e, hv, _⟩ := h4 o hle
      subst h1
      exact ⟨v', by simp [World.cell?, hc, e], hv, hs.lt hr⟩
  · cases h

theorem nums_slice {D : Nat → Prop} {μ : Nat → Loc} {f : Nat → Value} : ∀ (l : List AV) (ns : List Int), numsOf l = some ns → (∀ (j : Nat) (h : j < l.length), VR D μ l[j] (f j)) → l.length = ns.length ∧ ∀ j, j < ns.length → f j = .int .i64 (ns[j]?.getD 0)
  | [], ns, h, _ => by cases h; exact ⟨rfl, fun j hj => by simp at hj⟩
  | a :: l, ns, h, hf => by
    unfold numsOf at h
    split at h
    · rename_i e; cases e
    · rename_i n r e
      cases e
      split at h
      · rename_i l' hl'
        cases h
        obtain ⟨h1, h2⟩ := nums_slice (f := fun j => f (j + 1)) _ l' hl' (fun j hj => by
          have := hf (j + 1) (by simpa using hj)
          simpa using this)
        refine ⟨by simp [h1], fun j hj => ?_⟩
        cases j with
        | zero => have := hf 0 (by simp); simp at this; simpa using vr_int this
        | succ j => have := h2 j (by simpa using hj); simpa using this
      · cases h
    · cases h

theorem pSortI_ok (L : SlLaysZI.n6 P ρ) {ρs : Ren} (Ls : SlLaysM.n5 P ρs) (h9 : ρ.f 9 = ρs.f 5) (e9 : Enters P (ρ.f 9)) {fk fv : List Nat} (hk : ∀ g, natIn g fk = true → ∃ ρ' : Ren, ρ'.f 10 = g ∧ SlLaysZI.n10 P ρ') (hy : ∀ g, natIn g fv = true → YieldsI P g) : PrimOK P (ρ.f 6) (pSortI fk fv) := by
  intro D μ args args' s w v s' ha hs hd hv
  refine ⟨Callable.of_bears L.f6 rfl, ?_⟩
  unfold pSortI at hv
  split at hv
  · rename_i g b o
    cases hal : args'.toList with
    | nil => rw [hal] at ha; cases ha
    | cons x r =>
      rw [hal] at ha
      cases ha with
      | cons _ _ _ _ hx hr =>
        cases hr
        have : args' = #[x] := Array.ext' hal
        subst this
        obtain ⟨lb, rfl, hlb⟩ := vr_fn hx
        cases hll : lb.toList with
        | nil => rw [hll] at hlb; cases hlb
        | cons y r =>
          rw [hll] at hlb
          cases hlb with
          | cons _ _ _ _ hp hr =>
            cases hr
            have : lb = #[y] := Array.ext' hll
            subst this
            obtain ⟨rfl, hDb⟩ := vr_ptr hp
            split at hv
            · rename_i bx hbx
              obtain ⟨x', c1, c2, c3⟩ := boxed_ok hs hbx
              split at hv
              · rename_i l hl
                cases hg : natIn g fk with
                | true =>
                  rw [hg, cond_true] at hl
                  obtain ⟨ρ', rfl, L'⟩ := hk g hg
                  have eg : Enters P (ρ'.f 10) := L'.f10.enters rfl
                  unfold ksI at hl
                  split at hl
                  · cases hl
                    have := vr_nilm c2
                    subst this
                    exact sortedI_prim L Ls h9 e9 eg (Nat.zero_le _) (fun ss h => by rw [h]; simp) hs hd (keysI_gives_nil L' Fence.wide 2 trivial rfl _ _ w c3 c1) (fun ss h => by rw [h]; simp) hv
                  · rename_i m
                    obtain ⟨rfl, hDm⟩ := vr_map c2
                    split at hl
                    · rename_i es c hat
                      split at hl
                      · rename_i l' hl'
                        cases hc : bornsOk c 0 es && (risingI l' && Nat.ble l'.length 1048576) with
                        | false => rw [hc] at hl; cases hl
                        | true =>
                          rw [hc] at hl
                          cases hl
                          simp only [Bool.and_eq_true] at hc
                          obtain ⟨co, hco, es', rfl, her⟩ := hs.obj _ _ hat
                          obtain ⟨D0, o1, o2, o3⟩ := owns_ints (k := ρ'.t 26) L'.t26 hco her hl' hc.1 hc.2.1 (Nat.le_of_ble_eq_true hc.2.2)
                          exact sortedI_prim L Ls h9 e9 eg o2 (fun ss h => (o3 ss h).1) hs hd (keysI_gives L' Fence.wide 2 trivial rfl (by omega) _ _ _ _ D0 w c3 c1 o1) (fun ss h => (o3 ss h).2) hv
                      · cases hl
                    · cases hl
                  · cases hl
                | false =>
                  rw [hg, cond_false] at hl
                  cases hg2 : natIn g fv with
                  | false => rw [hg2] at hl; cases hl
                  | true =>
                    rw [hg2, cond_true] at hl
                    obtain ⟨eg, hyy⟩ := hy g hg2
                    obtain ⟨y1, y2⟩ := hyy (μ b).blk ((μ b).sh + o) w c3
                    unfold vsI at hl
                    split at hl
                    · cases hl
                      have := vr_nils c2
                      subst this
                      exact sortedI_prim L Ls h9 e9 eg (Nat.zero_le _) (fun ss h => by rw [h]; simp) hs hd (y1 c1) (fun ss h => by rw [h]; simp) hv
                    · rename_i b2 o2 n2 c2' t2
                      obtain ⟨cap, rfl, hD2⟩ := vr_sl c2
                      split at hl
                      · rename_i r hat
                        cases hc : Nat.ble (o2 + n2) r.size && Nat.ble n2 1048576 with
                        | false => rw [hc] at hl; cases hl
                        | true =>
                          rw [hc, cond_true] at hl
                          simp only [Bool.and_eq_true] at hc
                          have h1 := Nat.le_of_ble_eq_true hc.1
                          have h2 := Nat.le_of_ble_eq_true hc.2
                          obtain ⟨ns, n1, n2', n3⟩ := sortI_ok _ _ hl
                          obtain ⟨co, hco, cs, T, lo, hi, rfl, g2, g3, g4, g5⟩ := hs.obj _ _ hat
                          have hsl : ∀ (j : Nat) (h : j < (r.slice o2 n2).length), VR D μ (r.slice o2 n2)[j] (cs[(μ b2).sh + (o2 + j)]?.getD undef) := fun j hj => by
                            rw [Row.slice_length] at hj
                            rw [Row.slice_get]
                            obtain ⟨v', e, hv, _⟩ := g4 (o2 + j) (by omega)
                            rw [e]; exact hv
                          obtain ⟨q1, q2⟩ := nums_slice (f := fun j => cs[(μ b2).sh + (o2 + j)]?.getD undef) _ ns n1 hsl
                          rw [Row.slice_length] at q1
                          subst q1
                          refine sortedI_prim L Ls h9 e9 eg h2 (fun ss h => by rw [h]; exact Nat.le_refl _) hs hd (y2 (μ b2).blk ((μ b2).sh + o2) cap ns h2 c1 (hs.lt hat) (fun j hj => ?_)) (fun ss h => by rw [h]; exact sorted_one n2' n3 (.refl _)) hv
                          obtain ⟨v', e, hv, _⟩ := g4 (o2 + j) (by omega)
                          have := q2 j hj
                          simp only [e, Option.getD_some] at this
                          simp only [World.cell?, hco]
                          rw [Nat.add_assoc, e, this]
                          rfl
                      · cases hl
                    · cases hl
              · cases hv
            · cases hv
  · cases hv

end Go.AM
namespace Go.AM
open Go Go.RowKit Go.Maps Go.Sort Go.Shelf Go.Proofs
variable {P : Program} {ρ : Ren}

/-- a text as numbers -/
def tn (x : List UInt8) : List Nat := x.map (·.toNat)
theorem tn_inj {x y : List UInt8} (h : tn x = tn y) : x = y := (List.map_inj_right fun _ _ h => UInt8.toNat_inj.1 h).1 h
theorem tn_less (x y : List UInt8) : strLess (tn x) (tn y) = decide (x < y) := by rw [tn, tn, strLess_bytes, bytesLess_eq]

theorem strLess_asymm : ∀ (x y : List Nat), strLess x y = true → strLess y x = false
  | [], [], h => by simp [strLess] at h
  | [], _ :: _, _ => rfl
  | _ :: _, [], h => by simp [strLess] at h
  | a :: x, b :: y, h => by
    simp only [strLess, Bool.or_eq_true, Bool.and_eq_true] at h
    simp only [strLess, Bool.or_eq_false_iff, Bool.and_eq_false_iff]
    rcases h with h | ⟨h1, h2⟩
    · have := Nat.le_of_ble_eq_true h
      exact ⟨by cases hb : Nat.ble (Nat.succ b) a with | false => rfl | true => have := Nat.le_of_ble_eq_true hb; omega, .inl (by cases hb : Nat.beq b a with | false => rfl | true => have := Nat.eq_of_beq_eq_true hb; omega)⟩
    · have := Nat.eq_of_beq_eq_true h1
      exact ⟨by cases hb : Nat.ble (Nat.succ b) a with | false => rfl | true => have := Nat.le_of_ble_eq_true hb; omega, .inr (strLess_asymm x y h2)⟩
theorem strLess_irrefl (x : List Nat) : strLess x x = false := by
  cases h : strLess x x with
  | false => rfl
  | true => have := strLess_asymm x x h; rw [h] at this; exact this
theorem strLess_conn : ∀ (x y : List Nat), strLess x y = false → strLess y x = false → x = y
  | [], [], _, _ => rfl
  | [], _ :: _, h, _ => by simp [strLess] at h
  | _ :: _, [], _, h => by simp [strLess] at h
  | a :: x, b :: y, h1, h2 => by
    simp only [strLess, Bool.or_eq_false_iff, Bool.and_eq_false_iff] at h1 h2
    have ea : a = b := by
      rcases Nat.lt_trichotomy a b with h | h | h
      · rw [Nat.ble_eq_true_of_le h] at h1; cases h1.1
      · exact h
      · rw [Nat.ble_eq_true_of_le h] at h2; cases h2.1
    subst ea
    have e1 : strLess x y = false := h1.2.elim (fun h => by rw [Nat.beq_refl] at h; cases h) id
    have e2 : strLess y x = false := h2.2.elim (fun h => by rw [Nat.beq_refl] at h; cases h) id
    rw [strLess_conn x y e1 e2]
theorem strLess_trans : ∀ (x y z : List Nat), strLess x y = true → strLess y z = true → strLess x z = true
  | _, _, [], _, h => by simp [strLess] at h
  | [], _, _ :: _, _, _ => rfl
  | _ :: _, [], _ :: _, h, _ => by simp [strLess] at h
  | a :: x, b :: y, c :: z, h1, h2 => by
    simp only [strLess, Bool.or_eq_true, Bool.and_eq_true] at h1 h2 ⊢
    rcases h1 with h1 | ⟨h1, k1⟩ <;> rcases h2 with h2 | ⟨h2, k2⟩
    · exact .inl (Nat.ble_eq_true_of_le (by have := Nat.le_of_ble_eq_true h1; have := Nat.le_of_ble_eq_true h2; omega))
    · exact .inl (Nat.ble_eq_true_of_le (by have := Nat.le_of_ble_eq_true h1; have := Nat.eq_of_beq_eq_true h2; omega))
    · exact .inl (Nat.ble_eq_true_of_le (by have := Nat.eq_of_beq_eq_true h1; have := Nat.le_of_ble_eq_true h2; omega))
    · have e1 := Nat.eq_of_beq_eq_true h1
      have e2 := Nat.eq_of_beq_eq_true h2
      subst e1; subst e2
      exact .inr ⟨h2, strLess_trans x y z k1 k2⟩

theorem insS_perm (x : List Nat) : ∀ l : List (List Nat), (insS x l).Perm (x :: l)
  | [] => .refl _
  | y :: r => by
    simp only [insS]
    cases strLess y x with
    | true => exact ((insS_perm x r).cons y).trans (.swap x y r)
    | false => exact .refl _
def textsOf : List AV → Option (List (List Nat))
  | [] => some []
  | .str n :: r => match textsOf r with | some l => some (n :: l) | none => none
  | _ :: _ => none
theorem sortS_ok : ∀ (ks : List AV) (l : List (List Nat)), sortS ks = some l → ∃ ns, textsOf ks = some ns ∧ l.Perm ns
  | [], l, h => by cases h; exact ⟨[], rfl, .refl _⟩
  | k :: ks, l, h => by
    unfold sortS at h
    split at h
    · rename_i e; cases e
    · rename_i n r e
      cases e
      split at h
      · rename_i l' hl'
        cases h
        obtain ⟨ns, h1, h2⟩ := sortS_ok _ l' hl'
        exact ⟨n :: ns, by simp [textsOf, h1], (insS_perm n l').trans (h2.cons n)⟩
      · cases h
    · cases h
theorem risingS_ok : ∀ l : List (List Nat), risingS l = true → l.Pairwise (fun x y => strLess x y = true) ∧ ∀ x ∈ l, x.length ≤ 1048576
  | [], _ => by simp
  | [a], h => by simp only [risingS] at h; have := Nat.le_of_ble_eq_true h; simpa using this
  | a :: b :: r, h => by
    simp only [risingS, Bool.and_eq_true] at h
    obtain ⟨h1, h2⟩ := risingS_ok (b :: r) h.2.2
    refine ⟨.cons (fun x hx => ?_) h1, fun x hx => ?_⟩
    · rcases List.mem_cons.1 hx with rfl | hx
      · exact h.2.1
      · exact strLess_trans _ _ _ h.2.1 ((List.pairwise_cons.1 h1).1 x hx)
    · rcases List.mem_cons.1 hx with rfl | hx
      · exact Nat.le_of_ble_eq_true h.1
      · exact h2 x hx
theorem sorted_texts {l : List (List Nat)} {ss : List (List UInt8)} (h1 : (ss.map tn).Perm l) (h2 : l.Pairwise (fun x y => strLess x y = true)) : (ss.mergeSort (fun x y => decide (x ≤ y))).map tn = l := by
  have tr : ∀ a b c : List UInt8, decide (a ≤ b) = true → decide (b ≤ c) = true → decide (a ≤ c) = true := fun a b c h1 h2 => by simp only [decide_eq_true_eq] at *; exact List.le_trans h1 h2
  have to : ∀ a b : List UInt8, (decide (a ≤ b) || decide (b ≤ a)) = true := fun a b => by simp only [Bool.or_eq_true, decide_eq_true_eq]; exact List.le_total a b
  refine List.Perm.eq_of_pairwise (le := fun a b => strLess b a = false) (fun a b _ _ h1 h2 => strLess_conn a b h2 h1) ?_ (h2.imp fun h => strLess_asymm _ _ h) (((List.mergeSort_perm ss _).map _).trans h1)
  refine List.pairwise_map.2 ((List.pairwise_mergeSort tr to ss).imp fun {a b} h => ?_)
  rw [tn_less, decide_eq_false_iff_not]
  simp only [decide_eq_true_eq] at h
  exact List.not_lt.2 h

theorem strsV_length (l : List (List Nat)) : (strsV l).length = l.length := by induction l with | nil => rfl | cons _ _ ih => simp [strsV, ih]
theorem strsV_flat (l : List (List Nat)) : flat (strsV l) = true := by induction l with | nil => rfl | cons _ _ ih => simp [strsV, flat, flat1, ih]
theorem strsV_vrs {D : Nat → Prop} {μ : Nat → Loc} : ∀ l : List (List UInt8), VRs D μ (strsV (l.map tn)) (l.map encStr)
  | [] => .nil
  | n :: r => .cons _ _ _ _ (.str _ _ rfl) (strsV_vrs r)

theorem sortedS_prim (L : SlLaysZ.n6 P ρ) {ρs : Ren} (Ls : SlLaysM.n6 P ρs) (h9 : ρ.f 9 = ρs.f 6) (e9 : Enters P (ρ.f 9)) {g : Nat} {lb : Array Value} (eg : Enters P g) {S : List (List UInt8) → Prop} {N : Nat} (hN : N ≤ 1048576) (hSl : ∀ ss, S ss → ss.length ≤ N)
    {D : Nat → Prop} {μ : Nat → Loc} {s s' : St} {w : World} {v : AV} (hs : SR D μ s.at w) (hd : Dis D s s') (hseq : GivesB Fence.wide 2 P g lb encStr S N w) {l : List (List Nat)} (hl : ∀ ss, S ss → (ss.mergeSort (fun x y => decide (x ≤ y))).map tn = l) (hv : mkSl (strsV l) s = .ok v s') :
    Calls P (ρ.f 6) #[.func (.func g) #[] lb] w fun e w' => ∃ v' D' μ', e = .returned v' ∧ Stp D μ s w D' μ' s' w' ∧ VR D' μ' v v' := by
  have hm : maxLen = 9223372036854775807 := rfl
  refine Calls.mono (callsIn_wide.1 (sortedS_at L Fence.wide 5 trivial trivial trivial trivial rfl (by omega) (sortsS_in Ls h9 _) e9 g lb trivial eg S N (by omega) (by omega) hSl w hseq)) fun e w' ⟨v', ss, he, hS, hrow, hnil, hb⟩ => ?_
  have h1 := hl ss hS
  subst h1
  have hlen : ss.length = ((ss.mergeSort (fun x y => decide (x ≤ y))).map tn).length := by rw [List.length_map, List.length_mergeSort]
  obtain ⟨D', μ', h2, h3⟩ := mkSl_ok hs hd hb hv (fun _ _ => strsV_vrs _) (strsV_flat _) (n := ss.length) (by rw [strsV_length, ← hlen]) hrow (fun h => hnil.2 (by
    have : ((ss.mergeSort (fun x y => decide (x ≤ y))).map tn).length = 0 := by rw [← strsV_length, h]; rfl
    exact List.eq_nil_of_length_eq_zero (by omega)))
  exact ⟨v', D', μ', he, h2, h3⟩

theorem texts_keys {D : Nat → Prop} {μ : Nat → Loc} {es : List Ent} {es' : List MapEntry} (h : ER D μ es es') : ∀ {ns : List (List Nat)}, textsOf (keysE es) = some ns → ∃ bs : List (List UInt8), bs.map tn = ns ∧ es'.map (·.key) = bs.map encStr := by
  induction h with
  | nil => intro ns h; cases h; exact ⟨[], rfl, rfl⟩
  | cons e e' es es' h1 h2 h3 h4 ih =>
    intro ns hn
    simp only [keysE] at hn
    unfold textsOf at hn
    split at hn
    · rename_i heq; cases heq
    · rename_i n r heq
      obtain ⟨hk, rfl⟩ := List.cons.inj heq
      split at hn
      · rename_i l hl
        cases hn
        obtain ⟨bs, b1, b2⟩ := ih hl
        rw [hk] at h1
        obtain ⟨st, e1, e2⟩ := vr_str h1
        refine ⟨st.data.toList :: bs, by simp [b1, tn, e2], ?_⟩
        rw [List.map_cons, List.map_cons, b2, e1]
      · cases hn
    · cases hn

theorem owns_texts {D : Nat → Prop} {μ : Nat → Loc} {es : List Ent} {c : Nat} {l : List (List Nat)} {k : TypeId} (hk : P.underlying k = some .string) {w : World} {b : Nat} {es' : Array MapEntry} (hm : w.heap[b]? = some (.map es' c)) (he : ER D μ es es'.toList)
    (hl : sortS (keysE es) = some l) (hb : bornsOk c 0 es = true) (hr : risingS l = true) (hn : l.length ≤ 1048576) :
    ∃ D0 : DataW Unit, w.ownsMap P k (fun _ => some (.nil, [])) b es'.size D0 ∧ Maps.size D0 ≤ 1048576 ∧ ∀ ss : List (List UInt8), ss.Perm (strKeys D0) → ss.length ≤ Maps.size D0 ∧ (ss.mergeSort (fun x y => decide (x ≤ y))).map tn = l := by
  obtain ⟨ns, n1, n2⟩ := sortS_ok _ _ hl
  obtain ⟨r1, r2⟩ := risingS_ok l hr
  obtain ⟨bs, hbs, hks⟩ := texts_keys he n1
  subst hbs
  obtain ⟨b1, b2⟩ := borns_ok he c 0 hb
  have hlen : es'.size = bs.length := by have := congrArg List.length hks; simpa using this
  have hnd : (bs.map tn).Nodup := n2.nodup_iff.1 (r1.imp fun {a b} h e => by subst e; rw [strLess_irrefl] at h; cases h)
  have hndb : bs.Nodup := (List.pairwise_map.1 hnd).imp fun h e => h (by rw [e])
  have hm' : maxLen = 9223372036854775807 := rfl
  have hmem : ∀ n ∈ bs, n.length ≤ maxLen := fun n hn => by
    have := r2 (tn n) (n2.mem_iff.2 (List.mem_map.2 ⟨n, hn, rfl⟩))
    rw [tn, List.length_map] at this
    omega
  have hrd : ∀ x ∈ es'.toList, ∃ n, n ∈ bs ∧ x.key = encStr n ∧ WideElems.rd (H := Unit) P k (fun _ => some (.nil, [])) x = some (.string n, .nil) := fun x hx => by
    have : x.key ∈ es'.toList.map (·.key) := List.mem_map.2 ⟨x, hx, rfl⟩
    rw [hks] at this
    obtain ⟨n, h1, h2⟩ := List.mem_map.1 this
    refine ⟨n, h1, h2.symm, ?_⟩
    have hsz : (ByteArray.mk n.toArray).size ≤ maxLen := hmem n h1
    unfold WideElems.rd
    rw [← h2, show encStr n = .string ⟨n.toArray⟩ from rfl, WideMaps.keyOf_string_mk hk hsz]
    rfl
  have hrg : es'.toList.map (fun x => Go.strOf (WideElems.rg (H := Unit) P k (fun _ => some (.nil, [])) x).1) = bs := by
    have : es'.toList.map (fun x => encStr (Go.strOf (WideElems.rg (H := Unit) P k (fun _ => some (.nil, [])) x).1)) = bs.map encStr := by
      rw [← hks]
      refine List.map_congr_left fun x hx => ?_
      obtain ⟨n, _, h2, h3⟩ := hrd x hx
      show encStr (Go.strOf (WideElems.rg (H := Unit) P k (fun _ => some (.nil, [])) x).1) = x.key
      unfold WideElems.rg
      rw [h3, h2]; rfl
    have h2 : (es'.toList.map (fun x => Go.strOf (WideElems.rg (H := Unit) P k (fun _ => some (.nil, [])) x).1)).map encStr = bs.map encStr := by rw [List.map_map]; exact this
    exact (List.map_inj_right fun _ _ h => encStr_inj h).1 h2
  have hll : l.length = bs.length := by rw [n2.length_eq, List.length_map]
  refine ⟨_, ⟨es', c, hm, ⟨by omega, ⟨fun x hx => (b1 x hx).2, b2, by rw [hks]; exact (List.pairwise_map.2 (hndb.imp fun h e => h (encStr_inj e)))⟩, fun x hx => ?_⟩, Nat.le_refl _, rfl⟩, ?_, fun ss hss => ?_⟩
  · obtain ⟨n, _, _, h⟩ := hrd x hx; exact ⟨_, h⟩
  · show List.length _ ≤ _
    rw [(WideShapes.sorted_perm _).length_eq]; simp; omega
  · have hp : (strKeys (.map ((es'.toList.map (WideElems.rg (H := Unit) P k (fun _ => some (.nil, [])))).foldr DataW.insert []))).Perm bs := by
      show (List.map _ _).Perm bs
      refine ((WideShapes.sorted_perm _).map _).trans ?_
      rw [List.map_map]
      exact .of_eq hrg
    have hp2 := hss.trans hp
    refine ⟨?_, sorted_texts ((hp2.map _).trans n2.symm) r1⟩
    show _ ≤ List.length _
    rw [(WideShapes.sorted_perm _).length_eq, hp2.length_eq]; simp; omega

theorem pSortS_ok (L : SlLaysZ.n6 P ρ) {ρs : Ren} (Ls : SlLaysM.n6 P ρs) (h9 : ρ.f 9 = ρs.f 6) (e9 : Enters P (ρ.f 9)) {fk : List Nat} (hk : ∀ g, natIn g fk = true → ∃ ρ' : Ren, ρ'.f 10 = g ∧ SlLaysZ.n10 P ρ') : PrimOK P (ρ.f 6) (pSortS fk) := by
  intro D μ args args' s w v s' ha hs hd hv
  refine ⟨Callable.of_bears L.f6 rfl, ?_⟩
  unfold pSortS at hv
  split at hv
  · rename_i g b o
    cases hal : args'.toList with
    | nil => rw [hal] at ha; cases ha
    | cons x r =>
      rw [hal] at ha
      cases ha with
      | cons _ _ _ _ hx hr =>
        cases hr
        have : args' = #[x] := Array.ext' hal
        subst this
        obtain ⟨lb, rfl, hlb⟩ := vr_fn hx
        cases hll : lb.toList with
        | nil => rw [hll] at hlb; cases hlb
        | cons y r =>
          rw [hll] at hlb
          cases hlb with
          | cons _ _ _ _ hp hr =>
            cases hr
            have : lb = #[y] := Array.ext' hll
            subst this
            obtain ⟨rfl, hDb⟩ := vr_ptr hp
            split at hv
            · rename_i bx hbx
              obtain ⟨x', c1, c2, c3⟩ := boxed_ok hs hbx
              split at hv
              · rename_i l hl
                cases hg : natIn g fk with
                | false => rw [hg] at hl; cases hl
                | true =>
                  rw [hg, cond_true] at hl
                  obtain ⟨ρ', rfl, L'⟩ := hk g hg
                  have eg : Enters P (ρ'.f 10) := L'.f10.enters rfl
                  unfold ksS at hl
                  split at hl
                  · cases hl
                    have := vr_nilm c2
                    subst this
                    exact sortedS_prim L Ls h9 e9 eg (Nat.zero_le _) (fun ss h => by rw [h]; simp) hs hd (keysS_gives_nil L' Fence.wide 2 trivial rfl _ _ w c3 c1) (fun ss h => by rw [h]; simp) hv
                  · rename_i m
                    obtain ⟨rfl, hDm⟩ := vr_map c2
                    split at hl
                    · rename_i es c hat
                      split at hl
                      · rename_i l' hl'
                        cases hc : bornsOk c 0 es && (risingS l' && Nat.ble l'.length 1048576) with
                        | false => rw [hc] at hl; cases hl
                        | true =>
                          rw [hc] at hl
                          cases hl
                          simp only [Bool.and_eq_true] at hc
                          obtain ⟨co, hco, es', rfl, her⟩ := hs.obj _ _ hat
                          obtain ⟨D0, o1, o2, o3⟩ := owns_texts (k := ρ'.t 26) L'.t26 hco her hl' hc.1 hc.2.1 (Nat.le_of_ble_eq_true hc.2.2)
                          exact sortedS_prim L Ls h9 e9 eg o2 (fun ss h => (o3 ss h).1) hs hd (keysS_gives L' Fence.wide 2 trivial rfl (by omega) _ _ _ _ D0 w c3 c1 o1) (fun ss h => (o3 ss h).2) hv
                      · cases hl
                    · cases hl
                  · cases hl
              · cases hv
            · cases hv
  · cases hv

end Go.AM
