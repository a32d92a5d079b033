/-
  A slice that came in, opened to its cells, whatever its elements are; arrays of integers. Plain lemmas; no condition.
-/
import Derived.Test.YtiaabbflchdcbaaList
namespace Go.Proofs.Ytiaabbflchdcbaa
open Go.RowKit
set_option linter.unusedVariables false
set_option linter.unusedSimpArgs false

open Go.ChangeShapes Go.WideShapes Go.Deep in
theorem open_elems {H : Type} {enc : TypeId × Value → H} {P : Program} {w : World} {base : Nat} {spare : Nat → Bool} {held : Bool} {t e : TypeId} {C fuel : Nat} {A : Option Addr} {n c : Nat} {x : DataW H × List MemPlace}
    (ht : P.underlying t = some (.slice e)) (hC : P.cellsOf e = C) (hz : 0 < C)
    (h : DataW.trod enc P w base spare held fuel t [.slice A n c] = some x) :
    n ≤ c ∧ c ≤ maxLen ∧ (A = none → n = 0) ∧ ∃ F : Nat → Nat → Value, SlAt w C A n F ∧
      ∀ k, k < n → ∃ (m : Nat) (y : DataW H × List MemPlace), DataW.trod enc P w base spare held m e ((List.range C).map (F k)) = some y := by
  rcases open_slice ht h with ⟨h0, _⟩ | ⟨a, len, cap, m, nf, D, Pl, hcs, hb, hl, hm, hmm, hx, hi⟩
  · simp only [List.cons.injEq, Value.slice.injEq, and_true] at h0
    obtain ⟨rfl, rfl, rfl⟩ := h0
    exact ⟨Nat.le_refl _, Nat.zero_le _, fun _ => rfl, fun _ _ => undef, fun k hk => absurd hk (by omega), fun k hk => absurd hk (by omega)⟩
  · simp only [List.cons.injEq, Value.slice.injEq, and_true] at hcs
    obtain ⟨rfl, rfl, rfl⟩ := hcs
    have key : ∀ k, k < n → ∃ cs' : List Value, cs'.length = C ∧ (∀ j, j < C → w.cell? (a.add (k * C + j)) = cs'[j]?) ∧ ∃ y, DataW.trod enc P w base spare held nf e cs' = some y := by
      intro k hk
      have hkm : k < m := by rw [hmm]; split <;> omega
      obtain ⟨cs', hc, ht'⟩ := hi k hkm
      rw [hC] at hc
      obtain ⟨_, hcl, hat⟩ := World.cells?_some hc
      exact ⟨cs', hcl, fun j hj => by rw [← Go.Deep.add_add]; exact hat j hj, _, ht'⟩
    refine ⟨hl, hm, fun h => (by cases h), fun k j => (w.cell? (a.add (k * C + j))).getD undef, fun k hk => ?_, fun k hk => ?_⟩
    · obtain ⟨cs0, hl0, h0, _⟩ := key 0 (by omega)
      have hv : cs0[0]? = some (cs0[0]'(by omega)) := List.getElem?_eq_getElem (by omega)
      have hv0 := (h0 0 hz).trans hv
      have hsp : a.spot = none := by
        have h0 := World.cell?_spot hv0
        simpa [Addr.add] using h0
      have hlt := World.block_lt_of_cell? w _ hv0
      obtain ⟨b, o, s⟩ := a
      simp only at hsp
      subst hsp
      rw [addr_add] at hlt
      refine ⟨b, o, rfl, hlt, fun j hj => ?_⟩
      obtain ⟨cs', hl', h', _⟩ := key k hk
      have hu : cs'[j]? = some (cs'[j]'(by omega)) := List.getElem?_eq_getElem (by omega)
      have hj' := (h' j hj).trans hu
      rw [addr_add] at hj'
      simp only [addr_add, hj', Option.getD_some]
    · obtain ⟨cs', hl', h', y, hy⟩ := key k hk
      refine ⟨nf, y, ?_⟩
      rw [← hy]
      congr 1
      apply List.ext_getElem?
      intro j
      by_cases hj : j < C
      · have hu : cs'[j]? = some (cs'[j]'(by omega)) := List.getElem?_eq_getElem (by omega)
        rw [hu]
        simp [hj, h' j hj, hu]
      · rw [List.getElem?_eq_none (by simp; omega), List.getElem?_eq_none (by omega)]

theorem SlAt.pre {w : World} {sz : Nat} {A : Option Addr} {n m : Nat} {F : Nat → Nat → Value} (h : SlAt w sz A n F) (hm : m ≤ n) : SlAt w sz A m F := fun k hk => h k (by omega)

open Go.ChangeShapes Go.WideShapes in
/-- An array of one-cell elements that came in. -/
theorem open_arr {H : Type} {enc : TypeId × Value → H} {P : Program} {w : World} {base : Nat} {spare : Nat → Bool} {held : Bool} {t e : TypeId} {k : IntKind} {N fuel : Nat} {cs : List Value} {x : DataW H × List MemPlace}
    (ht : P.underlying t = some (.array N e)) (he : P.underlying e = some (.int k)) (hC : P.cellsOf e = 1) (hN : P.cellsOf t = N)
    (h : DataW.trod enc P w base spare held fuel t cs = some x) : ∃ l : List Int, l.length = N ∧ cs = l.map (Value.int k) ∧ ∀ n ∈ l, (Lit.int k n).wf = true := by
  obtain ⟨xs, m, rfl, hx, hlen, hxl, hi⟩ := DataW.trod_array ht h
  rw [hN] at hlen
  have key : ∀ i, i < N → ∃ n, cs[i]? = some (.int k n) ∧ (Lit.int k n).wf = true := by
    intro i hiN
    have h1 := hi i hiN
    rw [hC, Nat.mul_one] at h1
    have hone : (cs.drop i).take 1 = [cs[i]'(by omega)] := by
      rw [List.drop_eq_getElem_cons (by omega)]
      rfl
    rw [hone, List.getElem?_eq_getElem (by omega)] at h1
    obtain ⟨n, e1, _, e3⟩ := DataW.trod_int he h1
    simp only [List.cons.injEq, and_true] at e1
    exact ⟨n, by rw [List.getElem?_eq_getElem (by omega), e1], e3⟩
  have gen : ∀ (cs : List Value), (∀ i, i < cs.length → ∃ n, cs[i]? = some (.int k n) ∧ (Lit.int k n).wf = true) → ∃ l : List Int, l.length = cs.length ∧ cs = l.map (Value.int k) ∧ ∀ n ∈ l, (Lit.int k n).wf = true := by
    intro cs
    induction cs with
    | nil => exact fun _ => ⟨[], rfl, rfl, fun n hn => by simp at hn⟩
    | cons c r ih =>
      intro hk
      obtain ⟨l, h1, h2, h3⟩ := ih (fun i hi => by simpa using hk (i + 1) (by simp; omega))
      obtain ⟨n, h4, h5⟩ := hk 0 (by simp)
      simp at h4
      subst h4
      exact ⟨n :: l, by simp [h1], by simp [h2], fun m hm => by
        rcases List.mem_cons.1 hm with rfl | hm
        · exact h5
        · exact h3 m hm⟩
  obtain ⟨l, h1, h2, h3⟩ := gen cs (fun i hi => key i (by omega))
  exact ⟨l, by omega, h2, h3⟩
theorem okWide_array {P : Program} {w : World} {r : Reach} {base : Nat} {t e : TypeId} {N : Nat} {v : Value} (ht : P.underlying t = some (.array N e)) (h : Value.okWide P w r base t v) : ∃ cs, v = .agg cs ∧ cs.size = P.cellsOf t := by
  simp only [Value.okWide, ht] at h
  obtain ⟨cs, h1, h2, _⟩ := h
  exact ⟨cs, h1, h2⟩

/-! A region that draws its order, whose calls may make memory, but hand back a value that doesn't depend on the order: one walk serves every order. -/
structure Cls (B : Nat) (W : World) where
  w : World
  h : Below B W w
instance (B : Nat) (W : World) : Nonempty (Cls B W) := ⟨⟨W, Below.refl B W⟩⟩
section
variable {B : Nat} {W : World}
theorem Cls.cell {p : Addr} {v : Value} (h : W.cell? p = some v) (hp : p.block < B) (x : Cls B W) : x.w.cell? p = some v := (x.h.cell hp).trans h
theorem Cls.blk {g : Nat} {t : TypeId} {cs : Array Value} (h : Blk W g t cs) (hg : g < B) (x : Cls B W) : Blk x.w g t cs := h.below x.h hg
theorem Cls.cells {p : Addr} {v : Value} (h : W.cell? p = some v) (hp : p.block < B) : ∀ x : Cls B W, x.w.cell? p = some v := fun x => x.cell h hp
theorem Cls.call {P : Program} {f : FuncId} {args : Array Value} {x : Cls B W} {v : Value} (hB : B ≤ W.heap.size)
    (h : Calls P f args x.w fun e w' => e = .returned v ∧ Below x.w.heap.size x.w w') : Calls P f args x.w fun e w' => e = .returned v ∧ ∃ y : Cls B W, w' = y.w :=
  h.mono fun e w' ⟨he, hb⟩ => ⟨he, ⟨⟨w', x.h.trans (hb.mono (Nat.le_trans hB x.h.size))⟩, rfl⟩⟩
theorem Cls.quiet {P : Program} {f : FuncId} {args : Array Value} {x : Cls B W} {v : Value}
    (h : Calls P f args x.w fun e w' => e = .returned v ∧ x.w = w') : Calls P f args x.w fun e w' => e = .returned v ∧ ∃ y : Cls B W, w' = y.w :=
  h.mono fun e w' ⟨he, hb⟩ => ⟨he, x, hb.symm⟩
theorem Cls.quietN {P : Program} {f : FuncId} {args : Array Value} {x : Cls B W} {v : Value}
    (h : Calls P f args x.w fun e w' => e = .returned v ∧ ∃ n, x.w.drewN n = w') : Calls P f args x.w fun e w' => e = .returned v ∧ ∃ y : Cls B W, w' = y.w :=
  h.mono fun e w' ⟨he, n, hb⟩ => ⟨he, ⟨w', hb ▸ below_drewN x.h n⟩, rfl⟩
theorem wp_region_cls {P : Program} {id : Nat} {Q : Exit → Act → World → Prop} {a : Act} {w : World} {l : List Oper} (hm : P.follows .mixedOrders = true) (hB : Region.lexB .any l.toArray = true)
    (h : wpQuiet P l.toArray (fun w' => ∃ x : Cls w.heap.size w, w' = x.w) (fun a' => ∀ w', Below w.heap.size w w' → Q .normal a' w') l a) : (Code.region id l.toArray true).wp P Q a w :=
  wp_region_quiet (C := fun w' => ∃ x : Cls w.heap.size w, w' = x.w) hm hB ⟨⟨_, below_drewN (Below.refl _ w) 1⟩, rfl⟩
    (by
      have e : (fun a' => ∀ w', (∃ x : Cls w.heap.size w, w' = x.w) → Q .normal a' w') = fun a' => ∀ w', Below w.heap.size w w' → Q .normal a' w' := by
        funext a'
        exact propext ⟨fun hh w' hw => hh _ ⟨⟨w', hw⟩, rfl⟩, fun hh w' ⟨x, hx⟩ => hx ▸ hh x.w x.h⟩
      rw [e]
      exact h)
end

/-- The world under a name, with what is known of it. -/
theorem wp_world {P : Program} {c : Code} {Q : Exit → Act → World → Prop} {a : Act} {w : World} (R : World → Prop) (hR : R w) (h : ∀ wz, R wz → Code.wp P c Q a wz) : Code.wp P c Q a w := h w hR

/-! What stays in a region: all that was there. -/
section
variable {W w w' : World}
theorem keepB_cell {p : Addr} {v : Value} (h : W.cell? p = some v) : ∀ w' : World, Below W.heap.size W w' → w'.cell? p = some v := fun w' hb => (hb.cell (World.block_lt_of_cell? W p h)).trans h
theorem keepB_alloc (h : Below W.heap.size W w) (o : Obj) : Below W.heap.size W (w.alloc o) := h.alloc h.size o
theorem keepB_call (h : Below W.heap.size W w) (k : Below w.heap.size w w') : Below W.heap.size W w' := h.trans (k.mono h.size)
theorem keepB_drew (h : Below W.heap.size W w) : Below W.heap.size W w.drew := below_drewN h 1
theorem keepB_set (h : Below W.heap.size W w) {p : Addr} (hp : W.heap.size ≤ p.block) (u : Value) : Below W.heap.size W (w.setCell p u) := h.setCell hp u
end

section
variable {X w' : World} {cs cs' : Array Value} {t t' : TypeId}
theorem kept_all (h : Below X.heap.size X w') : (∀ b i, b < X.heap.size → w'.cell? ⟨b, i, none⟩ = X.cell? ⟨b, i, none⟩) ∧ (∀ b i, b < X.heap.size → w'.frozen? ⟨b, i, none⟩ = X.frozen? ⟨b, i, none⟩) ∧
    (∀ b, b < X.heap.size → b < w'.heap.size) ∧ (∀ b, b < X.heap.size → w'.heap.size ≠ b) :=
  ⟨fun b i hb => h.cell (p := ⟨b, i, none⟩) hb, fun b i hb => h.frozen (p := ⟨b, i, none⟩) hb, fun b hb => Nat.lt_of_lt_of_le hb h.size, fun b hb => by have := h.size; omega⟩
/-- The blocks that were made just ahead of a call that keeps what was there. -/
theorem alloc_kept (h : Below (X.alloc (.cells cs t)).heap.size (X.alloc (.cells cs t)) w') :
    X.heap.size < w'.heap.size ∧ w'.heap.size ≠ X.heap.size ∧ (∀ i, w'.cell? ⟨X.heap.size, i, none⟩ = cs[i]?) ∧ (∀ i, w'.frozen? ⟨X.heap.size, i, none⟩ = false) := by
  have hb := (Blk.new X t cs).same h
  have hs := h.size
  rw [World.size_alloc] at hs
  exact ⟨by omega, by omega, fun i => hb.cell i, fun i => hb.frozen i⟩
theorem alloc_kept2 (h : Below ((X.alloc (.cells cs t)).alloc (.cells cs' t')).heap.size ((X.alloc (.cells cs t)).alloc (.cells cs' t')) w') :
    (X.heap.size + 1 < w'.heap.size ∧ X.heap.size < w'.heap.size) ∧ (w'.heap.size ≠ X.heap.size ∧ w'.heap.size ≠ X.heap.size + 1) ∧ (∀ i, w'.cell? ⟨X.heap.size, i, none⟩ = cs[i]?) ∧ (∀ i, w'.frozen? ⟨X.heap.size, i, none⟩ = false) ∧
      (∀ i, w'.cell? ⟨X.heap.size + 1, i, none⟩ = cs'[i]?) ∧ (∀ i, w'.frozen? ⟨X.heap.size + 1, i, none⟩ = false) := by
  have hb := ((Blk.new X t cs).alloc (.cells cs' t')).same h
  have hb2 := (Blk.new (X.alloc (.cells cs t)) t' cs').same h
  have hs := h.size
  rw [World.size_alloc] at hb2
  rw [World.size_alloc, World.size_alloc] at hs
  exact ⟨⟨by omega, by omega⟩, ⟨by omega, by omega⟩, fun i => hb.cell i, fun i => hb.frozen i, fun i => hb2.cell i, fun i => hb2.frozen i⟩
end

theorem blk_new_at {w : World} {n : Nat} {t : TypeId} {cs : Array Value} (hn : n = w.heap.size) : Blk (w.alloc (.cells cs t)) n t cs := hn ▸ Blk.new w t cs

end Go.Proofs.Ytiaabbflchdcbaa
