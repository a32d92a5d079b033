/-
  A slice that came in, opened to its cells, whatever its elements are; arrays of integers. Plain lemmas; no condition.
-/
import Derived.Test.YtliagckgollalaaList
namespace Go.Proofs.Ytliagckgollalaa
open Go.RowKit
set_option linter.unusedVariables false
set_option linter.unusedSimpArgs false

open Go.ChangeShapes Go.WideShapes Go.Deep in
theorem open_elems {H : Type} {enc : TypeId × Value → H} {P : Program} {w : World} {base : Nat} {spare : Nat → Bool} {held : Bool} {t e : TypeId} {C fuel : Nat} {A : Option Addr} {n c : Nat} {x : DataW H × List MemPlace}
    (ht : P.underlying t = some (.slice e)) (hC : P.cellsOf e = C) (hz : 0 < C)
    (h : DataW.trod enc P w base spare held fuel t [.slice A n c] = some x) :
    n ≤ c ∧ c ≤ maxLen ∧ (A = none → n = 0) ∧ ∃ F : Nat → Nat → Value, SlAt w C A n F ∧
      ∀ k, k < n → ∃ (m : Nat) (y : DataW H × List MemPlace), DataW.trod enc P w base spare held m e ((List.range C).map (F k)) = some y := by
  rcases open_slice ht h with ⟨h0, _⟩ | ⟨a, len, cap, m, nf, D, Pl, hcs, hb, hl, hm, hmm, hx, hi⟩
  · simp only [List.cons.injEq, Value.slice.injEq, and_true] at h0
    obtain ⟨rfl, rfl, rfl⟩ := h0
    exact ⟨Nat.le_refl _, Nat.zero_le _, fun _ => rfl, fun _ _ => undef, fun k hk => absurd hk (by omega), fun k hk => absurd hk (by omega)⟩
  · simp only [List.cons.injEq, Value.slice.injEq, and_true] at hcs
    obtain ⟨rfl, rfl, rfl⟩ := hcs
    have key : ∀ k, k < n → ∃ cs' : List Value, cs'.length = C ∧ (∀ j, j < C → w.cell? (a.add (k * C + j)) = cs'[j]?) ∧ ∃ y, DataW.trod enc P w base spare held nf e cs' = some y := by
      intro k hk
      have hkm : k < m := by rw [hmm]; split <;> omega
      obtain ⟨cs', hc, ht'⟩ := hi k hkm
      rw [hC] at hc
      obtain ⟨_, hcl, hat⟩ := World.cells?_some hc
      exact ⟨cs', hcl, fun j hj => by rw [← Go.Deep.add_add]; exact hat j hj, _, ht'⟩
    refine ⟨hl, hm, fun h => (by cases h), fun k j => (w.cell? (a.add (k * C + j))).getD undef, fun k hk => ?_, fun k hk => ?_⟩
    · obtain ⟨cs0, hl0, h0, _⟩ := key 0 (by omega)
      have hv : cs0[0]? = some (cs0[0]'(by omega)) := List.getElem?_eq_getElem (by omega)
      have hv0 := (h0 0 hz).trans hv
      have hsp : a.spot = none := by
        have h0 := World.cell?_spot hv0
        simpa [Addr.add] using h0
      have hlt := World.block_lt_of_cell? w _ hv0
      obtain ⟨b, o, s⟩ := a
      simp only at hsp
      subst hsp
      rw [addr_add] at hlt
      refine ⟨b, o, rfl, hlt, fun j hj => ?_⟩
      obtain ⟨cs', hl', h', _⟩ := key k hk
      have hu : cs'[j]? = some (cs'[j]'(by omega)) := List.getElem?_eq_getElem (by omega)
      have hj' := (h' j hj).trans hu
      rw [addr_add] at hj'
      simp only [addr_add, hj', Option.getD_some]
    · obtain ⟨cs', hl', h', y, hy⟩ := key k hk
      refine ⟨nf, y, ?_⟩
      rw [← hy]
      congr 1
      apply List.ext_getElem?
      intro j
      by_cases hj : j < C
      · have hu : cs'[j]? = some (cs'[j]'(by omega)) := List.getElem?_eq_getElem (by omega)
        rw [hu]
        simp [hj, h' j hj, hu]
      · rw [List.getElem?_eq_none (by simp; omega), List.getElem?_eq_none (by omega)]

theorem SlAt.pre {w : World} {sz : Nat} {A : Option Addr} {n m : Nat} {F : Nat → Nat → Value} (h : SlAt w sz A n F) (hm : m ≤ n) : SlAt w sz A m F := fun k hk => h k (by omega)

open Go.ChangeShapes Go.WideShapes in
/-- An array of one-cell elements that came in. -/
theorem open_arr {H : Type} {enc : TypeId × Value → H} {P : Program} {w : World} {base : Nat} {spare : Nat → Bool} {held : Bool} {t e : TypeId} {k : IntKind} {N fuel : Nat} {cs : List Value} {x : DataW H × List MemPlace}
    (ht : P.underlying t = some (.array N e)) (he : P.underlying e = some (.int k)) (hC : P.cellsOf e = 1) (hN : P.cellsOf t = N)
    (h : DataW.trod enc P w base spare held fuel t cs = some x) : ∃ l : List Int, l.length = N ∧ cs = l.map (Value.int k) ∧ ∀ n ∈ l, (Lit.int k n).wf = true := by
  obtain ⟨xs, m, rfl, hx, hlen, hxl, hi⟩ := DataW.trod_array ht h
  rw [hN] at hlen
  have key : ∀ i, i < N → ∃ n, cs[i]? = some (.int k n) ∧ (Lit.int k n).wf = true := by
    intro i hiN
    have h1 := hi i hiN
    rw [hC, Nat.mul_one] at h1
    have hone : (cs.drop i).take 1 = [cs[i]'(by omega)] := by
      rw [List.drop_eq_getElem_cons (by omega)]
      rfl
    rw [hone, List.getElem?_eq_getElem (by omega)] at h1
    obtain ⟨n, e1, _, e3⟩ := DataW.trod_int he h1
    simp only [List.cons.injEq, and_true] at e1
    exact ⟨n, by rw [List.getElem?_eq_getElem (by omega), e1], e3⟩
  have gen : ∀ (cs : List Value), (∀ i, i < cs.length → ∃ n, cs[i]? = some (.int k n) ∧ (Lit.int k n).wf = true) → ∃ l : List Int, l.length = cs.length ∧ cs = l.map (Value.int k) ∧ ∀ n ∈ l, (Lit.int k n).wf = true := by
    intro cs
    induction cs with
    | nil => exact fun _ => ⟨[], rfl, rfl, fun n hn => by simp at hn⟩
    | cons c r ih =>
      intro hk
      obtain ⟨l, h1, h2, h3⟩ := ih (fun i hi => by simpa using hk (i + 1) (by simp; omega))
      obtain ⟨n, h4, h5⟩ := hk 0 (by simp)
      simp at h4
      subst h4
      exact ⟨n :: l, by simp [h1], by simp [h2], fun m hm => by
        rcases List.mem_cons.1 hm with rfl | hm
        · exact h5
        · exact h3 m hm⟩
  obtain ⟨l, h1, h2, h3⟩ := gen cs (fun i hi => key i (by omega))
  exact ⟨l, by omega, h2, h3⟩
theorem okWide_array {P : Program} {w : World} {r : Reach} {base : Nat} {t e : TypeId} {N : Nat} {v : Value} (ht : P.underlying t = some (.array N e)) (h : Value.okWide P w r base t v) : ∃ cs, v = .agg cs ∧ cs.size = P.cellsOf t := by
  simp only [Value.okWide, ht] at h
  obtain ⟨cs, h1, h2, _⟩ := h
  exact ⟨cs, h1, h2⟩

end Go.Proofs.Ytliagckgollalaa
