/-
  Slices of pairs that came in, opened.
-/
import Derived.Test.YtcmkegkljappfaaRanges
namespace Go.Proofs.Ytcmkegkljappfaa
open Go.RowKit
set_option linter.unusedVariables false
set_option linter.unusedSimpArgs false


def PairsOk (L : List (Int × Int)) : Prop := ∀ p ∈ L, (0 ≤ p.1 ∧ p.1 ≤ 18446744073709551615) ∧ (0 ≤ p.2 ∧ p.2 ≤ 18446744073709551615)
theorem PairsOk.getD {L : List (Int × Int)} (h : PairsOk L) (k : Nat) : (0 ≤ (L.getD k (0, 0)).1 ∧ (L.getD k (0, 0)).1 ≤ 18446744073709551615) ∧ (0 ≤ (L.getD k (0, 0)).2 ∧ (L.getD k (0, 0)).2 ≤ 18446744073709551615) := by
  by_cases hk : k < L.length
  · simpa [List.getD, hk] using h L[k] (List.getElem_mem hk)
  · simp [List.getD, List.getElem?_eq_none (show L.length ≤ k by omega)]
theorem PairsOk.take {L : List (Int × Int)} (h : PairsOk L) (k : Nat) : PairsOk (L.take k) := fun x hx => h x (List.mem_of_mem_take hx)
open Go.ChangeShapes Go.WideShapes Go.ChangeAt Go.Deep in
theorem rdp_of {H : Type} {enc : TypeId × Value → H} {W : World} {A : Option Addr} {n c : Nat} {d : DataW H} {p : List MemPlace}
    (h : DataW.Trod enc Try.prog W 0 (fun _ => true) true 22 (.slice A n c) d p) : ∃ L, RdP W (.slice A n c) L ∧ PairsOk L := by
  obtain ⟨fuel, hf⟩ := h
  obtain ⟨h1, h2, h3, G, hs, hk⟩ := open_elems (C := 2) Try.underlying22 (by kernel_rfl) (by decide) hf
  have k22 : Try.prog.cellsOf 28 = 1 := by kernel_rfl
  have k31 : Try.prog.cellsOf 30 = 2 := by kernel_rfl
  have key : ∀ k, k < n → ∃ p : Int × Int, G k 0 = .int .u64 p.1 ∧ G k 1 = .int .u64 p.2 ∧ (0 ≤ p.1 ∧ p.1 ≤ 18446744073709551615) ∧ (0 ≤ p.2 ∧ p.2 ≤ 18446744073709551615) := by
    intro k hkn
    obtain ⟨m, y, hy⟩ := hk k hkn
    obtain ⟨xs, n', _, _, _, hxl, hg⟩ := DataW.trod_struct Try.underlying30 hy
    have g0 := hg 0 _ rfl
    have g1 := hg 1 _ rfl
    match xs, hxl with
    | [y0, y1], _ =>
      simp [k22, List.range_succ] at g0 g1
      obtain ⟨x0, e0, _, w0⟩ := DataW.trod_int Try.underlying28 g0
      obtain ⟨x1, e1, _, w1⟩ := DataW.trod_int Try.underlying28 g1
      simp only [List.cons.injEq, and_true] at e0 e1
      exact ⟨(x0, x1), e0, e1, bounds_u64 w0, bounds_u64 w1⟩
  have gen : ∀ n, (∀ k, k < n → ∃ p : Int × Int, G k 0 = .int .u64 p.1 ∧ G k 1 = .int .u64 p.2 ∧ (0 ≤ p.1 ∧ p.1 ≤ 18446744073709551615) ∧ (0 ≤ p.2 ∧ p.2 ≤ 18446744073709551615)) →
      ∃ L : List (Int × Int), L.length = n ∧ PairsOk L ∧ ∀ k, k < n → G k 0 = .int .u64 (L.getD k (0, 0)).1 ∧ G k 1 = .int .u64 (L.getD k (0, 0)).2 := by
    intro n
    induction n with
    | zero => exact fun _ => ⟨[], rfl, fun p hp => by simp at hp, fun k hk => absurd hk (by omega)⟩
    | succ n ih =>
      intro hh
      obtain ⟨L, hl, ho, hg⟩ := ih (fun k hk => hh k (by omega))
      obtain ⟨p, hp0, hp1, hp2⟩ := hh n (by omega)
      refine ⟨L ++ [p], by simp [hl], fun q hq => ?_, fun k hk => ?_⟩
      · rcases List.mem_append.1 hq with hq | hq
        · exact ho q hq
        · simp at hq; subst hq; exact hp2
      · by_cases hkn : k < n
        · have := hg k hkn
          simpa [List.getD, List.getElem?_append_left (show k < L.length by omega)] using this
        · obtain rfl : k = n := by omega
          simpa [List.getD, List.getElem?_append_right (show L.length ≤ k by omega), hl] using ⟨hp0, hp1⟩
  obtain ⟨L, hl, ho, hg⟩ := gen n key
  refine ⟨L, ⟨A, c, by rw [hl], by omega, h2, fun e => by rw [hl]; exact h3 e, by rw [pcs_len], fun k hkn => ?_⟩, ho⟩
  rw [hl] at hkn
  obtain ⟨b, off, e, hlt, hc⟩ := hs k hkn
  refine ⟨b, off, e, hlt, fun j hj => ?_⟩
  rw [hc j hj]
  obtain ⟨q0, q1⟩ := pcs_get L k (by omega)
  match j, hj with
  | 0, _ => rw [(hg k hkn).1]; simp [List.getD, q0]
  | 1, _ => rw [(hg k hkn).2]; simp [List.getD, q1]
open Go.ChangeShapes Go.WideShapes Go.ChangeAt Go.Deep in
theorem rdp_cell {H : Type} {enc : TypeId × Value → H} {W : World} {v : Value} {m : Nat} {y : DataW H × List MemPlace}
    (h : DataW.trod enc Try.prog W 0 (fun _ => true) true m 22 [v] = some y) : ∃ L, RdP W v L ∧ PairsOk L := by
  rcases open_slice Try.underlying22 h with ⟨e, _⟩ | ⟨a, len, cap, m', n'', D, Pl, e, _⟩
  · simp only [List.cons.injEq, and_true] at e
    subst e
    exact ⟨[], RdP.nil _, fun x hx => by simp at hx⟩
  · simp only [List.cons.injEq, and_true] at e
    subst e
    exact rdp_of ⟨m, h⟩

end Go.Proofs.Ytcmkegkljappfaa
