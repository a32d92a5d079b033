/-
  A slice of pairs of numbers that came in; the clock behind samples.
-/
import Derived.Test.YtlnenndlenckjaaPawake
namespace Go.Proofs.Ytlnenndlenckjaa
open Go.RowKit
set_option linter.unusedVariables false
set_option linter.unusedSimpArgs false


def PairsOk (L : List (Int × Int)) : Prop := ∀ p ∈ L, (0 ≤ p.1 ∧ p.1 ≤ 18446744073709551615) ∧ (0 ≤ p.2 ∧ p.2 ≤ 18446744073709551615)
/-- A slice of pairs that reads as a list. -/
def Pairs (w : World) (A : Option Addr) (n : Nat) (L : List (Int × Int)) : Prop :=
  L.length = n ∧ ∀ k, k < n → ∃ b off, A = some ⟨b, off, none⟩ ∧ b < w.heap.size ∧ w.cell? ⟨b, off + k * 2, none⟩ = some (.int .u64 (L.getD k (0, 0)).1) ∧ w.cell? ⟨b, off + k * 2 + 1, none⟩ = some (.int .u64 (L.getD k (0, 0)).2)
theorem Pairs.below {w w' : World} {A : Option Addr} {n : Nat} {L : List (Int × Int)} (h : Pairs w A n L) (hb : Below w.heap.size w w') : Pairs w' A n L :=
  ⟨h.1, fun k hk => by
    obtain ⟨b, off, e, hlt, h0, h1⟩ := h.2 k hk
    exact ⟨b, off, e, Nat.lt_of_lt_of_le hlt hb.size, (hb.cell (p := ⟨b, _, none⟩) hlt).trans h0, (hb.cell (p := ⟨b, _, none⟩) hlt).trans h1⟩⟩
theorem Pairs.pre {w : World} {A : Option Addr} {n m : Nat} {L : List (Int × Int)} (h : Pairs w A n L) (hm : m ≤ n) : Pairs w A m (L.take m) :=
  ⟨by simp [h.1, hm], fun k hk => by
    obtain ⟨b, off, e, hlt, h0, h1⟩ := h.2 k (by omega)
    have hl : k < L.length := by rw [h.1]; omega
    have e1 : (L.take m).getD k (0, 0) = L.getD k (0, 0) := by simp [List.getD, hk]
    rw [e1]
    exact ⟨b, off, e, hlt, h0, h1⟩⟩
theorem PairsOk.take {L : List (Int × Int)} (h : PairsOk L) (m : Nat) : PairsOk (L.take m) := fun p hp => h p (List.mem_of_mem_take hp)
theorem PairsOk.getD {L : List (Int × Int)} (h : PairsOk L) (k : Nat) : (0 ≤ (L.getD k (0, 0)).1 ∧ (L.getD k (0, 0)).1 ≤ 18446744073709551615) ∧ (0 ≤ (L.getD k (0, 0)).2 ∧ (L.getD k (0, 0)).2 ≤ 18446744073709551615) := by
  by_cases hk : k < L.length
  · have := h L[k] (List.getElem_mem hk)
    simpa [List.getD, hk] using this
  · simp [List.getD, hk]
def ckAll (L : List (Int × Int)) : Ck := L.foldl (fun c p => smp c p.1 p.2) ck0
theorem ckAll_take (L : List (Int × Int)) (k : Nat) (hk : k < L.length) : ckAll (L.take (k + 1)) = smp (ckAll (L.take k)) (L.getD k (0, 0)).1 (L.getD k (0, 0)).2 := by
  have e : L.getD k (0, 0) = L[k] := by simp [List.getD, hk]
  rw [e, List.take_succ_eq_append_getElem hk]
  unfold ckAll
  rw [List.foldl_append]
  rfl
theorem ckAll_ok (L : List (Int × Int)) (h : PairsOk L) : CkOk (ckAll L) := by
  have gen : ∀ (L : List (Int × Int)) (c : Ck), CkOk c → PairsOk L → CkOk (L.foldl (fun c p => smp c p.1 p.2) c) := by
    intro L
    induction L with
    | nil => exact fun c hc _ => hc
    | cons p r ih =>
      intro c hc hp
      have h0 := hp p (by simp)
      exact ih _ (smp_ok c hc _ _ h0.1.1 h0.2.1) (fun q hq => hp q (by simp [hq]))
  exact gen L ck0 ck0_ok h
open Go.ChangeShapes Go.WideShapes Go.ChangeAt Go.Deep in
theorem pairs_of {H : Type} {enc : TypeId × Value → H} {W : World} {A : Option Addr} {n c : Nat} {d : DataW H} {p : List MemPlace}
    (h : DataW.Trod enc Try.prog W 0 (fun _ => true) true 22 (.slice A n c) d p) : n ≤ c ∧ c ≤ maxLen ∧ ∃ L, Pairs W A n L ∧ PairsOk L := by
  obtain ⟨fuel, hf⟩ := h
  obtain ⟨h1, h2, _, G, hs, hk⟩ := open_elems (C := 2) Try.underlying22 (by kernel_rfl) (by decide) hf
  have key : ∀ k, k < n → ∃ p : Int × Int, G k 0 = .int .u64 p.1 ∧ G k 1 = .int .u64 p.2 ∧ (0 ≤ p.1 ∧ p.1 ≤ 18446744073709551615) ∧ (0 ≤ p.2 ∧ p.2 ≤ 18446744073709551615) := by
    intro k hkn
    obtain ⟨m, y, hy⟩ := hk k hkn
    obtain ⟨l, hl, he, hw⟩ := open_arr Try.underlying27 Try.underlying26 (by kernel_rfl) (by kernel_rfl) hy
    match l, hl with
    | [a, b], _ =>
      simp [List.range_succ] at he
      exact ⟨(a, b), he.1, he.2, bounds_u64 (hw a (by simp)), bounds_u64 (hw b (by simp))⟩
  have gen : ∀ n, (∀ k, k < n → ∃ p : Int × Int, G k 0 = .int .u64 p.1 ∧ G k 1 = .int .u64 p.2 ∧ (0 ≤ p.1 ∧ p.1 ≤ 18446744073709551615) ∧ (0 ≤ p.2 ∧ p.2 ≤ 18446744073709551615)) →
      ∃ L : List (Int × Int), L.length = n ∧ PairsOk L ∧ ∀ k, k < n → G k 0 = .int .u64 (L.getD k (0, 0)).1 ∧ G k 1 = .int .u64 (L.getD k (0, 0)).2 := by
    intro n
    induction n with
    | zero => exact fun _ => ⟨[], rfl, fun p hp => by simp at hp, fun k hk => absurd hk (by omega)⟩
    | succ n ih =>
      intro hh
      obtain ⟨L, hl, ho, hg⟩ := ih (fun k hk => hh k (by omega))
      obtain ⟨p, hp0, hp1, hp2⟩ := hh n (by omega)
      refine ⟨L ++ [p], by simp [hl], fun q hq => ?_, fun k hk => ?_⟩
      · rcases List.mem_append.1 hq with hq | hq
        · exact ho q hq
        · simp at hq; subst hq; exact hp2
      · by_cases hkn : k < n
        · have := hg k hkn
          simpa [List.getD, List.getElem?_append_left (show k < L.length by omega)] using this
        · obtain rfl : k = n := by omega
          simpa [List.getD, List.getElem?_append_right (show L.length ≤ k by omega), hl] using ⟨hp0, hp1⟩
  obtain ⟨L, hl, ho, hg⟩ := gen n key
  refine ⟨h1, h2, L, ⟨hl, fun k hkn => ?_⟩, ho⟩
  obtain ⟨b, off, e, hlt, hc⟩ := hs k hkn
  exact ⟨b, off, e, hlt, by rw [← (hg k hkn).1]; simpa using hc 0 (by decide), by rw [← (hg k hkn).2]; simpa [Nat.add_assoc] using hc 1 (by decide)⟩

end Go.Proofs.Ytlnenndlenckjaa
