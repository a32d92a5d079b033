/-
  WordLoose, plain: what stands in wider forms is read as the same. No condition.
-/
import Derived.Test.YtjijmbpgfabgcaaDoorZWrdall
namespace Go.Proofs.YtjijmbpgfabgcaaDoor
open Go.RowKit
set_option linter.unusedVariables false
set_option linter.unusedSimpArgs false

/-- How wide the number is written. -/
def kk (n s : Int) : Nat := max (vsz n) (2 ^ (s % 4).toNat)
theorem kk_in (n s : Int) (h : vsz n ≠ 0) : (kk n s = 1 ∨ kk n s = 2 ∨ kk n s = 4 ∨ kk n s = 8) ∧ vsz n ≤ kk n s := by
  have h1 := vsz_in n h
  have h2 : (s % 4).toNat = 0 ∨ (s % 4).toNat = 1 ∨ (s % 4).toNat = 2 ∨ (s % 4).toNat = 3 := by omega
  unfold kk
  rcases h2 with h2 | h2 | h2 | h2 <;> rw [h2] <;> omega
theorem pw_eq (s : Int) : wrap64 (2 ^ (s % 4).toNat) = ((2 ^ (s % 4).toNat : Nat) : Int) := by
  have h2 : (s % 4).toNat = 0 ∨ (s % 4).toNat = 1 ∨ (s % 4).toNat = 2 ∨ (s % 4).toNat = 3 := by omega
  rcases h2 with h2 | h2 | h2 | h2 <;> rw [h2] <;> decide +kernel
theorem kk_hi {n s : Int} (h : (vsz n : Int) < wrap64 (2 ^ (s % 4).toNat)) : ((kk n s : Nat) : Int) = wrap64 (2 ^ (s % 4).toNat) := by
  rw [pw_eq] at h ⊢
  unfold kk
  generalize 2 ^ (s % 4).toNat = p at h ⊢
  omega
theorem kk_lo {n s : Int} (h : wrap64 (2 ^ (s % 4).toNat) ≤ (vsz n : Int)) : ((kk n s : Nat) : Int) = (vsz n : Int) := by
  rw [pw_eq] at h
  unfold kk
  generalize 2 ^ (s % 4).toNat = p at h ⊢
  omega
theorem own_base' {w : World} {base base' : Nat} {e : TypeId} {size n : Nat} {v : Value} {xs : List Value} (h : w.ownsRow base e size v n xs) (hb : base' ≤ base) : w.ownsRow base' e size v n xs := own_base h hb

/-- A MaxRequest. -/
def mMax (n : Int) : M := { M.nil 21 with n := n }
theorem mMax_ok {n : Int} (h : 0 ≤ n ∧ n ≤ 4611686018427387903) : (mMax n).Ok :=
  have h0 := nil_ok (kd := 21) (by decide)
  { h0 with n := ⟨h.1, by show n ≤ _; omega⟩ }
theorem mMax_right {n : Int} (h : 0 ≤ n ∧ n ≤ 4611686018427387903) : Right (mMax n) := by
  refine ⟨rfl, rfl, Nat.zero_le 64, ?_, ?_⟩
  · have z : (0 : Int) ≤ 4611686018427387903 := by decide
    rw [small_iff]
    exact ⟨z, z, z, h.2, z, z, z, z, z, fun x hx => by cases hx⟩
  · intro c hc
    have : c = 110 := by
      have e : shP (prt (mMax n).kd).1 = [110] := rfl
      rw [e] at hc
      simpa using hc
    subst this
    rw [okL_110]
    trivial
theorem mMax_rt {n : Int} (h : 0 ≤ n ∧ n ≤ 4611686018427387903) : rt (mMax n) = true := (rt_iff _ (mMax_ok h)).2 (mMax_right h)
theorem whole_max {n : Int} {k : Nat} (h : 0 ≤ n ∧ n ≤ 4611686018427387903) (hk : k = 1 ∨ k = 2 ∨ k = 4 ∨ k = 8) (hv : vsz n ≤ k) (L : List Int) :
    wholeR 21 (vform n k ++ L) = if L = [] then some (mMax n) else none := by
  have e : shP (prt 21).1 = [110] := rfl
  have ht := vtake_form n k L h.1 hk (vsz_some h.2) hv
  unfold wholeR
  rw [e, p110_yes ht, parse_nil]
  cases L with
  | nil => exact (if_pos (mMax_rt h)).trans (if_pos rfl).symm
  | cons a r => simp
theorem vtake_one (x : Int) (r : List Int) (h : 0 ≤ x ∧ x < 64) : vtake (x :: r) = some (x, r) := by
  have := vtake_form x 1 r h.1 (.inl rfl) (vsz_some (by omega)) (by rcases vsz_cases x with ⟨_, e⟩ | h' | h' | h' | h' <;> omega)
  rwa [vform1] at this
theorem loose_read {n : Int} {k : Nat} (h : 0 ≤ n ∧ n ≤ 4611686018427387903) (hk : k = 1 ∨ k = 2 ∨ k = 4 ∨ k = 8) (hv : vsz n ≤ k) (L : List Int) (hL : L.length ≤ 20) :
    readR (21 :: 0 :: ((vform n k ++ L).length : Int) :: (vform n k ++ L)) = if L = [] then (some (mMax n), [], 0) else (none, [], 4) := by
  unfold readR
  rw [vtake_one 21 _ (by decide)]
  have hp : (prt 21).2 = true := rfl
  simp only [hp, Bool.true_eq_false, if_false, Int.mul_zero, Int.zero_add]
  rw [if_neg (by omega), Int.toNat_natCast, List.take_length, List.drop_length, whole_max h hk hv L]
  by_cases hl : L = []
  · rw [if_pos hl, if_pos hl]
  · rw [if_neg hl, if_neg hl]

end Go.Proofs.YtjijmbpgfabgcaaDoor
