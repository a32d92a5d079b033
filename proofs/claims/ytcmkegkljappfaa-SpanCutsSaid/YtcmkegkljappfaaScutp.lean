/-
  Cutting, and adding again, plain: what is there behind each; how many numbers there are. No condition.
-/
import Derived.Test.YtcmkegkljappfaaSapart
namespace Go.Proofs.Ytcmkegkljappfaa
open Go.RowKit
set_option linter.unusedVariables false
set_option linter.unusedSimpArgs false

/-- How many numbers below N are there. -/
def cN (L : List (Int × Int)) : Nat → Int
  | 0 => 0
  | N + 1 => cN L N + if Mm L (N : Int) then 1 else 0
theorem cN_mono {L K : List (Int × Int)} (h : ∀ n, Mm L n → Mm K n) (N : Nat) : cN L N ≤ cN K N := by
  induction N with
  | zero => exact Int.le_refl _
  | succ N ih =>
    unfold cN
    by_cases h1 : Mm L (N : Int)
    · rw [if_pos h1, if_pos (h _ h1)]; omega
    · rw [if_neg h1]
      split <;> omega
theorem cN_cons {b : Int} {r : Int × Int} {T : List (Int × Int)} (h : Nm b (r :: T)) (hb : 0 ≤ b) (N : Nat) : cN (r :: T) N = max 0 (min (N : Int) (r.2 + 1) - r.1) + cN T N := by
  obtain ⟨h1, h2, h3, h4⟩ := h
  induction N with
  | zero => simp only [cN]; omega
  | succ N ih =>
    unfold cN
    rw [ih]
    by_cases hm : Mm T (N : Int)
    · have hg := h4.ge hm
      rw [if_pos (Mm.cons.2 (.inr hm)), if_pos hm]
      push_cast
      omega
    · rw [if_neg hm]
      by_cases hr : r.1 ≤ (N : Int) ∧ (N : Int) ≤ r.2
      · rw [if_pos (Mm.cons.2 (.inl hr))]
        push_cast
        omega
      · rw [if_neg (fun h => (Mm.cons.1 h).elim hr hm)]
        push_cast
        omega
theorem cN_nil (N : Nat) : cN [] N = 0 := by
  induction N with
  | zero => rfl
  | succ N ih => unfold cN; rw [ih, if_neg Mm.nil]; rfl
theorem cN_all {b : Int} {L : List (Int × Int)} (h : Nm b L) (hb : 0 ≤ b) (N : Nat) (hN : MX < (N : Int)) : cN L N = cnt L := by
  induction L generalizing b with
  | nil => exact cN_nil N
  | cons r T ih =>
    rw [cN_cons h hb]
    obtain ⟨h1, h2, h3, h4⟩ := h
    rw [ih h4 (by omega)]
    simp only [cnt]
    omega
/-- Who has all has as many. -/
theorem cnt_mono {L K : List (Int × Int)} (hL : Nm 0 L) (hK : Nm 0 K) (h : ∀ n, Mm L n → Mm K n) : cnt L ≤ cnt K := by
  obtain ⟨N, hN⟩ : ∃ N : Nat, MX < (N : Int) := ⟨(MX + 1).toNat, by simp only [MX]; omega⟩
  rw [← cN_all hL (Int.le_refl _) N hN, ← cN_all hK (Int.le_refl _) N hN]
  exact cN_mono h N
theorem cuN_nm {f t : Int} {L : List (Int × Int)} (h : Nm 0 L) : Nm 0 (cuN f t L) := by
  unfold cuN
  split
  · next hab => exact ct_nm f t hab h
  · exact h
theorem cuN_mem {f t : Int} {L : List (Int × Int)} (n : Int) : Mm (cuN f t L) n ↔ Mm L n ∧ (n < f ∨ t < n) := by
  unfold cuN
  split
  · next hft =>
    rw [ct_mem f t hft]
    constructor
    · rintro ⟨a, b⟩; exact ⟨a, by omega⟩
    · rintro ⟨a, b⟩; exact ⟨a, by omega⟩
  · next hft =>
    constructor
    · intro a; exact ⟨a, by omega⟩
    · exact fun a => a.1
theorem has_cut {f t : Int} {L : List (Int × Int)} (n : Int) : hasB (cuN f t L) n = (hasB L n && (decide (n < f) || decide (t < n))) := by
  unfold hasB
  rw [Bool.eq_iff_iff]
  simp [cuN_mem]
theorem has_add {f t : Int} {L : List (Int × Int)} (h : Nm 0 L) (hf : 0 ≤ f) (hE : adE f t = 0) (n : Int) : hasB (adN f t (cuN f t L)) n = (hasB L n || (decide (f ≤ n) && decide (n ≤ t))) := by
  unfold hasB
  rw [Bool.eq_iff_iff]
  simp only [decide_eq_true_eq, Bool.or_eq_true, Bool.and_eq_true]
  rw [adN_mem (cuN_nm h) hf, cuN_mem]
  constructor
  · rintro (⟨a, _⟩ | ⟨_, a⟩)
    · exact .inl a
    · exact .inr a
  · rintro (a | a)
    · by_cases hn : f ≤ n ∧ n ≤ t
      · exact .inr ⟨hE, hn⟩
      · exact .inl ⟨a, by omega⟩
    · exact .inr ⟨hE, a⟩
theorem cnt_add {f t : Int} {L : List (Int × Int)} (h : Nm 0 L) (hf : 0 ≤ f) (hE : adE f t = 0) : cnt L ≤ cnt (adN f t (cuN f t L)) := by
  refine cnt_mono h (adN_nm (cuN_nm h) hf) fun n hn => ?_
  rw [adN_mem (cuN_nm h) hf, cuN_mem]
  by_cases hb : f ≤ n ∧ n ≤ t
  · exact .inr ⟨hE, hb⟩
  · exact .inl ⟨hn, by omega⟩
/-- Two sets of the program's. -/
structure D2 (B : Nat) (w : World) (g : Nat) (rb : Option Nat) (L : List (Int × Int)) (gt : Nat) (rt : Option Nat) (K : List (Int × Int)) : Prop where
  s : SetR B w g rb L
  t : SetR B w gt rt K
  ne : g ≠ gt
  ap : ∀ q, rb = some q → rt ≠ some q
  sz : B ≤ w.heap.size
section
variable {B : Nat} {w w' : World} {g gt : Nat} {rb rt rb' : Option Nat} {L L' K : List (Int × Int)}
theorem D2.below (h : D2 B w g rb L gt rt K) (hb : Below w.heap.size w w') : D2 B w' g rb L gt rt K := ⟨h.s.below hb, h.t.below hb, h.ne, h.ap, Nat.le_trans h.sz hb.size⟩
theorem D2.drewN (h : D2 B w g rb L gt rt K) (n : Nat) : D2 B (w.drewN n) g rb L gt rt K := ⟨h.s, h.t, h.ne, h.ap, h.sz⟩
theorem D2.stepT (h : D2 B w g rb L gt rt K) (hs : SetR B w' g rb' L') (ho : Only w w' g rb) (hf : Fr w rb rb') : D2 B w' g rb' L' gt rt K := by
  have n2 : some gt ≠ rb := fun e => by
    obtain ⟨_, V, hr, h1, h2⟩ := h.s
    obtain ⟨_, V', hr', h1', h2'⟩ := h.t
    exact own_blk_ne h2 h1' (by decide) (by rw [hr, e])
  have n3 : rt ≠ some g := fun e => by
    obtain ⟨_, V, hr, h1, h2⟩ := h.s
    obtain ⟨_, V', hr', h1', h2'⟩ := h.t
    exact own_blk_ne h2' h1 (by decide) (by rw [hr', e])
  refine ⟨hs, ho.set h.t (Ne.symm h.ne) n2 n3 ?_, h.ne, fun q hq e => ?_, Nat.le_trans h.sz ho.size⟩
  · rcases hx : rt with _ | q
    · exact .inl rfl
    · exact .inr fun e => h.ap q e.symm hx
  · rcases hf q hq with h1 | h1
    · exact h.ap q h1 e
    · have := (h.t.rlt q e).2.1; omega
theorem D2.belowT (h : D2 B w g rb L gt rt K) (ho : Only w w' g rb) : Below B w w' := ho.below h.s.1 (fun b hb => (h.s.rlt b hb).1) h.sz
end
end Go.Proofs.Ytcmkegkljappfaa
