/-
  The reference's ranges, plain: the greatest number below, and down as far as it goes. No condition.
-/
import Derived.Test.YtcmkegkljappfaaSset
namespace Go.Proofs.Ytcmkegkljappfaa
open Go.RowKit
set_option linter.unusedVariables false
set_option linter.unusedSimpArgs false

/-- How many ranges begin below a number. -/
def cb (R : List (Int × Int)) (x : Int) : Nat := R.countP (fun r => decide (r.1 < x))
theorem cb_le (R : List (Int × Int)) (x : Int) : cb R x ≤ R.length := List.countP_le_length
theorem cb_lt {R : List (Int × Int)} {x y : Int} {r : Int × Int} (hr : r ∈ R) (h1 : r.1 = x) (h2 : x < y) : cb R x < cb R y := by
  unfold cb
  induction R with
  | nil => simp at hr
  | cons q R ih =>
    have mono : ∀ T : List (Int × Int), T.countP (fun r => decide (r.1 < x)) ≤ T.countP (fun r => decide (r.1 < y)) := fun T => List.countP_mono_left fun a _ ha => by
      simp only [decide_eq_true_eq] at ha ⊢
      omega
    rw [List.countP_cons, List.countP_cons]
    rcases List.mem_cons.1 hr with rfl | hr
    · have := mono R
      have e1 : decide (r.1 < x) = false := by simp; omega
      have e2 : decide (r.1 < y) = true := by simp; omega
      rw [e1, e2]
      simp
      omega
    · have := ih hr
      by_cases hq : q.1 < x
      · have e1 : decide (q.1 < x) = true := by simpa using hq
        have e2 : decide (q.1 < y) = true := by simp; omega
        rw [e1, e2]
        simp
        omega
      · have e1 : decide (q.1 < x) = false := by simpa using hq
        rw [e1]
        simp
        omega
theorem cb_pos {R : List (Int × Int)} {x : Int} {r : Int × Int} (hr : r ∈ R) (h : r.1 < x) : 0 < cb R x := by
  unfold cb
  rw [List.countP_pos_iff]
  exact ⟨r, hr, by simpa using h⟩
/-- The numbers of R are L's; each range of R is one. -/
structure Rp (R L : List (Int × Int)) : Prop where
  n : Nm 0 L
  m : ∀ x, Mm R x ↔ Mm L x
  o : ∀ r ∈ R, 0 ≤ r.1 ∧ r.1 ≤ r.2 ∧ r.2 ≤ MX
/-- Below B there are L's first c ranges. -/
structure Lo (L : List (Int × Int)) (c : Nat) (B : Int) : Prop where
  le : c ≤ L.length
  lo : ∀ t, t < c → (L.getD t (0, 0)).2 < B
  hi : ∀ t, c ≤ t → t < L.length → B ≤ (L.getD t (0, 0)).1
  bd : 0 ≤ B ∧ B ≤ 9223372036854775808
section
variable {R L : List (Int × Int)} {c : Nat} {B : Int}
theorem Rp.of {x : Int} (h : Rp R L) {r : Int × Int} (hr : r ∈ R) (h1 : r.1 ≤ x) (h2 : x ≤ r.2) : ∃ t, t < L.length ∧ (L.getD t (0, 0)).1 ≤ x ∧ x ≤ (L.getD t (0, 0)).2 :=
  h.n.at_.1 ((h.m x).1 ⟨r, hr, h1, h2⟩)
theorem Rp.to {x : Int} (h : Rp R L) {t : Nat} (ht : t < L.length) (h1 : (L.getD t (0, 0)).1 ≤ x) (h2 : x ≤ (L.getD t (0, 0)).2) : ∃ r ∈ R, r.1 ≤ x ∧ x ≤ r.2 :=
  (h.m x).2 (h.n.at_.2 ⟨t, ht, h1, h2⟩)
/-- A range of R that begins below B lies in one of the first c. -/
theorem Rp.in_ (h : Rp R L) (k : Lo L c B) {r : Int × Int} (hr : r ∈ R) (hb : r.1 < B) : ∃ t, t < c ∧ (L.getD t (0, 0)).1 ≤ r.1 ∧ r.1 ≤ (L.getD t (0, 0)).2 ∧ min r.2 (B - 1) ≤ (L.getD t (0, 0)).2 := by
  have ho := h.o r hr
  obtain ⟨t, ht, h1, h2⟩ := h.of hr (Int.le_refl _) ho.2.1
  have htc : t < c := by
    rcases Nat.lt_or_ge t c with h3 | h3
    · exact h3
    · have := k.hi t h3 ht; omega
  refine ⟨t, htc, h1, h2, ?_⟩
  -- were it longer, the number behind the t-th range would be there
  rcases (show (L.getD t (0, 0)).2 < (min r.2 (B - 1)) ∨ (min r.2 (B - 1)) ≤ (L.getD t (0, 0)).2 by omega) with h4 | h4
  · obtain ⟨u, hu, h5, h6⟩ := h.of (x := (L.getD t (0, 0)).2 + 1) hr (by omega) (by omega)
    exfalso
    rcases Nat.lt_trichotomy u t with h7 | h7 | h7
    · have := h.n.lt u t h7 ht; have := (h.n.up t ht).2.1; omega
    · subst h7; omega
    · have := h.n.lt t u h7 hu; omega
  · exact h4
/-- The greatest number below. -/
theorem Rp.best (h : Rp R L) (k : Lo L (c + 1) B) {b : Int} (h1 : ∃ r ∈ R, r.1 < B ∧ b = min r.2 (B - 1)) (h2 : ∀ r ∈ R, r.1 < B → min r.2 (B - 1) ≤ b) : b = (L.getD c (0, 0)).2 := by
  have hc := k.le
  obtain ⟨r, hr, h3, h4⟩ := h1
  obtain ⟨t, ht, h5, h6, h7⟩ := h.in_ k hr h3
  have hup := h.n.up c (by omega)
  have hle : b ≤ (L.getD c (0, 0)).2 := by
    rcases Nat.lt_or_eq_of_le (show t ≤ c by omega) with h8 | rfl
    · have := h.n.lt t c h8 (by omega); omega
    · omega
  obtain ⟨q, hq, h8, h9⟩ := h.to (x := (L.getD c (0, 0)).2) (t := c) (by omega) hup.2.1 (Int.le_refl _)
  have hlo := k.lo c (by omega)
  have := h2 q hq (by omega)
  omega
theorem Rp.none_ (h : Rp R L) (k : Lo L c B) (h2 : ∀ r ∈ R, ¬ r.1 < B) : c = 0 := by
  rcases Nat.eq_zero_or_pos c with h3 | h3
  · exact h3
  · have hc := k.le
    have hup := h.n.up 0 (by omega)
    obtain ⟨q, hq, h8, h9⟩ := h.to (x := (L.getD 0 (0, 0)).1) (t := 0) (by omega) (Int.le_refl _) hup.2.1
    have := k.lo 0 h3
    exact absurd (show q.1 < B by omega) (h2 q hq)
theorem Rp.some_ (h : Rp R L) (k : Lo L c B) {r : Int × Int} (hr : r ∈ R) (hb : r.1 < B) : 0 < c := by
  obtain ⟨t, ht, _⟩ := h.in_ k hr hb
  omega
/-- Nobody stands right ahead of a range. -/
theorem Rp.gap (h : Rp R L) {t : Nat} (ht : t < L.length) {r : Int × Int} (hr : r ∈ R) (h1 : r.1 ≤ (L.getD t (0, 0)).1 - 1) (h2 : (L.getD t (0, 0)).1 - 1 ≤ r.2) : False := by
  obtain ⟨u, hu, h5, h6⟩ := h.of hr h1 h2
  have hup := h.n.up t ht
  rcases Nat.lt_trichotomy u t with h7 | h7 | h7
  · have := h.n.lt u t h7 ht; omega
  · subst h7; omega
  · have := h.n.lt t u h7 hu; omega
/-- One step down stays within the range. -/
theorem Rp.down (h : Rp R L) {t : Nat} (ht : t < L.length) {low : Int} (h1 : (L.getD t (0, 0)).1 ≤ low) {r : Int × Int} (hr : r ∈ R) (h3 : r.1 < low) (h4 : low ≤ r.2 + 1) : (L.getD t (0, 0)).1 ≤ r.1 := by
  rcases (show r.1 < (L.getD t (0, 0)).1 ∨ (L.getD t (0, 0)).1 ≤ r.1 by omega) with h5 | h5
  · exact (h.gap ht hr (by omega) (by omega)).elim
  · exact h5
/-- Where no step down is left the range's beginning is reached. -/
theorem Rp.stop (h : Rp R L) {t : Nat} (ht : t < L.length) {low : Int} (h1 : (L.getD t (0, 0)).1 ≤ low) (h2 : low ≤ (L.getD t (0, 0)).2) (h3 : ∀ r ∈ R, ¬ (r.1 < low ∧ low ≤ r.2 + 1)) : low = (L.getD t (0, 0)).1 := by
  rcases (show (L.getD t (0, 0)).1 < low ∨ low ≤ (L.getD t (0, 0)).1 by omega) with h5 | h5
  · obtain ⟨q, hq, h8, h9⟩ := h.to (x := low - 1) ht (by omega) (by omega)
    exact absurd ⟨by omega, by omega⟩ (h3 q hq)
  · omega
/-- A range of L begins where one of R does. -/
theorem Rp.begins (h : Rp R L) {t : Nat} (ht : t < L.length) : ∃ r ∈ R, r.1 = (L.getD t (0, 0)).1 := by
  have hup := h.n.up t ht
  obtain ⟨q, hq, h8, h9⟩ := h.to (x := (L.getD t (0, 0)).1) ht (Int.le_refl _) hup.2.1
  refine ⟨q, hq, ?_⟩
  rcases (show q.1 < (L.getD t (0, 0)).1 ∨ (L.getD t (0, 0)).1 ≤ q.1 by omega) with h5 | h5
  · exact (h.gap ht hq (by omega) (by omega)).elim
  · omega
theorem Lo.next (h : Nm 0 L) (k : Lo L (c + 1) B) : Lo L c (L.getD c (0, 0)).1 := by
  have hc := k.le
  have hup := h.up c (by omega)
  refine ⟨by omega, fun t ht => ?_, fun t ht htl => ?_, by omega, by have := hup.2; simp only [MX] at this; omega⟩
  · have := h.lt t c ht (by omega); omega
  · rcases Nat.lt_or_eq_of_le ht with h1 | rfl
    · have := h.lt c t h1 htl; have := hup.2.1; omega
    · exact Int.le_refl _
theorem Lo.all (h : Nm 0 L) : Lo L L.length 9223372036854775808 :=
  ⟨Nat.le_refl _, fun t ht => by have := (h.up t ht).2.2; simp only [MX] at this; omega, fun t h1 h2 => by omega, by omega, Int.le_refl _⟩
end
end Go.Proofs.Ytcmkegkljappfaa
