/-
  Sets of numbers as rising ranges: plain laws of adding, cutting, trimming; two normal lists of the same numbers are one. No condition.
-/
import Derived.Lib.Hide
namespace Go.Proofs.Ytcmkegkljappfaa
set_option linter.unusedVariables false
set_option linter.unusedSimpArgs false

abbrev MX : Int := 4611686018427387903
/-- Ranges, rising from b on, with a number or more between any two. -/
def Nm (b : Int) : List (Int × Int) → Prop
  | [] => True
  | r :: T => b ≤ r.1 ∧ r.1 ≤ r.2 ∧ r.2 ≤ MX ∧ Nm (r.2 + 2) T
def Mm (L : List (Int × Int)) (n : Int) : Prop := ∃ r ∈ L, r.1 ≤ n ∧ n ≤ r.2
instance (L : List (Int × Int)) (n : Int) : Decidable (Mm L n) := by unfold Mm; infer_instance
theorem Mm.nil {n : Int} : ¬ Mm [] n := fun ⟨r, h, _⟩ => by simp at h
theorem Mm.cons {r : Int × Int} {T : List (Int × Int)} {n : Int} : Mm (r :: T) n ↔ (r.1 ≤ n ∧ n ≤ r.2) ∨ Mm T n := by
  unfold Mm
  constructor
  · rintro ⟨q, hq, h⟩
    rcases List.mem_cons.1 hq with rfl | hq
    · exact .inl h
    · exact .inr ⟨q, hq, h⟩
  · rintro (h | ⟨q, hq, h⟩)
    · exact ⟨r, by simp, h⟩
    · exact ⟨q, by simp [hq], h⟩
theorem Mm.app {A B : List (Int × Int)} {n : Int} : Mm (A ++ B) n ↔ Mm A n ∨ Mm B n := by
  induction A with
  | nil => simp [Mm.nil]
  | cons r A ih => rw [List.cons_append, Mm.cons, ih, Mm.cons, or_assoc]
theorem Mm.rev {A : List (Int × Int)} {n : Int} : Mm A.reverse n ↔ Mm A n := by unfold Mm; simp
theorem Nm.mono {b c : Int} {L : List (Int × Int)} (h : Nm b L) (hc : c ≤ b) : Nm c L := by
  cases L with
  | nil => trivial
  | cons r T => exact ⟨Int.le_trans hc h.1, h.2⟩
theorem Nm.ge {b : Int} {L : List (Int × Int)} (h : Nm b L) {n : Int} (hn : Mm L n) : b ≤ n := by
  induction L generalizing b with
  | nil => exact absurd hn Mm.nil
  | cons r T ih =>
    obtain ⟨h1, h2, h3, h4⟩ := h
    rcases Mm.cons.1 hn with h | h
    · omega
    · have := ih h4 h
      omega
theorem Nm.le {b : Int} {L : List (Int × Int)} (h : Nm b L) {n : Int} (hn : Mm L n) : n ≤ MX := by
  induction L generalizing b with
  | nil => exact absurd hn Mm.nil
  | cons r T ih =>
    obtain ⟨h1, h2, h3, h4⟩ := h
    rcases Mm.cons.1 hn with h | h
    · omega
    · exact ih h4 h
/-- Two normal lists of the same numbers are one. -/
theorem nm_one {b c : Int} {L K : List (Int × Int)} (h : Nm b L) (k : Nm c K) (e : ∀ n, Mm L n ↔ Mm K n) : L = K := by
  induction L generalizing b c K with
  | nil =>
    cases K with
    | nil => rfl
    | cons q K =>
      obtain ⟨k1, k2, k3, k4⟩ := k
      exact absurd ((e q.1).2 (Mm.cons.2 (.inl ⟨Int.le_refl _, k2⟩))) Mm.nil
  | cons r T ih =>
    obtain ⟨h1, h2, h3, h4⟩ := h
    cases K with
    | nil => exact absurd ((e r.1).1 (Mm.cons.2 (.inl ⟨Int.le_refl _, h2⟩))) Mm.nil
    | cons q K =>
      obtain ⟨k1, k2, k3, k4⟩ := k
      have e1 : r.1 = q.1 := by
        have a := (e r.1).1 (Mm.cons.2 (.inl ⟨Int.le_refl _, h2⟩))
        have b := (e q.1).2 (Mm.cons.2 (.inl ⟨Int.le_refl _, k2⟩))
        rcases Mm.cons.1 a with a | a <;> rcases Mm.cons.1 b with b | b
        · omega
        · have := h4.ge b; omega
        · have := k4.ge a; omega
        · have := h4.ge b; have := k4.ge a; omega
      have e2 : r.2 = q.2 := by
        rcases Int.lt_trichotomy r.2 q.2 with hlt | he | hlt
        · have a := (e (r.2 + 1)).2 (Mm.cons.2 (.inl ⟨by omega, by omega⟩))
          rcases Mm.cons.1 a with a | a
          · omega
          · have := h4.ge a; omega
        · exact he
        · have a := (e (q.2 + 1)).1 (Mm.cons.2 (.inl ⟨by omega, by omega⟩))
          rcases Mm.cons.1 a with a | a
          · omega
          · have := k4.ge a; omega
      have e3 : r = q := Prod.ext e1 e2
      subst e3
      congr 1
      refine ih h4 k4 fun n => ?_
      constructor
      · intro a
        have hg := h4.ge a
        rcases Mm.cons.1 ((e n).1 (Mm.cons.2 (.inr a))) with b | b
        · omega
        · exact b
      · intro a
        have hg := k4.ge a
        rcases Mm.cons.1 ((e n).2 (Mm.cons.2 (.inr a))) with b | b
        · omega
        · exact b

/-! Where a number's place is. -/
def pl (n : Int) : List (Int × Int) → Nat
  | [] => 0
  | r :: T => if r.2 < n then pl n T + 1 else 0
theorem pl_le (n : Int) (L : List (Int × Int)) : pl n L ≤ L.length := by
  induction L with
  | nil => exact Nat.le_refl _
  | cons r T ih =>
    unfold pl
    split <;> simp
    exact ih
theorem pl_lt (n : Int) (L : List (Int × Int)) : ∀ t, t < pl n L → (L.getD t (0, 0)).2 < n := by
  induction L with
  | nil => intro t h; simp [pl] at h
  | cons r T ih =>
    intro t h
    unfold pl at h
    split at h
    · cases t with
      | zero => simpa using by assumption
      | succ t => simpa using ih t (by omega)
    · omega
theorem Nm.up {b : Int} {L : List (Int × Int)} (h : Nm b L) : ∀ t, t < L.length → b ≤ (L.getD t (0, 0)).1 ∧ (L.getD t (0, 0)).1 ≤ (L.getD t (0, 0)).2 ∧ (L.getD t (0, 0)).2 ≤ MX := by
  induction L generalizing b with
  | nil => intro t h; simp at h
  | cons r T ih =>
    obtain ⟨h1, h2, h3, h4⟩ := h
    intro t ht
    cases t with
    | zero => simpa using ⟨h1, h2, h3⟩
    | succ t =>
      have := ih h4 t (by simpa using ht)
      simp only [List.getD_cons_succ]
      exact ⟨by omega, this.2⟩
theorem Nm.lt {b : Int} {L : List (Int × Int)} (h : Nm b L) : ∀ t u, t < u → u < L.length → (L.getD t (0, 0)).2 + 1 < (L.getD u (0, 0)).1 := by
  induction L generalizing b with
  | nil => intro t u _ h; simp at h
  | cons r T ih =>
    obtain ⟨h1, h2, h3, h4⟩ := h
    intro t u htu hu
    cases u with
    | zero => omega
    | succ u =>
      cases t with
      | zero =>
        have := (h4.up u (by simpa using hu)).1
        simp only [List.getD_cons_zero, List.getD_cons_succ]
        omega
      | succ t => simpa using ih h4 t u (by omega) (by simpa using hu)
theorem pl_ge {b : Int} {L : List (Int × Int)} (h : Nm b L) (n : Int) : ∀ t, pl n L ≤ t → t < L.length → n ≤ (L.getD t (0, 0)).2 := by
  induction L generalizing b with
  | nil => intro t _ h; simp at h
  | cons r T ih =>
    have h' := h
    obtain ⟨h1, h2, h3, h4⟩ := h
    intro t hp ht
    unfold pl at hp
    split at hp
    · cases t with
      | zero => omega
      | succ t => simpa using ih h4 t (by omega) (by simpa using ht)
    · cases t with
      | zero => simp; omega
      | succ t =>
        have := h'.lt 0 (t + 1) (by omega) ht
        have := (h'.up (t + 1) ht).2.1
        simp only [List.getD_cons_zero] at *
        omega
/-- A place is known by what it says. -/
theorem pl_eq {b : Int} {L : List (Int × Int)} (h : Nm b L) (n : Int) (i : Nat) (hi : i ≤ L.length) (h1 : ∀ t, t < i → (L.getD t (0, 0)).2 < n) (h2 : ∀ t, i ≤ t → t < L.length → n ≤ (L.getD t (0, 0)).2) : i = pl n L := by
  rcases Nat.lt_trichotomy i (pl n L) with hlt | he | hlt
  · have a := pl_lt n L i hlt
    have b := h2 i (Nat.le_refl _) (by have := pl_le n L; omega)
    omega
  · exact he
  · have a := h1 (pl n L) hlt
    have b := pl_ge h n (pl n L) (Nat.le_refl _) (by omega)
    omega

/-! Adding. -/
def mg (f t : Int) : List (Int × Int) → List (Int × Int)
  | [] => [(f, t)]
  | r :: T => if r.1 ≤ t + 1 then mg (min f r.1) (max t r.2) T else (f, t) :: r :: T
def ad (f t : Int) : List (Int × Int) → List (Int × Int)
  | [] => [(f, t)]
  | r :: T => if r.2 + 1 < f then r :: ad f t T else mg f t (r :: T)
theorem mg_law {b : Int} {L : List (Int × Int)} (h : Nm b L) {f t c : Int} (h0 : c ≤ f) (hcb : c ≤ b) (h1 : f ≤ t) (h2 : t ≤ MX) (hl : ∀ r, L.head? = some r → f ≤ r.2 + 1) :
    Nm c (mg f t L) ∧ ∀ n, Mm (mg f t L) n ↔ Mm L n ∨ (f ≤ n ∧ n ≤ t) := by
  induction L generalizing b f t with
  | nil => exact ⟨⟨h0, h1, h2, trivial⟩, fun n => by simp [mg, Mm.cons, Mm.nil]⟩
  | cons r T ih =>
    obtain ⟨k1, k2, k3, k4⟩ := h
    have hl1 := hl r rfl
    unfold mg
    split
    · next hc =>
      obtain ⟨g1, g2⟩ := ih k4 (f := min f r.1) (t := max t r.2) (by omega) (by omega) (by omega) (by omega) (fun q hq => by
        cases T with
        | nil => simp at hq
        | cons q' T =>
          simp only [List.head?_cons, Option.some.injEq] at hq
          subst hq
          have := k4.1
          have := k4.2.1
          omega)
      refine ⟨g1, fun n => ?_⟩
      rw [g2 n, Mm.cons]
      constructor
      · rintro (a | a)
        · exact .inl (.inr a)
        · by_cases hn : r.1 ≤ n ∧ n ≤ r.2
          · exact .inl (.inl hn)
          · right; omega
      · rintro ((a | a) | a)
        · right; omega
        · exact .inl a
        · right; omega
    · next hc =>
      exact ⟨⟨h0, h1, h2, by omega, k2, k3, k4⟩, fun n => by rw [Mm.cons]; exact or_comm⟩
theorem ad_law {b : Int} {L : List (Int × Int)} (h : Nm b L) {f t c : Int} (h0 : c ≤ f) (hcb : c ≤ b) (h1 : f ≤ t) (h2 : t ≤ MX) :
    Nm c (ad f t L) ∧ ∀ n, Mm (ad f t L) n ↔ Mm L n ∨ (f ≤ n ∧ n ≤ t) := by
  induction L generalizing b c with
  | nil => exact ⟨⟨h0, h1, h2, trivial⟩, fun n => by simp [ad, Mm.cons, Mm.nil]⟩
  | cons r T ih =>
    unfold ad
    split
    · next hc =>
      obtain ⟨k1, k2, k3, k4⟩ := h
      obtain ⟨g1, g2⟩ := ih k4 (c := r.2 + 2) (by omega) (Int.le_refl _)
      refine ⟨⟨by omega, k2, k3, g1⟩, fun n => ?_⟩
      rw [Mm.cons, g2 n, Mm.cons, or_assoc]
    · next hc => exact mg_law h h0 hcb h1 h2 (fun q hq => by simp at hq; subst hq; omega)
theorem ad_take {b : Int} {L : List (Int × Int)} (h : Nm b L) (hb : 0 ≤ b) (f t : Int) : L.take (pl (max f 1 - 1) L) ++ mg f t (L.drop (pl (max f 1 - 1) L)) = ad f t L := by
  induction L generalizing b with
  | nil => rfl
  | cons r T ih =>
    obtain ⟨k1, k2, k3, k4⟩ := h
    unfold pl ad
    by_cases hc : r.2 < max f 1 - 1
    · rw [if_pos hc, if_pos (by omega)]
      simp only [List.take_succ_cons, List.drop_succ_cons, List.cons_append]
      rw [ih k4 (by omega)]
    · rw [if_neg hc, if_neg (by omega)]
      rfl
theorem ad_len (f t : Int) (L : List (Int × Int)) : (ad f t L).length ≤ L.length + 1 := by
  have hm : ∀ (L : List (Int × Int)) (f t : Int), (mg f t L).length ≤ L.length + 1 := by
    intro L
    induction L with
    | nil => intro f t; simp [mg]
    | cons r T ih =>
      intro f t
      unfold mg
      split
      · have := ih (min f r.1) (max t r.2); simp; omega
      · simp
  induction L with
  | nil => simp [ad]
  | cons r T ih =>
    unfold ad
    split
    · simp; omega
    · exact hm _ _ _

/-! Cutting. -/
def ct1 (f t : Int) (r : Int × Int) : List (Int × Int) :=
  if r.2 < f ∨ t < r.1 then [r] else (if r.1 < f then [(r.1, f - 1)] else []) ++ (if t < r.2 then [(t + 1, r.2)] else [])
def ct (f t : Int) (L : List (Int × Int)) : List (Int × Int) := L.flatMap (ct1 f t)
theorem ct_mem (f t : Int) (hft : f ≤ t) (L : List (Int × Int)) (n : Int) : Mm (ct f t L) n ↔ Mm L n ∧ ¬ (f ≤ n ∧ n ≤ t) := by
  induction L with
  | nil => simp [ct, Mm.nil]
  | cons r T ih =>
    rw [show ct f t (r :: T) = ct1 f t r ++ ct f t T from rfl, Mm.app, ih, Mm.cons]
    have key : Mm (ct1 f t r) n ↔ (r.1 ≤ n ∧ n ≤ r.2) ∧ ¬ (f ≤ n ∧ n ≤ t) := by
      unfold ct1
      split
      · rw [Mm.cons]; simp only [Mm.nil, or_false]; omega
      · split <;> split <;> simp only [List.nil_append, List.cons_append, Mm.cons, Mm.nil, or_false, false_iff] <;> omega
    rw [key]
    constructor
    · rintro (⟨a, b⟩ | ⟨a, b⟩)
      · exact ⟨.inl a, b⟩
      · exact ⟨.inr a, b⟩
    · rintro ⟨a | a, b⟩
      · exact .inl ⟨a, b⟩
      · exact .inr ⟨a, b⟩
theorem ct_nm (f t : Int) (hft : f ≤ t) {b : Int} {L : List (Int × Int)} (h : Nm b L) : Nm b (ct f t L) := by
  induction L generalizing b with
  | nil => trivial
  | cons r T ih =>
    obtain ⟨k1, k2, k3, k4⟩ := h
    have hi := ih k4
    rw [show ct f t (r :: T) = ct1 f t r ++ ct f t T from rfl]
    unfold ct1
    split
    · exact ⟨k1, k2, k3, hi⟩
    · split <;> split
      · exact ⟨k1, by omega, by omega, by omega, by omega, by omega, hi⟩
      · exact ⟨k1, by simp; omega, by simp; omega, hi.mono (by simp; omega)⟩
      · exact ⟨by simp; omega, by simp; omega, by simp; omega, hi⟩
      · exact hi.mono (by omega)
theorem ct_len (f t : Int) (L : List (Int × Int)) : (ct f t L).length ≤ 2 * L.length := by
  induction L with
  | nil => simp [ct]
  | cons r T ih =>
    rw [show ct f t (r :: T) = ct1 f t r ++ ct f t T from rfl, List.length_append]
    have : (ct1 f t r).length ≤ 2 := by
      unfold ct1
      split
      · simp
      · split <;> split <;> simp
    simp
    omega
theorem ct_take (f t : Int) (L : List (Int × Int)) (k : Nat) (hk : k < L.length) : ct f t (L.take (k + 1)) = ct f t (L.take k) ++ ct1 f t (L.getD k (0, 0)) := by
  have e : L.getD k (0, 0) = L[k] := by simp [List.getD, hk]
  rw [e, List.take_succ_eq_append_getElem hk, ct, List.flatMap_append]
  simp [ct]
/-- A normal list cut is but by one longer. -/
theorem ct_len1 (f t : Int) (hft : f ≤ t) {b : Int} {L : List (Int × Int)} (h : Nm b L) : (ct f t L).length ≤ L.length + 1 := by
  have low : ∀ (L : List (Int × Int)) (b : Int), Nm b L → f ≤ b → (ct f t L).length ≤ L.length := by
    intro L
    induction L with
    | nil => intro b _ _; simp [ct]
    | cons r T ih =>
      intro b h hb
      obtain ⟨k1, k2, k3, k4⟩ := h
      have := ih _ k4 (by omega)
      rw [show ct f t (r :: T) = ct1 f t r ++ ct f t T from rfl, List.length_append]
      have : (ct1 f t r).length ≤ 1 := by
        unfold ct1
        split
        · simp
        · rw [if_neg (by omega)]
          split <;> simp
      simp
      omega
  induction L generalizing b with
  | nil => simp [ct]
  | cons r T ih =>
    obtain ⟨k1, k2, k3, k4⟩ := h
    rw [show ct f t (r :: T) = ct1 f t r ++ ct f t T from rfl, List.length_append]
    by_cases hc : r.2 < f
    · have := ih k4
      have : (ct1 f t r).length = 1 := by unfold ct1; rw [if_pos (.inl hc)]; rfl
      simp
      omega
    · have := low T _ k4 (by omega)
      have : (ct1 f t r).length ≤ 2 := by
        unfold ct1
        split
        · simp
        · split <;> split <;> simp
      simp
      omega

/-! Trimming. -/
theorem Nm.drop {b : Int} {L : List (Int × Int)} (h : Nm b L) (k : Nat) : Nm b (L.drop k) := by
  induction k generalizing b L with
  | zero => exact h
  | succ k ih =>
    cases L with
    | nil => trivial
    | cons r T =>
      obtain ⟨k1, k2, k3, k4⟩ := h
      exact (ih k4).mono (by omega)
theorem Nm.at_ {b : Int} {L : List (Int × Int)} (h : Nm b L) {n : Int} : Mm L n ↔ ∃ t, t < L.length ∧ (L.getD t (0, 0)).1 ≤ n ∧ n ≤ (L.getD t (0, 0)).2 := by
  unfold Mm
  constructor
  · rintro ⟨r, hr, hh⟩
    obtain ⟨t, ht, rfl⟩ := List.getElem_of_mem hr
    exact ⟨t, ht, by simpa [List.getD, ht] using hh⟩
  · rintro ⟨t, ht, hh⟩
    refine ⟨L[t], List.getElem_mem ht, by simpa [List.getD, ht] using hh⟩
/-- What a place says of a number. -/
theorem has_pl {b : Int} {L : List (Int × Int)} (h : Nm b L) (n : Int) : Mm L n ↔ pl n L < L.length ∧ (L.getD (pl n L) (0, 0)).1 ≤ n := by
  rw [h.at_]
  constructor
  · rintro ⟨t, ht, h1, h2⟩
    have : t = pl n L := by
      refine pl_eq h n t (by omega) (fun u hu => ?_) (fun u hu hul => ?_)
      · have := h.lt u t hu ht; omega
      · rcases Nat.lt_or_eq_of_le hu with hlt | rfl
        · have := h.lt t u hlt hul
          have := (h.up u hul).2.1
          omega
        · exact h2
    subst this
    exact ⟨ht, h1⟩
  · rintro ⟨h1, h2⟩
    exact ⟨_, h1, h2, pl_ge h n _ (Nat.le_refl _) h1⟩

end Go.Proofs.Ytcmkegkljappfaa
