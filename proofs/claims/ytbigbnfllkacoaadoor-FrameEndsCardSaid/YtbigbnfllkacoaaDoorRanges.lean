/-
  Slices of pairs of numbers that read as lists of pairs. Plain lemmas; no condition.
-/
import Derived.Test.YtbigbnfllkacoaaDoorRegion
namespace Go.Proofs.YtbigbnfllkacoaaDoor
open Go.RowKit
set_option linter.unusedVariables false
set_option linter.unusedSimpArgs false

/-- The cells of pairs. -/
def pcs (l : List (Int × Int)) : List Value := l.flatMap fun p => [.int .u64 p.1, .int .u64 p.2]
theorem pcs_len (l : List (Int × Int)) : (pcs l).length = l.length * 2 := by
  induction l with
  | nil => rfl
  | cons x r ih =>
    rw [show pcs (x :: r) = [.int .u64 x.1, .int .u64 x.2] ++ pcs r from rfl, List.length_append, ih]
    simp
    omega
theorem pcs_app (a b : List (Int × Int)) : pcs (a ++ b) = pcs a ++ pcs b := List.flatMap_append
theorem pcs_get (l : List (Int × Int)) : ∀ i, i < l.length → (pcs l)[i * 2]? = some (.int .u64 (l.getD i (0, 0)).1) ∧ (pcs l)[i * 2 + 1]? = some (.int .u64 (l.getD i (0, 0)).2) := by
  induction l with
  | nil => intro i h; simp at h
  | cons x r ih =>
    intro i hi
    rw [show pcs (x :: r) = .int .u64 x.1 :: .int .u64 x.2 :: pcs r from rfl]
    cases i with
    | zero => simp
    | succ k =>
      have := ih k (by simpa using hi)
      rw [show (k + 1) * 2 = k * 2 + 2 by omega]
      simpa using this
theorem pcs_take (l : List (Int × Int)) (k : Nat) : pcs (l.take k) = (pcs l).take (k * 2) := by
  induction l generalizing k with
  | nil => simp [pcs]
  | cons x r ih =>
    cases k with
    | zero => simp [pcs]
    | succ k =>
      rw [show (k + 1) * 2 = k * 2 + 2 by omega, show pcs (x :: r) = .int .u64 x.1 :: .int .u64 x.2 :: pcs r from rfl]
      simp only [List.take_succ_cons]
      rw [show pcs (x :: r.take k) = .int .u64 x.1 :: .int .u64 x.2 :: pcs (r.take k) from rfl, ih]
theorem pcs_one (l : List (Int × Int)) : ∀ u ∈ pcs l, u.oneCell' = true := by
  intro u hu
  simp only [pcs, List.mem_flatMap, List.mem_cons, List.not_mem_nil, or_false] at hu
  obtain ⟨p, _, rfl | rfl⟩ := hu <;> rfl

/-- The slice value reads as these pairs. -/
def RdP (w : World) (v : Value) (l : List (Int × Int)) : Prop :=
  ∃ A cap, v = .slice A l.length cap ∧ l.length ≤ cap ∧ cap ≤ maxLen ∧ (A = none → l.length = 0) ∧ RdV w 2 A l.length (pcs l)
section
variable {w w' : World} {v : Value} {l : List (Int × Int)}
theorem SlAt.below' {sz : Nat} {A : Option Addr} {n : Nat} {F : Nat → Nat → Value} (h : SlAt w sz A n F) (hb : Below w.heap.size w w') : SlAt w' sz A n F := h.below hb
theorem RdP.below (h : RdP w v l) (hb : Below w.heap.size w w') : RdP w' v l := by
  obtain ⟨A, cap, e, h1, h2, h3, h4, h5⟩ := h
  exact ⟨A, cap, e, h1, h2, h3, h4, h5.below hb⟩
theorem RdP.alloc (h : RdP w v l) (o : Obj) : RdP (w.alloc o) v l := h.below ((Below.refl _ _).alloc (Nat.le_refl _) o)
theorem RdP.drewN (h : RdP w v l) (n : Nat) : RdP (w.drewN n) v l := h
theorem RdP.drew (h : RdP w v l) : RdP w.drew v l := h
theorem RdP.form (h : RdP w v l) : ∃ A cap, v = .slice A l.length cap := by obtain ⟨A, cap, e, _⟩ := h; exact ⟨A, cap, e⟩
theorem RdP.parts {A : Option Addr} {n cap : Nat} (h : RdP w (.slice A n cap) l) : n = l.length ∧ (A = none → n = 0) ∧ l.length ≤ cap ∧ cap ≤ maxLen ∧ RdV w 2 A n (pcs l) := by
  obtain ⟨A', cap', e, h1, h2, h3, h4⟩ := h
  simp only [Value.slice.injEq] at e
  obtain ⟨rfl, rfl, rfl⟩ := e
  exact ⟨rfl, h3, h1, h2, h4⟩
theorem RdP.nil (w : World) : RdP w (.slice none 0 0) [] := ⟨none, 0, rfl, Nat.le_refl _, Nat.zero_le _, fun _ => rfl, by simp [pcs], fun k hk => absurd hk (by simp)⟩
theorem RdP.at_ {A : Option Addr} {n cap : Nat} (h : RdP w (.slice A n cap) l) (i : Nat) (hi : i < l.length) :
    ∃ b off, A = some ⟨b, off, none⟩ ∧ b < w.heap.size ∧ w.cell? ⟨b, off + i * 2, none⟩ = some (.int .u64 (l.getD i (0, 0)).1) ∧ w.cell? ⟨b, off + i * 2 + 1, none⟩ = some (.int .u64 (l.getD i (0, 0)).2) := by
  obtain ⟨rfl, _, _, _, h4, h5⟩ := h.parts
  obtain ⟨b, off, e, hb, hc⟩ := h5 i hi
  obtain ⟨g0, g1⟩ := pcs_get l i hi
  refine ⟨b, off, e, hb, ?_, ?_⟩
  · have := hc 0 (by decide)
    rw [Nat.add_zero] at this
    rw [this]
    simp [List.getD, g0]
  · have := hc 1 (by decide)
    rw [← Nat.add_assoc] at this
    rw [this]
    simp [List.getD, g1]
theorem rdp_of_own {base : Nat} {e : TypeId} {n : Nat} (h : w.ownsRow base e 2 v n (pcs l)) : RdP w v l := by
  have hl := h.1
  rw [pcs_len] at hl
  have hn : n = l.length := by omega
  subst hn
  obtain ⟨A, cap, e, h1, h2, h3⟩ := sl_of_own h
  refine ⟨A, cap, e, h1, h2, fun hA => ?_, h.1, h3⟩
  rcases h.2 with ⟨_, h0⟩ | ⟨g, c, cur, e', _⟩
  · exact h0
  · rw [e'] at e
    simp only [Value.slice.injEq] at e
    rw [hA] at e
    cases e.1
/-- The first so many. -/
theorem RdP.pre {A : Option Addr} {n cap : Nat} (h : RdP w (.slice A n cap) l) {m : Nat} (hm : m ≤ l.length) : RdP w (.slice A m cap) (l.take m) := by
  obtain ⟨rfl, h1, h2, h3, h4, h5⟩ := h.parts
  have hl : (l.take m).length = m := by simp; omega
  refine ⟨A, cap, by rw [hl], by omega, h3, fun e => by have := h1 e; omega, by rw [pcs_len], fun k hk => ?_⟩
  rw [hl] at hk
  obtain ⟨b, off, e, hb, hc⟩ := h5 k (by omega)
  refine ⟨b, off, e, hb, fun j hj => ?_⟩
  rw [hc j hj, pcs_take]
  simp only [List.getD, List.getElem?_take]
  rw [if_pos (by omega)]
theorem RdP.emp (w : World) (A : Option Addr) (cap : Nat) (hc : cap ≤ maxLen) : RdP w (.slice A 0 cap) [] := ⟨A, cap, rfl, Nat.zero_le _, hc, fun _ => rfl, by simp [pcs], fun k hk => absurd hk (by simp)⟩
end

/-- A store into a row of the call's own. -/
theorem own_put {w : World} {base : Nat} {e : TypeId} {size : Nat} {g n cap : Nat} {xs : List Value} (h : w.ownsRow base e size (.slice (some ⟨g, 0, none⟩) n cap) n xs) (j : Nat) (hj : j < n * size) (u : Value) :
    (w.setCell ⟨g, j, none⟩ u).ownsRow base e size (.slice (some ⟨g, 0, none⟩) n cap) n (xs.set j u) := by
  rcases h.2 with ⟨h', _⟩ | ⟨g', cap', cur, h', hb, hg, hn, hc, hs, ht⟩
  · simp at h'
  · simp only [Value.slice.injEq, Option.some.injEq, Addr.mk.injEq, and_true, true_and] at h'
    obtain ⟨rfl, rfl⟩ := h'
    refine ⟨by rw [List.length_set]; exact h.1, .inr ⟨g, cap, cur.setIfInBounds j u, rfl, hb, ?_, hn, hc, by simpa using hs, ?_⟩⟩
    · have : Blk w g e cur := hg
      exact this.set_ j u
    · rw [Array.toList_setIfInBounds, ← ht, List.take_set]
theorem own_cell_at {w : World} {base : Nat} {e : TypeId} {size : Nat} {g n cap : Nat} {xs : List Value} (h : w.ownsRow base e size (.slice (some ⟨g, 0, none⟩) n cap) n xs) (j : Nat) (hj : j < n * size) :
    w.cell? ⟨g, j, none⟩ = some (xs.getD j undef) ∧ w.frozen? ⟨g, j, none⟩ = false := by
  constructor
  · rw [World.ownsRow.cellAt h j hj]
    have hl : j < xs.length := by have := h.1; omega
    simp [hl]
  · rcases h.2 with ⟨h', _⟩ | ⟨g', cap', cur, h', hb, hg, _⟩
    · simp at h'
    · simp only [Value.slice.injEq, Option.some.injEq, Addr.mk.injEq, and_true, true_and] at h'
      obtain ⟨rfl, rfl⟩ := h'
      exact Blk.frozen (t := e) hg j
end Go.Proofs.YtbigbnfllkacoaaDoor
