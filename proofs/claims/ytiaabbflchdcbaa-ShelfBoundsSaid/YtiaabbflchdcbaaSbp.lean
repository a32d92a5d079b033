/-
  Plain: groups go as a whole. No condition.
-/
import Derived.Test.YtiaabbflchdcbaaSdrw
namespace Go.Proofs.Ytiaabbflchdcbaa
open Go.RowKit
set_option linter.unusedVariables false
set_option linter.unusedSimpArgs false

section
variable {room c : Int} {s : PS} {x : Lot}
/-- What stays, stays by groups; the object's own group stays. -/
theorem pevict_whole : ∀ (k : Nat) (s : PS), s.Ok room → zget s.Z x + c ≤ room → ∃ q : Lot → Bool, (pevict x c room k s).E = s.E.filter (fun e => q e.lot) ∧ q x = true
  | 0, s, h, hz => ⟨fun _ => true, by rw [pevict]; exact (List.filter_eq_self.2 (fun _ _ => rfl)).symm, rfl⟩
  | k + 1, s, h, hz => by
    rw [pevict]
    split
    · exact ⟨fun _ => true, (List.filter_eq_self.2 (fun _ _ => rfl)).symm, rfl⟩
    · next h2 =>
      obtain ⟨z, h3, h4⟩ := pvic_some h hz (by omega)
      obtain ⟨q, hq, hqx⟩ := pevict_whole k (pdrop1 x s) (pdrop1_ok h x) (by rw [pdrop1_zget h3 h4]; exact hz)
      refine ⟨fun y => q y && !decide (y = z.1), ?_, by simp [hqx, Ne.symm h4]⟩
      rw [hq, pdrop1_eq h3]
      show (s.E.filter _).filter _ = _
      rw [List.filter_filter]
end
/-- What was put of one group. -/
structure GR where
  k : List Int
  g : Int
  L : List En
structure GR.Ok (r : GR) (s : PS) : Prop where
  ne : nameE r.k = 0
  kb : BytesOk r.k
  gb : U64 r.g
  nn : r.L ≠ []
  le : r.L.length ≤ 50
  nb : ∀ y ∈ r.L, U64 y.n
  al : ∀ y ∈ r.L, y ∈ s.E ∧ y.t = padT r.k ∧ y.g = r.g
/-- Behind a Put that isn't refused. -/
theorem put_whole {room g n p : Int} {s : PS} {l d : List Int} (h : s.Ok room) (h0 : (pput room s l g n p d).1 = 0) :
    nameE l = 0 ∧ ∃ q : Lot → Bool, q (padT l, g) = true ∧ (pput room s l g n p d).2.E = s.E.filter (fun e => q e.lot) ++ [⟨padT l, g, n, p, d⟩] := by
  by_cases h1 : nameE l = 0
  · by_cases h2 : ∃ y ∈ s.E, y.is (padT l) g n
    · have e1 : pput room s l g n p d = (7, s) := by unfold pput; rw [if_neg (by simpa using h1), if_pos h2]
      rw [e1] at h0; simp at h0
    · by_cases h3 : room < zget s.Z (padT l, g) + ((d.length : Int) + 16)
      · have e1 : pput room s l g n p d = (3, s) := by unfold pput; rw [if_neg (by simpa using h1), if_neg h2, if_pos h3]
        rw [e1] at h0; simp at h0
      · rw [pput_in h1 h2 (by omega)]
        obtain ⟨q, hq, hqx⟩ := pevict_whole (x := (padT l, g)) (c := (d.length : Int) + 16) s.Z.length s h (by omega)
        exact ⟨h1, q, hqx, by rw [← hq]⟩
  · have e1 : pput room s l g n p d = (nameE l, s) := by unfold pput; rw [if_pos h1]
    rw [e1] at h0; exact absurd h0 h1
theorem pget_in {s : PS} {l : List Int} {g n : Int} (h : nameE l = 0) : pget s l g n = eget s.E (padT l) g n := by unfold pget; rw [if_neg (by simpa using h)]
/-- What is put is there. -/
theorem put_there {room g n p : Int} {s : PS} {l d : List Int} (h : s.Ok room) (h0 : (pput room s l g n p d).1 = 0) : pget (pput room s l g n p d).2 l g n = some ⟨padT l, g, n, p, d⟩ := by
  obtain ⟨h1, q, hqx, hE⟩ := put_whole h h0
  rw [pget_in h1]
  exact eget_mem (pput_okP (l := l) (g := g) (n := n) (p := p) (d := d) h).nde (by rw [hE]; simp) ⟨rfl, rfl, rfl⟩
/-- A group is there wholly, or not at all. -/
theorem put_group {room g n p : Int} {s : PS} {l d : List Int} (h : s.Ok room) (h0 : (pput room s l g n p d).1 = 0) (r : GR) (hr : r.Ok s) :
    ((∀ y ∈ r.L, (pget (pput room s l g n p d).2 r.k y.g y.n).isSome = true) ∧ r.Ok (pput room s l g n p d).2) ∨ ((∀ y ∈ r.L, (pget (pput room s l g n p d).2 r.k y.g y.n).isSome = false) ∧ ¬ (padT r.k = padT l ∧ r.g = g)) := by
  obtain ⟨h1, q, hqx, hE⟩ := put_whole h h0
  have hnd := (pput_okP (l := l) (g := g) (n := n) (p := p) (d := d) h).nde
  by_cases hq : q (padT r.k, r.g) = true
  · have hin : ∀ y ∈ r.L, y ∈ (pput room s l g n p d).2.E := fun y hy => by
      obtain ⟨h2, h3, h4⟩ := hr.al y hy
      rw [hE]
      refine List.mem_append_left _ (List.mem_filter.2 ⟨h2, ?_⟩)
      show q (y.t, y.g) = true
      rw [h3, h4]; exact hq
    refine .inl ⟨fun y hy => ?_, ⟨hr.ne, hr.kb, hr.gb, hr.nn, hr.le, hr.nb, fun y hy => ⟨hin y hy, (hr.al y hy).2⟩⟩⟩
    obtain ⟨h2, h3, h4⟩ := hr.al y hy
    rw [pget_in hr.ne, eget_mem hnd (hin y hy) ⟨h3, rfl, rfl⟩]
    rfl
  · have hne : ¬ (padT r.k = padT l ∧ r.g = g) := fun e => hq (by rw [e.1, e.2]; exact hqx)
    refine .inr ⟨fun y hy => ?_, hne⟩
    obtain ⟨h2, h3, h4⟩ := hr.al y hy
    rw [pget_in hr.ne]
    cases hg : eget (pput room s l g n p d).2.E (padT r.k) y.g y.n with
    | none => rfl
    | some z =>
      obtain ⟨hz, hzk⟩ := eget_some hg
      rw [hE] at hz
      rcases List.mem_append.1 hz with hz | hz
      · have := (List.mem_filter.1 hz).2
        simp only [En.lot] at this
        rw [hzk.1, hzk.2.1, h4] at this
        exact absurd this hq
      · simp only [List.mem_singleton] at hz
        subst hz
        exact absurd ⟨hzk.1.symm, by rw [← h4]; exact hzk.2.1.symm⟩ hne
theorem nameE_len {l : List Int} (h : nameE l = 0) : l.length ≤ 32 := by
  unfold nameE at h
  split at h
  · omega
  · split at h
    · omega
    · omega
theorem padT_inj {a b : List Int} (ha : nameE a = 0) (hb : nameE b = 0) (h : padT a = padT b) : a = b := by
  have key : ∀ l : List Int, nameE l = 0 → l ≠ [] ∧ l.length ≤ 32 ∧ l.getD (l.length - 1) 0 ≠ 0 := fun l hl => by
    unfold nameE at hl
    split at hl
    · omega
    · split at hl
      · omega
      · split at hl
        · omega
        · next h1 h2 h3 => exact ⟨h1, by omega, h3⟩
  have hl : ∀ l : List Int, nameE l = 0 → ∀ i, (padT l).getD i 0 = l.getD i 0 := fun l hl i => by
    unfold padT
    by_cases hi : i < l.length
    · simp [List.getD, List.getElem?_append_left hi]
    · simp only [List.getD, List.getElem?_append_right (Nat.not_lt.1 hi), List.getElem?_replicate, List.getElem?_eq_none (Nat.not_lt.1 hi)]
      split <;> rfl
  have hg : ∀ i, a.getD i 0 = b.getD i 0 := fun i => by rw [← hl a ha, ← hl b hb, h]
  have hlen : ∀ a b : List Int, nameE a = 0 → (∀ i, a.getD i 0 = b.getD i 0) → a.length ≤ b.length := fun a b ha hg => by
    refine Nat.not_lt.1 fun hlt => ?_
    obtain ⟨h1, _, h3⟩ := key a ha
    refine h3 ?_
    have := List.length_pos_iff.2 h1
    rw [hg]
    simp [List.getD, List.getElem?_eq_none (show b.length ≤ a.length - 1 by omega)]
  have he : a.length = b.length := Nat.le_antisymm (hlen a b ha hg) (hlen b a hb (fun i => (hg i).symm))
  apply List.ext_getElem he
  intro i h1 h2
  have := hg i
  simpa [List.getD, h1, h2] using this

end Go.Proofs.Ytiaabbflchdcbaa
