/-
  Plain: Put keeps a shelf right. No condition.
-/
import Derived.Test.YtiaabbflchdcbaaSps
namespace Go.Proofs.Ytiaabbflchdcbaa
open Go.RowKit
set_option linter.unusedVariables false
set_option linter.unusedSimpArgs false

section
variable {room c : Int} {s : PS} {x : Lot}
theorem pvic_some (h : s.Ok room) (hz : zget s.Z x + c ≤ room) (hgt : room < s.used + c) : ∃ z, s.Z[vic x s.Z]? = some z ∧ z.1 ≠ x :=
  vic_some (s := ⟨[], s.Z, s.used⟩) ⟨h.sum, h.pos⟩ h.ndz hz hgt
theorem pdrop1_eq {z : Lot × Int} (h : s.Z[vic x s.Z]? = some z) : pdrop1 x s = ⟨s.E.filter (fun e => !decide (e.lot = z.1)), s.Z.eraseIdx (vic x s.Z), s.used - z.2, s.T⟩ := by unfold pdrop1; rw [h]
theorem pdrop1_zget {z : Lot × Int} (h : s.Z[vic x s.Z]? = some z) (hne : z.1 ≠ x) : zget (pdrop1 x s).Z x = zget s.Z x := by
  rw [pdrop1_eq h]; exact zget_erase h hne
theorem pevict_fits : ∀ (k : Nat) (s : PS), s.Ok room → zget s.Z x + c ≤ room → s.Z.length ≤ k → (pevict x c room k s).used + c ≤ room ∧ zget (pevict x c room k s).Z x = zget s.Z x
  | 0, s, h, hz, hk => by
    have h1 := h.sum
    have hZ : s.Z = [] := List.eq_nil_of_length_eq_zero (by omega)
    rw [hZ] at h1 hz
    simp [zsum, zget] at h1 hz
    exact ⟨by show s.used + c ≤ room; omega, rfl⟩
  | k + 1, s, h, hz, hk => by
    rw [pevict]
    split
    · next h2 => exact ⟨h2, rfl⟩
    · next h2 =>
      obtain ⟨z, h3, h4⟩ := pvic_some h hz (by omega)
      have h5 := pdrop1_zget h3 h4
      have h6 := pevict_fits k (pdrop1 x s) (pdrop1_ok h x) (by rw [h5]; exact hz) (by
        rw [pdrop1_eq h3]
        show (s.Z.eraseIdx _).length ≤ k
        rw [List.length_eraseIdx, if_pos (List.getElem?_eq_some_iff.1 h3).1]
        omega)
      rw [h5] at h6
      exact h6
/-- Put of one that isn't refused. -/
theorem pput_in {l : List Int} {g n p : Int} {d : List Int} (h1 : nameE l = 0) (h2 : ¬ ∃ y ∈ s.E, y.is (padT l) g n) (h3 : zget s.Z (padT l, g) + ((d.length : Int) + 16) ≤ room) :
    pput room s l g n p d = (0, ⟨(pevict (padT l, g) ((d.length : Int) + 16) room s.Z.length s).E ++ [⟨padT l, g, n, p, d⟩], zadd (pevict (padT l, g) ((d.length : Int) + 16) room s.Z.length s).Z (padT l, g) ((d.length : Int) + 16), (pevict (padT l, g) ((d.length : Int) + 16) room s.Z.length s).used + ((d.length : Int) + 16), tadd s.T (padT l) g n⟩) := by
  unfold pput; rw [if_neg (by simpa using h1), if_neg h2, if_neg (by omega)]
theorem zadd_nd {Z : List (Lot × Int)} (h : (Z.map (·.1)).Nodup) : ((zadd Z x c).map (·.1)).Nodup := by
  rw [zadd_fst]
  split
  · exact h
  · next hn =>
    rw [List.nodup_append]
    refine ⟨h, by simp, fun a ha b hb e => ?_⟩
    simp only [List.mem_singleton] at hb
    obtain ⟨z, hz, hz2⟩ := List.mem_map.1 ha
    exact hn ⟨z, hz, by rw [hz2, e, hb]⟩
theorem pput_okP {l : List Int} {g n p : Int} {d : List Int} (h : s.Ok room) : (pput room s l g n p d).2.Ok room := by
  by_cases h1 : nameE l = 0
  · by_cases h2 : ∃ y ∈ s.E, y.is (padT l) g n
    · unfold pput; rw [if_neg (by simpa using h1), if_pos h2]; exact h
    · by_cases h3 : room < zget s.Z (padT l, g) + ((d.length : Int) + 16)
      · unfold pput; rw [if_neg (by simpa using h1), if_neg h2, if_pos h3]; exact h
      · rw [pput_in h1 h2 (by omega)]
        obtain ⟨hf, hg⟩ := pevict_fits (x := (padT l, g)) (c := (d.length : Int) + 16) s.Z.length s h (by omega) (Nat.le_refl _)
        have hk := pevict_okS (padT l, g) ((d.length : Int) + 16) s.Z.length s h
        refine ⟨?_, fun z hz => ?_, zadd_nd hk.ndz, fun y => ?_, ?_, hf⟩
        · show _ + _ = zsum (zadd _ _ _)
          rw [zsum_zadd, ← hk.sum]
        · rcases zadd_mem hz with h | rfl | ⟨v, h4, rfl⟩
          · exact hk.pos z h
          · show 16 ≤ (d.length : Int) + 16; omega
          · have := hk.pos _ h4
            show 16 ≤ v + ((d.length : Int) + 16)
            simp only at this
            omega
        · show zget (zadd _ _ _) y = lsum (_ ++ [_]) y
          rw [zget_zadd, lsum_app, hk.coh, lsum_cons]
          show _ = _ + ((if (padT l, g) = y then (d.length : Int) + 16 else 0) + 0)
          by_cases h4 : y = (padT l, g)
          · rw [if_pos h4, if_pos h4.symm]; omega
          · rw [if_neg h4, if_neg (Ne.symm h4)]; omega
        · show ((_ ++ [_]).map _).Nodup
          rw [List.map_append, List.nodup_append]
          refine ⟨hk.nde, by simp, fun a ha b hb e => ?_⟩
          simp only [List.map_cons, List.map_nil, List.mem_singleton] at hb
          obtain ⟨z, hz, hz2⟩ := List.mem_map.1 ha
          have hz3 := pevict_sub _ _ hz
          rw [hb, ← hz2] at e
          simp only [Prod.mk.injEq] at e
          exact h2 ⟨z, hz3, e⟩
  · unfold pput; rw [if_pos h1]; exact h
end
theorem eget_app {A B : List En} {t : List Int} {g n : Int} : eget (A ++ B) t g n = (eget A t g n).or (eget B t g n) := by
  unfold eget; rw [List.find?_append]
theorem eget_mem {E : List En} {t : List Int} {g n : Int} (hnd : (E.map (fun e => (e.t, e.g, e.n))).Nodup) {y : En} (hy : y ∈ E) (hk : y.is t g n) : eget E t g n = some y := by
  cases h : eget E t g n with
  | none => exact absurd hk (eget_none h y hy)
  | some z =>
    obtain ⟨hz, hzk⟩ := eget_some h
    congr 1
    have hi : ∀ (E : List En), (E.map (fun e => (e.t, e.g, e.n))).Nodup → z ∈ E → y ∈ E → z = y := fun E => by
      induction E with
      | nil => intro _ h _; cases h
      | cons a A ih =>
        intro hnd h1 h2
        rw [List.map_cons, List.nodup_cons] at hnd
        have key : (z.t, z.g, z.n) = (y.t, y.g, y.n) := by rw [hzk.1, hzk.2.1, hzk.2.2, hk.1, hk.2.1, hk.2.2]
        rcases List.mem_cons.1 h1 with e1 | h3
        · rcases List.mem_cons.1 h2 with e2 | h4
          · rw [e1, e2]
          · exact absurd (show (a.t, a.g, a.n) ∈ A.map (fun e => (e.t, e.g, e.n)) from List.mem_map.2 ⟨y, h4, by rw [← e1]; exact key.symm⟩) hnd.1
        · rcases List.mem_cons.1 h2 with e2 | h4
          · exact absurd (show (a.t, a.g, a.n) ∈ A.map (fun e => (e.t, e.g, e.n)) from List.mem_map.2 ⟨z, h3, by rw [← e2]; exact key⟩) hnd.1
          · exact ih hnd.2 h3 h4
    exact hi E hnd hz hy

end Go.Proofs.Ytiaabbflchdcbaa
