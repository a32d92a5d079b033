/-
  The reference's TakeText, its bytes with their blocks' kinds. No condition.
-/
import Derived.Test.YtjijmbpgfabgcaaDoorZC
import Derived.Test.YtjijmbpgfabgcaaDoorZA
namespace Go.Proofs.YtjijmbpgfabgcaaDoor
open Go.RowKit
set_option linter.unusedVariables false
set_option linter.unusedSimpArgs false


set_option maxHeartbeats 2000000 in
set_option maxRecDepth 100000 in
theorem rtext_yesT (v : Value) (l rest : List Int) (k : Nat) (most : Int) (w : World) (h : Rd w .u8 v l) (hk : BytesOk l) (hl : l.length ≤ 1099511627776) (hm2 : most ≤ 9223372036854775807) (ht : vtake l = some ((k : Int), rest)) (hm : (k : Int) ≤ most) (hs : k ≤ rest.length) :
    Calls Tryd.prog 38 #[v, .int .i64 most] w fun e w' => ∃ v1 v2, e = .returned (.tuple #[v1, v2, .int .i64 0]) ∧ RdT w' v1 (rest.take k) ∧ RdT w' v2 (rest.drop k) ∧ Below w.heap.size w w' := by
  have hrl : rest.length ≤ 1099511627776 := by obtain ⟨_, _, x, r, rfl, _, rfl, _⟩ := vtake_some hk ht; simp at hl ⊢; omega
  have HT := Lib.hid ht
  clear ht
  have d0 : decide (most < 0) = false := by simp; omega
  have d1 : decide (most < (k : Int)) = false := by simp; omega
  have d2 : decide (rest.length < k) = false := by simp; omega
  have d3 : (0 : Int) ≤ (k : Int) := by omega
  have d4 : (k : Int) ≤ (rest.length : Int) := by omega
  go_enter Tryd.func38, Tryd.ntmps38
  go_wp2_with fail
  refine (rtake_some v l k rest _ h hk hl HT.out).mono ?_
  rintro e w1 ⟨v', rfl, ho, hB⟩
  have hr1 := rd_of_own ho
  rcases ho.2 with ⟨rfl, h0⟩ | ⟨g, cap, cur, rfl, _, _, hnc, hcm, _, _⟩
  · have hr0 : rest = [] := List.eq_nil_of_length_eq_zero h0
    subst hr0
    obtain rfl : k = 0 := by simpa using hs
    have hA1 := Rd.nil w1 .u8
    clear ho hr1
    go_wp2_with fail
    go_region_held3 (fun _ => True) (trivial)
      (first
        | (go_at_call 17; (first | (with_reducible refine (copy_any _ _ _ hA2 (by simp)).mono ?_) | (with_reducible refine (copy_any _ _ _ hA2.drew (by simp)).mono ?_)); rintro e w3 ⟨v3, rfl, ho3, hb3⟩; have hb3 : Below w2.heap.size w2 w3 := (by first | exact hb3 | exact und hb3))
        | (go_at_call 17; (first | (with_reducible refine (copy_any _ _ _ hA1 (by simp)).mono ?_) | (with_reducible refine (copy_any _ _ _ hA1.drew (by simp)).mono ?_)); rintro e w2 ⟨v2, rfl, ho2, hb2⟩; have hb2 : Below w1.heap.size w1 w2 := (by first | exact hb2 | exact und hb2); have hA2 := Rd.nil w2 .u8))
    all_goals
      go_wp2_with fail
      go_ret3
      exact ⟨_, _, rfl, by first | exact (rdt_of_own (l := []) ho2).below hb3 | exact rdt_of_own (l := []) ho3, by first | exact rdt_of_own (l := []) ho3 | exact (rdt_of_own (l := []) ho2).below hb3, (hB.trans (hb2.mono hB.size)).trans (hb3.mono (by have := hB.size; have := hb2.size; simp at *; omega))⟩
  · have hcm' : cap ≤ 9223372036854775807 := by unfold maxLen at hcm; omega
    have hP1 := hr1.pre hs
    have hlp : (rest.take k).length ≤ 1099511627776 := by simp; omega
    have hls : (rest.drop k).length ≤ 1099511627776 := by simp; omega
    have hS1 := hr1.suf hs
    rw [Nat.zero_add] at hS1
    by_cases hck : cap = k
    · have hkl : k = rest.length := by omega
      have hdr : rest.drop k = [] := by rw [hkl]; simp
      have hE0 : Rd w1 .u8 (.slice (some ⟨g, 0, none⟩) 0 0) (rest.drop k) := by rw [hdr]; exact Rd.emp w1 .u8 _ 0 (by decide)
      have hE1 : Rd w1 .u8 (.slice (some ⟨g, 0, none⟩) (rest.length - k) 0) (rest.drop k) := by rw [show rest.length - k = 0 by omega]; exact hE0
      subst hck
      have HK := Lib.hid hkl
      clear ho hr1 hkl hS1 hdr
      have hck5 : (cap : Int) ≤ (cap : Int) := Int.le_refl _
      go_wp2_with fail
      go_region_held3 (fun _ => True) (trivial)
        (first
          | (go_at_call 17; (first | (with_reducible refine (copy_any _ _ _ hP1 hlp).mono ?_) | (with_reducible refine (copy_any _ _ _ hP1.drew hlp).mono ?_) | (with_reducible refine (copy_any _ _ _ hP2 hlp).mono ?_) | (with_reducible refine (copy_any _ _ _ hP2.drew hlp).mono ?_)); rintro e w2 ⟨v2, rfl, ho2, hb2⟩; have rP := rdt_of_own ho2; (try have hE2 := hE1.below (show Below w1.heap.size w1 w2 by first | exact hb2 | exact und hb2)); (try have hE3 := hE0.below (show Below w1.heap.size w1 w2 by first | exact hb2 | exact und hb2)))
          | (go_at_call 17; (first | (with_reducible refine (copy_any _ _ _ hE1 hls).mono ?_) | (with_reducible refine (copy_any _ _ _ hE1.drew hls).mono ?_) | (with_reducible refine (copy_any _ _ _ hE0 hls).mono ?_) | (with_reducible refine (copy_any _ _ _ hE0.drew hls).mono ?_) | (with_reducible refine (copy_any _ _ _ hE2 hls).mono ?_) | (with_reducible refine (copy_any _ _ _ hE2.drew hls).mono ?_) | (with_reducible refine (copy_any _ _ _ hE3 hls).mono ?_) | (with_reducible refine (copy_any _ _ _ hE3.drew hls).mono ?_)); rintro e w3 ⟨v3, rfl, ho3, hb3⟩; have rS := rdt_of_own ho3; (try have hP2 := hP1.below (show Below w1.heap.size w1 w3 by first | exact hb3 | exact und hb3))))
      all_goals
        go_wp2_with fail
        go_ret3
        first
          | (have hbP : Below w1.heap.size w1 w2 := by first | exact hb2 | exact und hb2
             have hbS : Below w2.heap.size w2 w3 := by first | exact hb3 | exact und hb3
             exact ⟨_, _, rfl, rP.below hbS, rS, (hB.trans (hbP.mono hB.size)).trans (hbS.mono (Nat.le_trans hB.size hbP.size))⟩)
          | (have hbS : Below w1.heap.size w1 w3 := by first | exact hb3 | exact und hb3
             have hbP : Below w3.heap.size w3 w2 := by first | exact hb2 | exact und hb2
             exact ⟨_, _, rfl, rP, rS.below hbP, (hB.trans (hbS.mono hB.size)).trans (hbP.mono (Nat.le_trans hB.size hbS.size))⟩)
    · have hck' : (k : Int) < (cap : Int) := by omega
      have hck5 : (k : Int) ≤ (cap : Int) := by omega
      have hck6 : k ≤ cap := by omega
      clear ho hr1
      go_wp2_with fail
      go_region_held3 (fun _ => True) (trivial)
        (first
          | (go_at_call 17; (first | (with_reducible refine (copy_any _ _ _ hP1 hlp).mono ?_) | (with_reducible refine (copy_any _ _ _ hP1.drew hlp).mono ?_) | (with_reducible refine (copy_any _ _ _ hP2 hlp).mono ?_) | (with_reducible refine (copy_any _ _ _ hP2.drew hlp).mono ?_)); rintro e w2 ⟨v2, rfl, ho2, hb2⟩; have rP := rdt_of_own ho2; (try have hS2 := hS1.below (show Below w1.heap.size w1 w2 by first | exact hb2 | exact und hb2)))
          | (go_at_call 17; (first | (with_reducible refine (copy_any _ _ _ hS1 hls).mono ?_) | (with_reducible refine (copy_any _ _ _ hS1.drew hls).mono ?_) | (with_reducible refine (copy_any _ _ _ hS2 hls).mono ?_) | (with_reducible refine (copy_any _ _ _ hS2.drew hls).mono ?_)); rintro e w3 ⟨v3, rfl, ho3, hb3⟩; have rS := rdt_of_own ho3; (try have hP2 := hP1.below (show Below w1.heap.size w1 w3 by first | exact hb3 | exact und hb3))))
      all_goals
        go_wp2_with fail
        go_ret3
        first
          | (have hbP : Below w1.heap.size w1 w2 := by first | exact hb2 | exact und hb2
             have hbS : Below w2.heap.size w2 w3 := by first | exact hb3 | exact und hb3
             exact ⟨_, _, rfl, rP.below hbS, rS, (hB.trans (hbP.mono hB.size)).trans (hbS.mono (Nat.le_trans hB.size hbP.size))⟩)
          | (have hbS : Below w1.heap.size w1 w3 := by first | exact hb3 | exact und hb3
             have hbP : Below w3.heap.size w3 w2 := by first | exact hb2 | exact und hb2
             exact ⟨_, _, rfl, rP, rS.below hbP, (hB.trans (hbS.mono hB.size)).trans (hbP.mono (Nat.le_trans hB.size hbS.size))⟩)

theorem rtext_allT (v : Value) (l : List Int) (most : Int) (w : World) (h : Rd w .u8 v l) (hk : BytesOk l) (hl : l.length ≤ 1099511627776) (hm2 : most ≤ 9223372036854775807) :
    Calls Tryd.prog 38 #[v, .int .i64 most] w fun e w' => ∃ v1 v2, e = .returned (.tuple #[v1, v2, .int .i64 (vtext l most).2.2]) ∧ RdT w' v1 (vtext l most).1 ∧ RdT w' v2 (vtext l most).2.1 ∧ Below w.heap.size w w' := by
  rcases ht : vtake l with _ | ⟨n, rest⟩
  · rw [vtext_none most ht]
    exact (rtext_none v l most w h hk ht).mono fun e w' ⟨he, hB⟩ => ⟨_, _, he, RdT.nil _, RdT.nil _, hB⟩
  · have hn := (vtake_some hk ht).1
    rw [vtext_some most ht]
    by_cases h1 : most < 0 ∨ most < n
    · rw [if_pos h1]
      exact (rtext_long v l rest n most w h hk hl hm2 ht h1).mono fun e w' ⟨he, hB⟩ => ⟨_, _, he, RdT.nil _, RdT.nil _, hB⟩
    · rw [if_neg h1]
      by_cases h2 : (rest.length : Int) < n
      · rw [if_pos h2]
        exact (rtext_short v l rest n most w h hk hl hm2 ht (by omega) (by omega) h2).mono fun e w' ⟨he, hB⟩ => ⟨_, _, he, RdT.nil _, RdT.nil _, hB⟩
      · rw [if_neg h2]
        obtain ⟨k, rfl⟩ := Int.eq_ofNat_of_zero_le hn
        exact rtext_yesT v l rest k most w h hk hl hm2 ht (by omega) (by omega)


end Go.Proofs.YtjijmbpgfabgcaaDoor
