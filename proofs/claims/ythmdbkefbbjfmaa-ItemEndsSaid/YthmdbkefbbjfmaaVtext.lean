/-
  The text in front: what TakeText does, of package vint and of the reference; Text.
-/
import Derived.Test.YthmdbkefbbjfmaaVref
namespace Go.Proofs.Ythmdbkefbbjfmaa
open Go.RowKit
set_option linter.unusedVariables false
set_option linter.unusedSimpArgs false


/-- The text in front, what stands behind, the error. -/
def vtext (l : List Int) (most : Int) : List Int × List Int × Int :=
  match vtake l with
  | none => ([], [], 2)
  | some (n, rest) => if most < 0 ∨ most < n then ([], [], 3) else if (rest.length : Int) < n then ([], [], 2) else (rest.take n.toNat, rest.drop n.toNat, 0)
theorem vtext_none {l : List Int} (most : Int) (h : vtake l = none) : vtext l most = ([], [], 2) := by unfold vtext; rw [h]
theorem vtext_some {l : List Int} (most : Int) {n : Int} {rest : List Int} (h : vtake l = some (n, rest)) :
    vtext l most = if most < 0 ∨ most < n then ([], [], 3) else if (rest.length : Int) < n then ([], [], 2) else (rest.take n.toNat, rest.drop n.toNat, 0) := by unfold vtext; rw [h]
theorem vtext_ok {l : List Int} (hk : BytesOk l) (most : Int) : BytesOk (vtext l most).1 ∧ BytesOk (vtext l most).2.1 := by
  have nl : BytesOk [] := fun x hx => by simp at hx
  rcases ht : vtake l with _ | ⟨n, rest⟩
  · rw [vtext_none most ht]; exact ⟨nl, nl⟩
  · obtain ⟨_, _, x, r, _, _, hr, _⟩ := vtake_some hk ht
    have hkr : BytesOk rest := by rw [hr]; exact hk.drop _
    rw [vtext_some most ht]
    by_cases h1 : most < 0 ∨ most < n
    · rw [if_pos h1]; exact ⟨nl, nl⟩
    · rw [if_neg h1]
      by_cases h2 : (rest.length : Int) < n
      · rw [if_pos h2]; exact ⟨nl, nl⟩
      · rw [if_neg h2]; exact ⟨hkr.take _, hkr.drop _⟩

theorem und {B : Nat} {a w : World} (h : Below B a.drew w) : Below B a w := ⟨h.os, h.tape, h.output, h.size, h.block⟩

theorem text_none (v : Value) (l : List Int) (most : Int) (w : World) (h : Rd w .u8 v l) (hk : BytesOk l) (ht : vtake l = none) :
    Calls Try.prog 50 #[v, .int .i64 most] w fun e w' => e = .returned (.tuple #[.slice none 0 0, .slice none 0 0, .int .i64 2]) ∧ Below w.heap.size w w' := by
  have HT := Lib.hid ht
  clear ht
  go_enter Try.func50, Try.ntmps50
  go_wp2_with fail
  refine (take_none v l _ h hk HT.out).mono ?_
  rintro e w1 ⟨rfl, hB⟩
  go_wp2_with fail
  go_ret3
  exact ⟨rfl, hB⟩
set_option maxRecDepth 100000 in
theorem text_long (v : Value) (l rest : List Int) (n most : Int) (w : World) (h : Rd w .u8 v l) (hk : BytesOk l) (hl : l.length ≤ 1099511627776) (hm2 : most ≤ 9223372036854775807) (ht : vtake l = some (n, rest)) (hm : most < 0 ∨ most < n) :
    Calls Try.prog 50 #[v, .int .i64 most] w fun e w' => e = .returned (.tuple #[.slice none 0 0, .slice none 0 0, .int .i64 3]) ∧ Below w.heap.size w w' := by
  have hrl : rest.length ≤ 1099511627776 := by obtain ⟨_, _, x, r, rfl, _, rfl, _⟩ := vtake_some hk ht; simp at hl ⊢; omega
  obtain ⟨hn0, hn1, _⟩ := vtake_some hk ht
  have HT := Lib.hid ht
  clear ht
  by_cases h0 : most < 0
  · have d0 : decide (most < 0) = true := by simpa using h0
    clear hm
    go_enter Try.func50, Try.ntmps50
    go_wp2_with fail
    refine (take_some v l n rest _ h hk hl HT.out).mono ?_
    rintro e w1 ⟨v', rfl, ho, hB⟩
    obtain ⟨A, cap, rfl⟩ := (rd_of_own ho).form
    go_wp2_with fail
    go_ret3
    exact ⟨rfl, hB⟩
  · have h1 : most < n := by omega
    have d0 : decide (most < 0) = false := by simpa using h0
    have d1 : decide (most < n) = true := by simpa using h1
    clear hm
    go_enter Try.func50, Try.ntmps50
    go_wp2_with fail
    refine (take_some v l n rest _ h hk hl HT.out).mono ?_
    rintro e w1 ⟨v', rfl, ho, hB⟩
    obtain ⟨A, cap, rfl⟩ := (rd_of_own ho).form
    go_wp2_with fail
    go_ret3
    exact ⟨rfl, hB⟩
set_option maxRecDepth 100000 in
theorem text_short (v : Value) (l rest : List Int) (n most : Int) (w : World) (h : Rd w .u8 v l) (hk : BytesOk l) (hl : l.length ≤ 1099511627776) (hm2 : most ≤ 9223372036854775807) (ht : vtake l = some (n, rest)) (hm0 : 0 ≤ most) (hm : n ≤ most) (hs : (rest.length : Int) < n) :
    Calls Try.prog 50 #[v, .int .i64 most] w fun e w' => e = .returned (.tuple #[.slice none 0 0, .slice none 0 0, .int .i64 2]) ∧ Below w.heap.size w w' := by
  have hrl : rest.length ≤ 1099511627776 := by obtain ⟨_, _, x, r, rfl, _, rfl, _⟩ := vtake_some hk ht; simp at hl ⊢; omega
  obtain ⟨hn0, hn1, _⟩ := vtake_some hk ht
  have HT := Lib.hid ht
  clear ht
  have d0 : decide (most < 0) = false := by simp; omega
  have d1 : decide (most < n) = false := by simp; omega
  go_enter Try.func50, Try.ntmps50
  go_wp2_with fail
  refine (take_some v l n rest _ h hk hl HT.out).mono ?_
  rintro e w1 ⟨v', rfl, ho, hB⟩
  obtain ⟨A, cap, rfl⟩ := (rd_of_own ho).form
  go_wp2_with fail
  go_ret3
  exact ⟨rfl, hB⟩
set_option maxHeartbeats 2000000 in
set_option maxRecDepth 100000 in
theorem text_yes (v : Value) (l rest : List Int) (k : Nat) (most : Int) (w : World) (h : Rd w .u8 v l) (hk : BytesOk l) (hl : l.length ≤ 1099511627776) (hm2 : most ≤ 9223372036854775807) (ht : vtake l = some ((k : Int), rest)) (hm : (k : Int) ≤ most) (hs : k ≤ rest.length) :
    Calls Try.prog 50 #[v, .int .i64 most] w fun e w' => ∃ v1 v2, e = .returned (.tuple #[v1, v2, .int .i64 0]) ∧ Rd w' .u8 v1 (rest.take k) ∧ Rd w' .u8 v2 (rest.drop k) ∧ Below w.heap.size w w' := by
  have hrl : rest.length ≤ 1099511627776 := by obtain ⟨_, _, x, r, rfl, _, rfl, _⟩ := vtake_some hk ht; simp at hl ⊢; omega
  have HT := Lib.hid ht
  clear ht
  have d0 : decide (most < 0) = false := by simp; omega
  have d1 : decide (most < (k : Int)) = false := by simp; omega
  have d2 : decide (rest.length < k) = false := by simp; omega
  have d3 : (0 : Int) ≤ (k : Int) := by omega
  have d4 : (k : Int) ≤ (rest.length : Int) := by omega
  go_enter Try.func50, Try.ntmps50
  go_wp2_with fail
  refine (take_some v l k rest _ h hk hl HT.out).mono ?_
  rintro e w1 ⟨v', rfl, ho, hB⟩
  have hr1 := rd_of_own ho
  rcases ho.2 with ⟨rfl, h0⟩ | ⟨g, cap, cur, rfl, _, _, hnc, hcm, _, _⟩
  · have hr0 : rest = [] := List.eq_nil_of_length_eq_zero h0
    subst hr0
    obtain rfl : k = 0 := by simpa using hs
    have hA1 := Rd.nil w1 .u8
    clear ho hr1
    go_wp2_with fail
    go_region_held3 (fun _ => True) (trivial)
      (first
        | (go_at_call 34; (first | (with_reducible refine (clone_any _ _ _ hA2 (by simp)).mono ?_) | (with_reducible refine (clone_any _ _ _ hA2.drew (by simp)).mono ?_)); rintro e w3 ⟨v3, rfl, ho3, hb3⟩; have hb3 : Below w2.heap.size w2 w3 := (by first | exact hb3 | exact und hb3))
        | (go_at_call 34; (first | (with_reducible refine (clone_any _ _ _ hA1 (by simp)).mono ?_) | (with_reducible refine (clone_any _ _ _ hA1.drew (by simp)).mono ?_)); rintro e w2 ⟨v2, rfl, ho2, hb2⟩; have hb2 : Below w1.heap.size w1 w2 := (by first | exact hb2 | exact und hb2); have hA2 := Rd.nil w2 .u8))
    all_goals
      go_wp2_with fail
      go_ret3
      exact ⟨_, _, rfl, by first | exact (rd_of_own (k := .u8) (l := []) ho2).below hb3 | exact rd_of_own (k := .u8) (l := []) ho3, by first | exact rd_of_own (k := .u8) (l := []) ho3 | exact (rd_of_own (k := .u8) (l := []) ho2).below hb3, (hB.trans (hb2.mono hB.size)).trans (hb3.mono (by have := hB.size; have := hb2.size; simp at *; omega))⟩
  · have hcm' : cap ≤ 9223372036854775807 := by unfold maxLen at hcm; omega
    have hP1 := hr1.pre hs
    have hlp : (rest.take k).length ≤ 1099511627776 := by simp; omega
    have hls : (rest.drop k).length ≤ 1099511627776 := by simp; omega
    have hS1 := hr1.suf hs
    rw [Nat.zero_add] at hS1
    by_cases hck : cap = k
    · have hkl : k = rest.length := by omega
      have hdr : rest.drop k = [] := by rw [hkl]; simp
      have hE0 : Rd w1 .u8 (.slice (some ⟨g, 0, none⟩) 0 0) (rest.drop k) := by rw [hdr]; exact Rd.emp w1 .u8 _ 0 (by decide)
      have hE1 : Rd w1 .u8 (.slice (some ⟨g, 0, none⟩) (rest.length - k) 0) (rest.drop k) := by rw [show rest.length - k = 0 by omega]; exact hE0
      subst hck
      have HK := Lib.hid hkl
      clear ho hr1 hkl hS1 hdr
      have hck5 : (cap : Int) ≤ (cap : Int) := Int.le_refl _
      go_wp2_with fail
      go_region_held3 (fun _ => True) (trivial)
        (first
          | (go_at_call 34; (first | (with_reducible refine (clone_any _ _ _ hP1 hlp).mono ?_) | (with_reducible refine (clone_any _ _ _ hP1.drew hlp).mono ?_) | (with_reducible refine (clone_any _ _ _ hP2 hlp).mono ?_) | (with_reducible refine (clone_any _ _ _ hP2.drew hlp).mono ?_)); rintro e w2 ⟨v2, rfl, ho2, hb2⟩; have rP := rd_of_own ho2; (try have hE2 := hE1.below (show Below w1.heap.size w1 w2 by first | exact hb2 | exact und hb2)); (try have hE3 := hE0.below (show Below w1.heap.size w1 w2 by first | exact hb2 | exact und hb2)))
          | (go_at_call 34; (first | (with_reducible refine (clone_any _ _ _ hE1 hls).mono ?_) | (with_reducible refine (clone_any _ _ _ hE1.drew hls).mono ?_) | (with_reducible refine (clone_any _ _ _ hE0 hls).mono ?_) | (with_reducible refine (clone_any _ _ _ hE0.drew hls).mono ?_) | (with_reducible refine (clone_any _ _ _ hE2 hls).mono ?_) | (with_reducible refine (clone_any _ _ _ hE2.drew hls).mono ?_) | (with_reducible refine (clone_any _ _ _ hE3 hls).mono ?_) | (with_reducible refine (clone_any _ _ _ hE3.drew hls).mono ?_)); rintro e w3 ⟨v3, rfl, ho3, hb3⟩; have rS := rd_of_own ho3; (try have hP2 := hP1.below (show Below w1.heap.size w1 w3 by first | exact hb3 | exact und hb3))))
      all_goals
        go_wp2_with fail
        go_ret3
        first
          | (have hbP : Below w1.heap.size w1 w2 := by first | exact hb2 | exact und hb2
             have hbS : Below w2.heap.size w2 w3 := by first | exact hb3 | exact und hb3
             exact ⟨_, _, rfl, rP.below hbS, rS, (hB.trans (hbP.mono hB.size)).trans (hbS.mono (Nat.le_trans hB.size hbP.size))⟩)
          | (have hbS : Below w1.heap.size w1 w3 := by first | exact hb3 | exact und hb3
             have hbP : Below w3.heap.size w3 w2 := by first | exact hb2 | exact und hb2
             exact ⟨_, _, rfl, rP, rS.below hbP, (hB.trans (hbS.mono hB.size)).trans (hbP.mono (Nat.le_trans hB.size hbS.size))⟩)
    · have hck' : (k : Int) < (cap : Int) := by omega
      have hck5 : (k : Int) ≤ (cap : Int) := by omega
      have hck6 : k ≤ cap := by omega
      clear ho hr1
      go_wp2_with fail
      go_region_held3 (fun _ => True) (trivial)
        (first
          | (go_at_call 34; (first | (with_reducible refine (clone_any _ _ _ hP1 hlp).mono ?_) | (with_reducible refine (clone_any _ _ _ hP1.drew hlp).mono ?_) | (with_reducible refine (clone_any _ _ _ hP2 hlp).mono ?_) | (with_reducible refine (clone_any _ _ _ hP2.drew hlp).mono ?_)); rintro e w2 ⟨v2, rfl, ho2, hb2⟩; have rP := rd_of_own ho2; (try have hS2 := hS1.below (show Below w1.heap.size w1 w2 by first | exact hb2 | exact und hb2)))
          | (go_at_call 34; (first | (with_reducible refine (clone_any _ _ _ hS1 hls).mono ?_) | (with_reducible refine (clone_any _ _ _ hS1.drew hls).mono ?_) | (with_reducible refine (clone_any _ _ _ hS2 hls).mono ?_) | (with_reducible refine (clone_any _ _ _ hS2.drew hls).mono ?_)); rintro e w3 ⟨v3, rfl, ho3, hb3⟩; have rS := rd_of_own ho3; (try have hP2 := hP1.below (show Below w1.heap.size w1 w3 by first | exact hb3 | exact und hb3))))
      all_goals
        go_wp2_with fail
        go_ret3
        first
          | (have hbP : Below w1.heap.size w1 w2 := by first | exact hb2 | exact und hb2
             have hbS : Below w2.heap.size w2 w3 := by first | exact hb3 | exact und hb3
             exact ⟨_, _, rfl, rP.below hbS, rS, (hB.trans (hbP.mono hB.size)).trans (hbS.mono (Nat.le_trans hB.size hbP.size))⟩)
          | (have hbS : Below w1.heap.size w1 w3 := by first | exact hb3 | exact und hb3
             have hbP : Below w3.heap.size w3 w2 := by first | exact hb2 | exact und hb2
             exact ⟨_, _, rfl, rP, rS.below hbP, (hB.trans (hbS.mono hB.size)).trans (hbP.mono (Nat.le_trans hB.size hbS.size))⟩)

theorem text_all (v : Value) (l : List Int) (most : Int) (w : World) (h : Rd w .u8 v l) (hk : BytesOk l) (hl : l.length ≤ 1099511627776) (hm2 : most ≤ 9223372036854775807) :
    Calls Try.prog 50 #[v, .int .i64 most] w fun e w' => ∃ v1 v2, e = .returned (.tuple #[v1, v2, .int .i64 (vtext l most).2.2]) ∧ Rd w' .u8 v1 (vtext l most).1 ∧ Rd w' .u8 v2 (vtext l most).2.1 ∧ Below w.heap.size w w' := by
  rcases ht : vtake l with _ | ⟨n, rest⟩
  · rw [vtext_none most ht]
    exact (text_none v l most w h hk ht).mono fun e w' ⟨he, hB⟩ => ⟨_, _, he, Rd.nil _ _, Rd.nil _ _, hB⟩
  · have hn := (vtake_some hk ht).1
    rw [vtext_some most ht]
    by_cases h1 : most < 0 ∨ most < n
    · rw [if_pos h1]
      exact (text_long v l rest n most w h hk hl hm2 ht h1).mono fun e w' ⟨he, hB⟩ => ⟨_, _, he, Rd.nil _ _, Rd.nil _ _, hB⟩
    · rw [if_neg h1]
      by_cases h2 : (rest.length : Int) < n
      · rw [if_pos h2]
        exact (text_short v l rest n most w h hk hl hm2 ht (by omega) (by omega) h2).mono fun e w' ⟨he, hB⟩ => ⟨_, _, he, Rd.nil _ _, Rd.nil _ _, hB⟩
      · rw [if_neg h2]
        obtain ⟨k, rfl⟩ := Int.eq_ofNat_of_zero_le hn
        exact text_yes v l rest k most w h hk hl hm2 ht (by omega) (by omega)

theorem rtext_none (v : Value) (l : List Int) (most : Int) (w : World) (h : Rd w .u8 v l) (hk : BytesOk l) (ht : vtake l = none) :
    Calls Try.prog 39 #[v, .int .i64 most] w fun e w' => e = .returned (.tuple #[.slice none 0 0, .slice none 0 0, .int .i64 2]) ∧ Below w.heap.size w w' := by
  have HT := Lib.hid ht
  clear ht
  go_enter Try.func39, Try.ntmps39
  go_wp2_with fail
  refine (rtake_none v l _ h hk HT.out).mono ?_
  rintro e w1 ⟨rfl, hB⟩
  go_wp2_with fail
  go_ret3
  exact ⟨rfl, hB⟩
set_option maxRecDepth 100000 in
theorem rtext_long (v : Value) (l rest : List Int) (n most : Int) (w : World) (h : Rd w .u8 v l) (hk : BytesOk l) (hl : l.length ≤ 1099511627776) (hm2 : most ≤ 9223372036854775807) (ht : vtake l = some (n, rest)) (hm : most < 0 ∨ most < n) :
    Calls Try.prog 39 #[v, .int .i64 most] w fun e w' => e = .returned (.tuple #[.slice none 0 0, .slice none 0 0, .int .i64 3]) ∧ Below w.heap.size w w' := by
  have hrl : rest.length ≤ 1099511627776 := by obtain ⟨_, _, x, r, rfl, _, rfl, _⟩ := vtake_some hk ht; simp at hl ⊢; omega
  obtain ⟨hn0, hn1, _⟩ := vtake_some hk ht
  have HT := Lib.hid ht
  clear ht
  by_cases h0 : most < 0
  · have d0 : decide (most < 0) = true := by simpa using h0
    clear hm
    go_enter Try.func39, Try.ntmps39
    go_wp2_with fail
    refine (rtake_some v l n rest _ h hk hl HT.out).mono ?_
    rintro e w1 ⟨v', rfl, ho, hB⟩
    obtain ⟨A, cap, rfl⟩ := (rd_of_own ho).form
    go_wp2_with fail
    go_ret3
    exact ⟨rfl, hB⟩
  · have h1 : most < n := by omega
    have d0 : decide (most < 0) = false := by simpa using h0
    have d1 : decide (most < n) = true := by simpa using h1
    clear hm
    go_enter Try.func39, Try.ntmps39
    go_wp2_with fail
    refine (rtake_some v l n rest _ h hk hl HT.out).mono ?_
    rintro e w1 ⟨v', rfl, ho, hB⟩
    obtain ⟨A, cap, rfl⟩ := (rd_of_own ho).form
    go_wp2_with fail
    go_ret3
    exact ⟨rfl, hB⟩
set_option maxRecDepth 100000 in
theorem rtext_short (v : Value) (l rest : List Int) (n most : Int) (w : World) (h : Rd w .u8 v l) (hk : BytesOk l) (hl : l.length ≤ 1099511627776) (hm2 : most ≤ 9223372036854775807) (ht : vtake l = some (n, rest)) (hm0 : 0 ≤ most) (hm : n ≤ most) (hs : (rest.length : Int) < n) :
    Calls Try.prog 39 #[v, .int .i64 most] w fun e w' => e = .returned (.tuple #[.slice none 0 0, .slice none 0 0, .int .i64 2]) ∧ Below w.heap.size w w' := by
  have hrl : rest.length ≤ 1099511627776 := by obtain ⟨_, _, x, r, rfl, _, rfl, _⟩ := vtake_some hk ht; simp at hl ⊢; omega
  obtain ⟨hn0, hn1, _⟩ := vtake_some hk ht
  have HT := Lib.hid ht
  clear ht
  have d0 : decide (most < 0) = false := by simp; omega
  have d1 : decide (most < n) = false := by simp; omega
  go_enter Try.func39, Try.ntmps39
  go_wp2_with fail
  refine (rtake_some v l n rest _ h hk hl HT.out).mono ?_
  rintro e w1 ⟨v', rfl, ho, hB⟩
  obtain ⟨A, cap, rfl⟩ := (rd_of_own ho).form
  go_wp2_with fail
  go_ret3
  exact ⟨rfl, hB⟩
set_option maxHeartbeats 2000000 in
set_option maxRecDepth 100000 in
theorem rtext_yes (v : Value) (l rest : List Int) (k : Nat) (most : Int) (w : World) (h : Rd w .u8 v l) (hk : BytesOk l) (hl : l.length ≤ 1099511627776) (hm2 : most ≤ 9223372036854775807) (ht : vtake l = some ((k : Int), rest)) (hm : (k : Int) ≤ most) (hs : k ≤ rest.length) :
    Calls Try.prog 39 #[v, .int .i64 most] w fun e w' => ∃ v1 v2, e = .returned (.tuple #[v1, v2, .int .i64 0]) ∧ Rd w' .u8 v1 (rest.take k) ∧ Rd w' .u8 v2 (rest.drop k) ∧ Below w.heap.size w w' := by
  have hrl : rest.length ≤ 1099511627776 := by obtain ⟨_, _, x, r, rfl, _, rfl, _⟩ := vtake_some hk ht; simp at hl ⊢; omega
  have HT := Lib.hid ht
  clear ht
  have d0 : decide (most < 0) = false := by simp; omega
  have d1 : decide (most < (k : Int)) = false := by simp; omega
  have d2 : decide (rest.length < k) = false := by simp; omega
  have d3 : (0 : Int) ≤ (k : Int) := by omega
  have d4 : (k : Int) ≤ (rest.length : Int) := by omega
  go_enter Try.func39, Try.ntmps39
  go_wp2_with fail
  refine (rtake_some v l k rest _ h hk hl HT.out).mono ?_
  rintro e w1 ⟨v', rfl, ho, hB⟩
  have hr1 := rd_of_own ho
  rcases ho.2 with ⟨rfl, h0⟩ | ⟨g, cap, cur, rfl, _, _, hnc, hcm, _, _⟩
  · have hr0 : rest = [] := List.eq_nil_of_length_eq_zero h0
    subst hr0
    obtain rfl : k = 0 := by simpa using hs
    have hA1 := Rd.nil w1 .u8
    clear ho hr1
    go_wp2_with fail
    go_region_held3 (fun _ => True) (trivial)
      (first
        | (go_at_call 20; (first | (with_reducible refine (copy_any _ _ _ hA2 (by simp)).mono ?_) | (with_reducible refine (copy_any _ _ _ hA2.drew (by simp)).mono ?_)); rintro e w3 ⟨v3, rfl, ho3, hb3⟩; have hb3 : Below w2.heap.size w2 w3 := (by first | exact hb3 | exact und hb3))
        | (go_at_call 20; (first | (with_reducible refine (copy_any _ _ _ hA1 (by simp)).mono ?_) | (with_reducible refine (copy_any _ _ _ hA1.drew (by simp)).mono ?_)); rintro e w2 ⟨v2, rfl, ho2, hb2⟩; have hb2 : Below w1.heap.size w1 w2 := (by first | exact hb2 | exact und hb2); have hA2 := Rd.nil w2 .u8))
    all_goals
      go_wp2_with fail
      go_ret3
      exact ⟨_, _, rfl, by first | exact (rd_of_own (k := .u8) (l := []) ho2).below hb3 | exact rd_of_own (k := .u8) (l := []) ho3, by first | exact rd_of_own (k := .u8) (l := []) ho3 | exact (rd_of_own (k := .u8) (l := []) ho2).below hb3, (hB.trans (hb2.mono hB.size)).trans (hb3.mono (by have := hB.size; have := hb2.size; simp at *; omega))⟩
  · have hcm' : cap ≤ 9223372036854775807 := by unfold maxLen at hcm; omega
    have hP1 := hr1.pre hs
    have hlp : (rest.take k).length ≤ 1099511627776 := by simp; omega
    have hls : (rest.drop k).length ≤ 1099511627776 := by simp; omega
    have hS1 := hr1.suf hs
    rw [Nat.zero_add] at hS1
    by_cases hck : cap = k
    · have hkl : k = rest.length := by omega
      have hdr : rest.drop k = [] := by rw [hkl]; simp
      have hE0 : Rd w1 .u8 (.slice (some ⟨g, 0, none⟩) 0 0) (rest.drop k) := by rw [hdr]; exact Rd.emp w1 .u8 _ 0 (by decide)
      have hE1 : Rd w1 .u8 (.slice (some ⟨g, 0, none⟩) (rest.length - k) 0) (rest.drop k) := by rw [show rest.length - k = 0 by omega]; exact hE0
      subst hck
      have HK := Lib.hid hkl
      clear ho hr1 hkl hS1 hdr
      have hck5 : (cap : Int) ≤ (cap : Int) := Int.le_refl _
      go_wp2_with fail
      go_region_held3 (fun _ => True) (trivial)
        (first
          | (go_at_call 20; (first | (with_reducible refine (copy_any _ _ _ hP1 hlp).mono ?_) | (with_reducible refine (copy_any _ _ _ hP1.drew hlp).mono ?_) | (with_reducible refine (copy_any _ _ _ hP2 hlp).mono ?_) | (with_reducible refine (copy_any _ _ _ hP2.drew hlp).mono ?_)); rintro e w2 ⟨v2, rfl, ho2, hb2⟩; have rP := rd_of_own ho2; (try have hE2 := hE1.below (show Below w1.heap.size w1 w2 by first | exact hb2 | exact und hb2)); (try have hE3 := hE0.below (show Below w1.heap.size w1 w2 by first | exact hb2 | exact und hb2)))
          | (go_at_call 20; (first | (with_reducible refine (copy_any _ _ _ hE1 hls).mono ?_) | (with_reducible refine (copy_any _ _ _ hE1.drew hls).mono ?_) | (with_reducible refine (copy_any _ _ _ hE0 hls).mono ?_) | (with_reducible refine (copy_any _ _ _ hE0.drew hls).mono ?_) | (with_reducible refine (copy_any _ _ _ hE2 hls).mono ?_) | (with_reducible refine (copy_any _ _ _ hE2.drew hls).mono ?_) | (with_reducible refine (copy_any _ _ _ hE3 hls).mono ?_) | (with_reducible refine (copy_any _ _ _ hE3.drew hls).mono ?_)); rintro e w3 ⟨v3, rfl, ho3, hb3⟩; have rS := rd_of_own ho3; (try have hP2 := hP1.below (show Below w1.heap.size w1 w3 by first | exact hb3 | exact und hb3))))
      all_goals
        go_wp2_with fail
        go_ret3
        first
          | (have hbP : Below w1.heap.size w1 w2 := by first | exact hb2 | exact und hb2
             have hbS : Below w2.heap.size w2 w3 := by first | exact hb3 | exact und hb3
             exact ⟨_, _, rfl, rP.below hbS, rS, (hB.trans (hbP.mono hB.size)).trans (hbS.mono (Nat.le_trans hB.size hbP.size))⟩)
          | (have hbS : Below w1.heap.size w1 w3 := by first | exact hb3 | exact und hb3
             have hbP : Below w3.heap.size w3 w2 := by first | exact hb2 | exact und hb2
             exact ⟨_, _, rfl, rP, rS.below hbP, (hB.trans (hbS.mono hB.size)).trans (hbP.mono (Nat.le_trans hB.size hbS.size))⟩)
    · have hck' : (k : Int) < (cap : Int) := by omega
      have hck5 : (k : Int) ≤ (cap : Int) := by omega
      have hck6 : k ≤ cap := by omega
      clear ho hr1
      go_wp2_with fail
      go_region_held3 (fun _ => True) (trivial)
        (first
          | (go_at_call 20; (first | (with_reducible refine (copy_any _ _ _ hP1 hlp).mono ?_) | (with_reducible refine (copy_any _ _ _ hP1.drew hlp).mono ?_) | (with_reducible refine (copy_any _ _ _ hP2 hlp).mono ?_) | (with_reducible refine (copy_any _ _ _ hP2.drew hlp).mono ?_)); rintro e w2 ⟨v2, rfl, ho2, hb2⟩; have rP := rd_of_own ho2; (try have hS2 := hS1.below (show Below w1.heap.size w1 w2 by first | exact hb2 | exact und hb2)))
          | (go_at_call 20; (first | (with_reducible refine (copy_any _ _ _ hS1 hls).mono ?_) | (with_reducible refine (copy_any _ _ _ hS1.drew hls).mono ?_) | (with_reducible refine (copy_any _ _ _ hS2 hls).mono ?_) | (with_reducible refine (copy_any _ _ _ hS2.drew hls).mono ?_)); rintro e w3 ⟨v3, rfl, ho3, hb3⟩; have rS := rd_of_own ho3; (try have hP2 := hP1.below (show Below w1.heap.size w1 w3 by first | exact hb3 | exact und hb3))))
      all_goals
        go_wp2_with fail
        go_ret3
        first
          | (have hbP : Below w1.heap.size w1 w2 := by first | exact hb2 | exact und hb2
             have hbS : Below w2.heap.size w2 w3 := by first | exact hb3 | exact und hb3
             exact ⟨_, _, rfl, rP.below hbS, rS, (hB.trans (hbP.mono hB.size)).trans (hbS.mono (Nat.le_trans hB.size hbP.size))⟩)
          | (have hbS : Below w1.heap.size w1 w3 := by first | exact hb3 | exact und hb3
             have hbP : Below w3.heap.size w3 w2 := by first | exact hb2 | exact und hb2
             exact ⟨_, _, rfl, rP, rS.below hbP, (hB.trans (hbS.mono hB.size)).trans (hbP.mono (Nat.le_trans hB.size hbS.size))⟩)

theorem rtext_all (v : Value) (l : List Int) (most : Int) (w : World) (h : Rd w .u8 v l) (hk : BytesOk l) (hl : l.length ≤ 1099511627776) (hm2 : most ≤ 9223372036854775807) :
    Calls Try.prog 39 #[v, .int .i64 most] w fun e w' => ∃ v1 v2, e = .returned (.tuple #[v1, v2, .int .i64 (vtext l most).2.2]) ∧ Rd w' .u8 v1 (vtext l most).1 ∧ Rd w' .u8 v2 (vtext l most).2.1 ∧ Below w.heap.size w w' := by
  rcases ht : vtake l with _ | ⟨n, rest⟩
  · rw [vtext_none most ht]
    exact (rtext_none v l most w h hk ht).mono fun e w' ⟨he, hB⟩ => ⟨_, _, he, Rd.nil _ _, Rd.nil _ _, hB⟩
  · have hn := (vtake_some hk ht).1
    rw [vtext_some most ht]
    by_cases h1 : most < 0 ∨ most < n
    · rw [if_pos h1]
      exact (rtext_long v l rest n most w h hk hl hm2 ht h1).mono fun e w' ⟨he, hB⟩ => ⟨_, _, he, Rd.nil _ _, Rd.nil _ _, hB⟩
    · rw [if_neg h1]
      by_cases h2 : (rest.length : Int) < n
      · rw [if_pos h2]
        exact (rtext_short v l rest n most w h hk hl hm2 ht (by omega) (by omega) h2).mono fun e w' ⟨he, hB⟩ => ⟨_, _, he, Rd.nil _ _, Rd.nil _ _, hB⟩
      · rw [if_neg h2]
        obtain ⟨k, rfl⟩ := Int.eq_ofNat_of_zero_le hn
        exact rtext_yes v l rest k most w h hk hl hm2 ht (by omega) (by omega)

end Go.Proofs.Ythmdbkefbbjfmaa
