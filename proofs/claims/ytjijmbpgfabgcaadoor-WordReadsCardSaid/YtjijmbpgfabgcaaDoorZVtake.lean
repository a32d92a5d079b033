/-
  The number in front: what Take does, of package vint and of the reference.
-/
import Derived.Test.YtjijmbpgfabgcaaDoorZB
namespace Go.Proofs.YtjijmbpgfabgcaaDoor
open Go.RowKit
set_option linter.unusedVariables false
set_option linter.unusedSimpArgs false


/-- How many bytes the form takes whose first byte is x; the number that it holds. -/
def vw (x : Int) : Nat := 2 ^ (x / 64).toNat
def vval (l : List Int) (s : Nat) : Int := ((l.take s).drop 1).foldl (fun a b => a * 256 + b) (l.getD 0 0 % 64)
theorem vw_cases (x : Int) (h0 : 0 ≤ x) (h1 : x ≤ 255) : (x / 64 = 0 ∧ vw x = 1) ∨ (x / 64 = 1 ∧ vw x = 2) ∨ (x / 64 = 2 ∧ vw x = 4) ∨ (x / 64 = 3 ∧ vw x = 8) := by
  have h : x / 64 = 0 ∨ x / 64 = 1 ∨ x / 64 = 2 ∨ x / 64 = 3 := by omega
  unfold vw
  rcases h with h | h | h | h <;> rw [h] <;> simp
theorem and63 (x : Int) (h0 : 0 ≤ x) (h1 : x ≤ 255) : bits .and .u8 x 63 = x % 64 := by
  obtain ⟨n, rfl⟩ := Int.eq_ofNat_of_zero_le h0
  rw [show (63 : Int) = ((63 : Nat) : Int) from rfl, u8_and_nat n 63 (by omega) (by decide), show (63 : Nat) = 2 ^ 6 - 1 from rfl, Nat.and_two_pow_sub_one_eq_mod]
  omega
theorem or_byte (a b : Int) (h0 : 0 ≤ a) (h1 : a < 72057594037927936) (h2 : 0 ≤ b) (h3 : b ≤ 255) : bits .or .u64 (a * 256) b = a * 256 + b := by
  obtain ⟨A, rfl⟩ := Int.eq_ofNat_of_zero_le h0
  obtain ⟨B, rfl⟩ := Int.eq_ofNat_of_zero_le h2
  rw [show ((A : Int) * 256) = ((A * 256 : Nat) : Int) by omega, u64_or_nat (A * 256) B (by omega) (by omega)]
  have h := Nat.two_pow_add_eq_or_of_lt (i := 8) (b := B) (by omega) A
  rw [show A * 256 = 2 ^ 8 * A by omega, ← h]
  omega
theorem vw_pos (x : Int) : 0 < vw x := Nat.pow_pos (by decide)

theorem take_nil (v : Value) (w : World) (h : Rd w .u8 v []) :
    Calls Tryd.prog 34 #[v] w fun e w' => e = .returned (.tuple #[.int .u64 0, .slice none 0 0, .int .i64 2]) ∧ w = w' := by
  obtain ⟨A, cap, rfl⟩ := h.form
  go_enter Tryd.func34, Tryd.ntmps34
  go_wp2
  go_ret3
  exact ⟨rfl, rfl⟩

set_option maxHeartbeats 2000000 in
set_option maxRecDepth 100000 in
theorem take_yes1 (v : Value) (x0 : Int) (r : List Int) (w : World) (h : Rd w .u8 v (x0 :: r)) (hk : BytesOk (x0 :: r)) (hd : x0 / 64 = 0) (hr : r.length ≤ 1099511627776) :
    Calls Tryd.prog 34 #[v] w fun e w' => ∃ v', e = .returned (.tuple #[.int .u64 (x0 % 64), v', .int .i64 0]) ∧ w'.ownsRow w.heap.size 5 1 v' r.length (r.map (Value.int .u8)) ∧ Below w.heap.size w w' := by
  obtain ⟨A, cap, rfl⟩ := h.form
  obtain ⟨b, off, rfl, hb, c0⟩ := h.at_ 0 (by simp)
  have hrest : Rd w .u8 (.slice (some ⟨b, off + 1, none⟩) r.length (cap - 1)) r := by
    obtain ⟨A', cap', e, q1, q2, q3, q4⟩ := h
    simp only [Value.slice.injEq] at e
    obtain ⟨rfl, _, rfl⟩ := e
    refine ⟨_, _, rfl, by simp at q1; omega, by omega, fun e => (by cases e), fun i hi => ?_⟩
    obtain ⟨b', off', e, hb', hc⟩ := q4 (i + 1) (by simp; omega)
    simp only [Option.some.injEq, Addr.mk.injEq, and_true] at e
    obtain ⟨rfl, rfl⟩ := e
    refine ⟨b, _, rfl, hb', fun j hj => ?_⟩
    have := hc j hj
    rw [show off + 1 + (i * 1 + j) = off + ((i + 1) * 1 + j) by omega, this]
    simp
  have hcm := h.rdv.2.2.2.1
  have hlc := h.rdv.2.2.1
  unfold maxLen at hcm
  simp only [Nat.add_zero, List.getD_cons_zero] at c0
  have b0 := hk x0 (by simp)
  have hand := and63 x0 b0.1 b0.2
  obtain ⟨n, hn⟩ : ∃ n, n = (x0 :: r).length := ⟨_, rfl⟩
  rw [← hn] at hlc ⊢
  have hns : n = r.length + 1 := by simp at hn; omega
  have hn1 : 1 ≤ n := by omega
  have hl : ((n : Int) == 0) = false := by simp; omega
  have hl2 : decide ((n : Int) < 1) = false := by simp; omega
  clear hk h hn
  by_cases hcap : cap = 1
  · have hr0 : r = [] := List.eq_nil_of_length_eq_zero (by omega)
    subst hr0
    have hn2 : n = 1 := by simpa using hns
    subst hn2
    subst hcap
    clear hns hlc hn1 hrest
    have hrd : Rd w .u8 (.slice (some ⟨b, off, none⟩) 0 0) [] := ⟨_, _, rfl, Nat.le_refl _, Nat.zero_le _, fun _ => rfl, fun i hi => absurd hi (by simp)⟩
    skip
    go_enter Tryd.func34, Tryd.ntmps34
    go_wp2_with fail
    refine wp_loop_rounds 1 ?_
    rw [rounds_succ]
    go_wp2_with fail
    refine (clone_any _ _ _ (hrd) (by first | omega | simp)).mono ?_
    rintro e w' ⟨v', rfl, ho, hbl⟩
    go_wp2_with fail
    go_ret3
    exact ⟨v', rfl, ho, hbl⟩
  · have hcap2 : 1 < cap := by omega
    obtain ⟨rl, hrl⟩ : ∃ rl, rl = r.length := ⟨_, rfl⟩
    have hrd : Rd w .u8 (.slice (some ⟨b, off + 1, none⟩) (n - 1) (cap - 1)) r := by rw [show n - 1 = r.length by omega]; exact hrest
    clear hrest hrl
    have HNS := Lib.hid hns
    clear hns
    go_enter Tryd.func34, Tryd.ntmps34
    go_wp2_with fail
    refine wp_loop_rounds 1 ?_
    rw [rounds_succ]
    go_wp2_with fail
    refine (clone_any _ _ _ (hrd) hr).mono ?_
    rintro e w' ⟨v', rfl, ho, hbl⟩
    go_wp2_with fail
    go_ret3
    exact ⟨v', rfl, ho, hbl⟩

set_option maxRecDepth 100000 in
theorem take_short2 (v : Value) (x0 : Int) (r : List Int) (w : World) (h : Rd w .u8 v (x0 :: r)) (h0 : 0 ≤ x0) (h1 : x0 ≤ 255) (hd : x0 / 64 = 1) (hr : r.length + 1 < 2) :
    Calls Tryd.prog 34 #[v] w fun e w' => e = .returned (.tuple #[.int .u64 0, .slice none 0 0, .int .i64 2]) ∧ Below w.heap.size w w' := by
  obtain ⟨A, cap, rfl⟩ := h.form
  obtain ⟨b, off, rfl, hb, c0⟩ := h.at_ 0 (by simp)
  have hcm := h.rdv.2.2.2.1
  have hlc := h.rdv.2.2.1
  unfold maxLen at hcm
  simp only [Nat.add_zero, List.getD_cons_zero] at c0
  obtain ⟨n, hn⟩ : ∃ n, n = (x0 :: r).length := ⟨_, rfl⟩
  rw [← hn] at hlc ⊢
  have hn1 : 1 ≤ n ∧ n < 2 := by simp at hn; omega
  have hl : ((n : Int) == 0) = false := by simp; omega
  have hl2 : decide ((n : Int) < 2) = true := by simp; omega
  have HN := Lib.hid hn
  clear hn hr
  go_enter Tryd.func34, Tryd.ntmps34
  go_wp2
  go_ret3
  exact ⟨rfl, by first | exact Below.refl _ _ | exact (Below.refl _ _).alloc (Nat.le_refl _) _⟩

set_option maxHeartbeats 2000000 in
set_option maxRecDepth 100000 in
theorem take_yes2 (v : Value) (x0 x1 : Int) (r : List Int) (w : World) (h : Rd w .u8 v (x0 :: x1 :: r)) (hk : BytesOk (x0 :: x1 :: r)) (hd : x0 / 64 = 1) (hr : r.length ≤ 1099511627776) :
    Calls Tryd.prog 34 #[v] w fun e w' => ∃ v', e = .returned (.tuple #[.int .u64 ((x0 % 64) * 256 + x1), v', .int .i64 0]) ∧ w'.ownsRow w.heap.size 5 1 v' r.length (r.map (Value.int .u8)) ∧ Below w.heap.size w w' := by
  obtain ⟨A, cap, rfl⟩ := h.form
  obtain ⟨b, off, rfl, hb, c0⟩ := h.at_ 0 (by simp)
  have hrest : Rd w .u8 (.slice (some ⟨b, off + 2, none⟩) r.length (cap - 2)) r := by
    obtain ⟨A', cap', e, q1, q2, q3, q4⟩ := h
    simp only [Value.slice.injEq] at e
    obtain ⟨rfl, _, rfl⟩ := e
    refine ⟨_, _, rfl, by simp at q1; omega, by omega, fun e => (by cases e), fun i hi => ?_⟩
    obtain ⟨b', off', e, hb', hc⟩ := q4 (i + 2) (by simp; omega)
    simp only [Option.some.injEq, Addr.mk.injEq, and_true] at e
    obtain ⟨rfl, rfl⟩ := e
    refine ⟨b, _, rfl, hb', fun j hj => ?_⟩
    have := hc j hj
    rw [show off + 2 + (i * 1 + j) = off + ((i + 2) * 1 + j) by omega, this]
    simp
  have hcm := h.rdv.2.2.2.1
  have hlc := h.rdv.2.2.1
  unfold maxLen at hcm
  have c1 : w.cell? ⟨b, off + 1, none⟩ = some (.int .u8 x1) := by
    obtain ⟨b', off', e, _, hc⟩ := h.at_ 1 (by simp)
    simp only [Option.some.injEq, Addr.mk.injEq, and_true] at e
    obtain ⟨rfl, rfl⟩ := e
    simpa using hc
  simp only [Nat.add_zero, List.getD_cons_zero] at c0
  have b0 := hk x0 (by simp)
  have b1 := hk x1 (by simp)
  have hand := and63 x0 b0.1 b0.2
  have ho1 := or_byte (x0 % 64) x1 (by omega) (by omega) (by omega) (by omega)
  obtain ⟨n, hn⟩ : ∃ n, n = (x0 :: x1 :: r).length := ⟨_, rfl⟩
  rw [← hn] at hlc ⊢
  have hns : n = r.length + 2 := by simp at hn; omega
  have hn1 : 2 ≤ n := by omega
  have hl : ((n : Int) == 0) = false := by simp; omega
  have hl2 : decide ((n : Int) < 2) = false := by simp; omega
  clear hk h hn
  by_cases hcap : cap = 2
  · have hr0 : r = [] := List.eq_nil_of_length_eq_zero (by omega)
    subst hr0
    have hn2 : n = 2 := by simpa using hns
    subst hn2
    subst hcap
    clear hns hlc hn1 hrest
    have hrd : Rd w .u8 (.slice (some ⟨b, off, none⟩) 0 0) [] := ⟨_, _, rfl, Nat.le_refl _, Nat.zero_le _, fun _ => rfl, fun i hi => absurd hi (by simp)⟩
    skip
    go_enter Tryd.func34, Tryd.ntmps34
    go_wp2_with fail
    refine wp_loop_rounds 2 ?_
    rw [rounds_succ]
    go_wp2_with fail
    rw [rounds_succ]
    go_wp2_with fail
    refine (clone_any _ _ _ (hrd) (by first | omega | simp)).mono ?_
    rintro e w' ⟨v', rfl, ho, hbl⟩
    go_wp2_with fail
    go_ret3
    exact ⟨v', rfl, ho, hbl⟩
  · have hcap2 : 2 < cap := by omega
    obtain ⟨rl, hrl⟩ : ∃ rl, rl = r.length := ⟨_, rfl⟩
    have hrd : Rd w .u8 (.slice (some ⟨b, off + 2, none⟩) (n - 2) (cap - 2)) r := by rw [show n - 2 = r.length by omega]; exact hrest
    clear hrest hrl
    have HNS := Lib.hid hns
    clear hns
    go_enter Tryd.func34, Tryd.ntmps34
    go_wp2_with fail
    refine wp_loop_rounds 2 ?_
    rw [rounds_succ]
    go_wp2_with fail
    rw [rounds_succ]
    go_wp2_with fail
    refine (clone_any _ _ _ (hrd) hr).mono ?_
    rintro e w' ⟨v', rfl, ho, hbl⟩
    go_wp2_with fail
    go_ret3
    exact ⟨v', rfl, ho, hbl⟩

set_option maxRecDepth 100000 in
theorem take_short4 (v : Value) (x0 : Int) (r : List Int) (w : World) (h : Rd w .u8 v (x0 :: r)) (h0 : 0 ≤ x0) (h1 : x0 ≤ 255) (hd : x0 / 64 = 2) (hr : r.length + 1 < 4) :
    Calls Tryd.prog 34 #[v] w fun e w' => e = .returned (.tuple #[.int .u64 0, .slice none 0 0, .int .i64 2]) ∧ Below w.heap.size w w' := by
  obtain ⟨A, cap, rfl⟩ := h.form
  obtain ⟨b, off, rfl, hb, c0⟩ := h.at_ 0 (by simp)
  have hcm := h.rdv.2.2.2.1
  have hlc := h.rdv.2.2.1
  unfold maxLen at hcm
  simp only [Nat.add_zero, List.getD_cons_zero] at c0
  obtain ⟨n, hn⟩ : ∃ n, n = (x0 :: r).length := ⟨_, rfl⟩
  rw [← hn] at hlc ⊢
  have hn1 : 1 ≤ n ∧ n < 4 := by simp at hn; omega
  have hl : ((n : Int) == 0) = false := by simp; omega
  have hl2 : decide ((n : Int) < 4) = true := by simp; omega
  have HN := Lib.hid hn
  clear hn hr
  go_enter Tryd.func34, Tryd.ntmps34
  go_wp2
  go_ret3
  exact ⟨rfl, by first | exact Below.refl _ _ | exact (Below.refl _ _).alloc (Nat.le_refl _) _⟩

set_option maxHeartbeats 2000000 in
set_option maxRecDepth 100000 in
theorem take_yes4 (v : Value) (x0 x1 x2 x3 : Int) (r : List Int) (w : World) (h : Rd w .u8 v (x0 :: x1 :: x2 :: x3 :: r)) (hk : BytesOk (x0 :: x1 :: x2 :: x3 :: r)) (hd : x0 / 64 = 2) (hr : r.length ≤ 1099511627776) :
    Calls Tryd.prog 34 #[v] w fun e w' => ∃ v', e = .returned (.tuple #[.int .u64 ((((x0 % 64) * 256 + x1) * 256 + x2) * 256 + x3), v', .int .i64 0]) ∧ w'.ownsRow w.heap.size 5 1 v' r.length (r.map (Value.int .u8)) ∧ Below w.heap.size w w' := by
  obtain ⟨A, cap, rfl⟩ := h.form
  obtain ⟨b, off, rfl, hb, c0⟩ := h.at_ 0 (by simp)
  have hrest : Rd w .u8 (.slice (some ⟨b, off + 4, none⟩) r.length (cap - 4)) r := by
    obtain ⟨A', cap', e, q1, q2, q3, q4⟩ := h
    simp only [Value.slice.injEq] at e
    obtain ⟨rfl, _, rfl⟩ := e
    refine ⟨_, _, rfl, by simp at q1; omega, by omega, fun e => (by cases e), fun i hi => ?_⟩
    obtain ⟨b', off', e, hb', hc⟩ := q4 (i + 4) (by simp; omega)
    simp only [Option.some.injEq, Addr.mk.injEq, and_true] at e
    obtain ⟨rfl, rfl⟩ := e
    refine ⟨b, _, rfl, hb', fun j hj => ?_⟩
    have := hc j hj
    rw [show off + 4 + (i * 1 + j) = off + ((i + 4) * 1 + j) by omega, this]
    simp
  have hcm := h.rdv.2.2.2.1
  have hlc := h.rdv.2.2.1
  unfold maxLen at hcm
  have c1 : w.cell? ⟨b, off + 1, none⟩ = some (.int .u8 x1) := by
    obtain ⟨b', off', e, _, hc⟩ := h.at_ 1 (by simp)
    simp only [Option.some.injEq, Addr.mk.injEq, and_true] at e
    obtain ⟨rfl, rfl⟩ := e
    simpa using hc
  have c2 : w.cell? ⟨b, off + 2, none⟩ = some (.int .u8 x2) := by
    obtain ⟨b', off', e, _, hc⟩ := h.at_ 2 (by simp)
    simp only [Option.some.injEq, Addr.mk.injEq, and_true] at e
    obtain ⟨rfl, rfl⟩ := e
    simpa using hc
  have c3 : w.cell? ⟨b, off + 3, none⟩ = some (.int .u8 x3) := by
    obtain ⟨b', off', e, _, hc⟩ := h.at_ 3 (by simp)
    simp only [Option.some.injEq, Addr.mk.injEq, and_true] at e
    obtain ⟨rfl, rfl⟩ := e
    simpa using hc
  simp only [Nat.add_zero, List.getD_cons_zero] at c0
  have b0 := hk x0 (by simp)
  have b1 := hk x1 (by simp)
  have b2 := hk x2 (by simp)
  have b3 := hk x3 (by simp)
  have hand := and63 x0 b0.1 b0.2
  have ho1 := or_byte (x0 % 64) x1 (by omega) (by omega) (by omega) (by omega)
  have ho2 := or_byte ((x0 % 64) * 256 + x1) x2 (by omega) (by omega) (by omega) (by omega)
  have ho3 := or_byte (((x0 % 64) * 256 + x1) * 256 + x2) x3 (by omega) (by omega) (by omega) (by omega)
  obtain ⟨n, hn⟩ : ∃ n, n = (x0 :: x1 :: x2 :: x3 :: r).length := ⟨_, rfl⟩
  rw [← hn] at hlc ⊢
  have hns : n = r.length + 4 := by simp at hn; omega
  have hn1 : 4 ≤ n := by omega
  have hl : ((n : Int) == 0) = false := by simp; omega
  have hl2 : decide ((n : Int) < 4) = false := by simp; omega
  clear hk h hn
  by_cases hcap : cap = 4
  · have hr0 : r = [] := List.eq_nil_of_length_eq_zero (by omega)
    subst hr0
    have hn2 : n = 4 := by simpa using hns
    subst hn2
    subst hcap
    clear hns hlc hn1 hrest
    have hrd : Rd w .u8 (.slice (some ⟨b, off, none⟩) 0 0) [] := ⟨_, _, rfl, Nat.le_refl _, Nat.zero_le _, fun _ => rfl, fun i hi => absurd hi (by simp)⟩
    skip
    go_enter Tryd.func34, Tryd.ntmps34
    go_wp2_with fail
    refine wp_loop_rounds 4 ?_
    rw [rounds_succ]
    go_wp2_with fail
    rw [rounds_succ]
    go_wp2_with fail
    rw [rounds_succ]
    go_wp2_with fail
    rw [rounds_succ]
    go_wp2_with fail
    refine (clone_any _ _ _ (hrd) (by first | omega | simp)).mono ?_
    rintro e w' ⟨v', rfl, ho, hbl⟩
    go_wp2_with fail
    go_ret3
    exact ⟨v', rfl, ho, hbl⟩
  · have hcap2 : 4 < cap := by omega
    obtain ⟨rl, hrl⟩ : ∃ rl, rl = r.length := ⟨_, rfl⟩
    have hrd : Rd w .u8 (.slice (some ⟨b, off + 4, none⟩) (n - 4) (cap - 4)) r := by rw [show n - 4 = r.length by omega]; exact hrest
    clear hrest hrl
    have HNS := Lib.hid hns
    clear hns
    go_enter Tryd.func34, Tryd.ntmps34
    go_wp2_with fail
    refine wp_loop_rounds 4 ?_
    rw [rounds_succ]
    go_wp2_with fail
    rw [rounds_succ]
    go_wp2_with fail
    rw [rounds_succ]
    go_wp2_with fail
    rw [rounds_succ]
    go_wp2_with fail
    refine (clone_any _ _ _ (hrd) hr).mono ?_
    rintro e w' ⟨v', rfl, ho, hbl⟩
    go_wp2_with fail
    go_ret3
    exact ⟨v', rfl, ho, hbl⟩

set_option maxRecDepth 100000 in
theorem take_short8 (v : Value) (x0 : Int) (r : List Int) (w : World) (h : Rd w .u8 v (x0 :: r)) (h0 : 0 ≤ x0) (h1 : x0 ≤ 255) (hd : x0 / 64 = 3) (hr : r.length + 1 < 8) :
    Calls Tryd.prog 34 #[v] w fun e w' => e = .returned (.tuple #[.int .u64 0, .slice none 0 0, .int .i64 2]) ∧ Below w.heap.size w w' := by
  obtain ⟨A, cap, rfl⟩ := h.form
  obtain ⟨b, off, rfl, hb, c0⟩ := h.at_ 0 (by simp)
  have hcm := h.rdv.2.2.2.1
  have hlc := h.rdv.2.2.1
  unfold maxLen at hcm
  simp only [Nat.add_zero, List.getD_cons_zero] at c0
  obtain ⟨n, hn⟩ : ∃ n, n = (x0 :: r).length := ⟨_, rfl⟩
  rw [← hn] at hlc ⊢
  have hn1 : 1 ≤ n ∧ n < 8 := by simp at hn; omega
  have hl : ((n : Int) == 0) = false := by simp; omega
  have hl2 : decide ((n : Int) < 8) = true := by simp; omega
  have HN := Lib.hid hn
  clear hn hr
  go_enter Tryd.func34, Tryd.ntmps34
  go_wp2
  go_ret3
  exact ⟨rfl, by first | exact Below.refl _ _ | exact (Below.refl _ _).alloc (Nat.le_refl _) _⟩

set_option maxHeartbeats 2000000 in
set_option maxRecDepth 100000 in
theorem take_yes8 (v : Value) (x0 x1 x2 x3 x4 x5 x6 x7 : Int) (r : List Int) (w : World) (h : Rd w .u8 v (x0 :: x1 :: x2 :: x3 :: x4 :: x5 :: x6 :: x7 :: r)) (hk : BytesOk (x0 :: x1 :: x2 :: x3 :: x4 :: x5 :: x6 :: x7 :: r)) (hd : x0 / 64 = 3) (hr : r.length ≤ 1099511627776) :
    Calls Tryd.prog 34 #[v] w fun e w' => ∃ v', e = .returned (.tuple #[.int .u64 ((((((((x0 % 64) * 256 + x1) * 256 + x2) * 256 + x3) * 256 + x4) * 256 + x5) * 256 + x6) * 256 + x7), v', .int .i64 0]) ∧ w'.ownsRow w.heap.size 5 1 v' r.length (r.map (Value.int .u8)) ∧ Below w.heap.size w w' := by
  obtain ⟨A, cap, rfl⟩ := h.form
  obtain ⟨b, off, rfl, hb, c0⟩ := h.at_ 0 (by simp)
  have hrest : Rd w .u8 (.slice (some ⟨b, off + 8, none⟩) r.length (cap - 8)) r := by
    obtain ⟨A', cap', e, q1, q2, q3, q4⟩ := h
    simp only [Value.slice.injEq] at e
    obtain ⟨rfl, _, rfl⟩ := e
    refine ⟨_, _, rfl, by simp at q1; omega, by omega, fun e => (by cases e), fun i hi => ?_⟩
    obtain ⟨b', off', e, hb', hc⟩ := q4 (i + 8) (by simp; omega)
    simp only [Option.some.injEq, Addr.mk.injEq, and_true] at e
    obtain ⟨rfl, rfl⟩ := e
    refine ⟨b, _, rfl, hb', fun j hj => ?_⟩
    have := hc j hj
    rw [show off + 8 + (i * 1 + j) = off + ((i + 8) * 1 + j) by omega, this]
    simp
  have hcm := h.rdv.2.2.2.1
  have hlc := h.rdv.2.2.1
  unfold maxLen at hcm
  have c1 : w.cell? ⟨b, off + 1, none⟩ = some (.int .u8 x1) := by
    obtain ⟨b', off', e, _, hc⟩ := h.at_ 1 (by simp)
    simp only [Option.some.injEq, Addr.mk.injEq, and_true] at e
    obtain ⟨rfl, rfl⟩ := e
    simpa using hc
  have c2 : w.cell? ⟨b, off + 2, none⟩ = some (.int .u8 x2) := by
    obtain ⟨b', off', e, _, hc⟩ := h.at_ 2 (by simp)
    simp only [Option.some.injEq, Addr.mk.injEq, and_true] at e
    obtain ⟨rfl, rfl⟩ := e
    simpa using hc
  have c3 : w.cell? ⟨b, off + 3, none⟩ = some (.int .u8 x3) := by
    obtain ⟨b', off', e, _, hc⟩ := h.at_ 3 (by simp)
    simp only [Option.some.injEq, Addr.mk.injEq, and_true] at e
    obtain ⟨rfl, rfl⟩ := e
    simpa using hc
  have c4 : w.cell? ⟨b, off + 4, none⟩ = some (.int .u8 x4) := by
    obtain ⟨b', off', e, _, hc⟩ := h.at_ 4 (by simp)
    simp only [Option.some.injEq, Addr.mk.injEq, and_true] at e
    obtain ⟨rfl, rfl⟩ := e
    simpa using hc
  have c5 : w.cell? ⟨b, off + 5, none⟩ = some (.int .u8 x5) := by
    obtain ⟨b', off', e, _, hc⟩ := h.at_ 5 (by simp)
    simp only [Option.some.injEq, Addr.mk.injEq, and_true] at e
    obtain ⟨rfl, rfl⟩ := e
    simpa using hc
  have c6 : w.cell? ⟨b, off + 6, none⟩ = some (.int .u8 x6) := by
    obtain ⟨b', off', e, _, hc⟩ := h.at_ 6 (by simp)
    simp only [Option.some.injEq, Addr.mk.injEq, and_true] at e
    obtain ⟨rfl, rfl⟩ := e
    simpa using hc
  have c7 : w.cell? ⟨b, off + 7, none⟩ = some (.int .u8 x7) := by
    obtain ⟨b', off', e, _, hc⟩ := h.at_ 7 (by simp)
    simp only [Option.some.injEq, Addr.mk.injEq, and_true] at e
    obtain ⟨rfl, rfl⟩ := e
    simpa using hc
  simp only [Nat.add_zero, List.getD_cons_zero] at c0
  have b0 := hk x0 (by simp)
  have b1 := hk x1 (by simp)
  have b2 := hk x2 (by simp)
  have b3 := hk x3 (by simp)
  have b4 := hk x4 (by simp)
  have b5 := hk x5 (by simp)
  have b6 := hk x6 (by simp)
  have b7 := hk x7 (by simp)
  have hand := and63 x0 b0.1 b0.2
  have ho1 := or_byte (x0 % 64) x1 (by omega) (by omega) (by omega) (by omega)
  have ho2 := or_byte ((x0 % 64) * 256 + x1) x2 (by omega) (by omega) (by omega) (by omega)
  have ho3 := or_byte (((x0 % 64) * 256 + x1) * 256 + x2) x3 (by omega) (by omega) (by omega) (by omega)
  have ho4 := or_byte ((((x0 % 64) * 256 + x1) * 256 + x2) * 256 + x3) x4 (by omega) (by omega) (by omega) (by omega)
  have ho5 := or_byte (((((x0 % 64) * 256 + x1) * 256 + x2) * 256 + x3) * 256 + x4) x5 (by omega) (by omega) (by omega) (by omega)
  have ho6 := or_byte ((((((x0 % 64) * 256 + x1) * 256 + x2) * 256 + x3) * 256 + x4) * 256 + x5) x6 (by omega) (by omega) (by omega) (by omega)
  have ho7 := or_byte (((((((x0 % 64) * 256 + x1) * 256 + x2) * 256 + x3) * 256 + x4) * 256 + x5) * 256 + x6) x7 (by omega) (by omega) (by omega) (by omega)
  obtain ⟨n, hn⟩ : ∃ n, n = (x0 :: x1 :: x2 :: x3 :: x4 :: x5 :: x6 :: x7 :: r).length := ⟨_, rfl⟩
  rw [← hn] at hlc ⊢
  have hns : n = r.length + 8 := by simp at hn; omega
  have hn1 : 8 ≤ n := by omega
  have hl : ((n : Int) == 0) = false := by simp; omega
  have hl2 : decide ((n : Int) < 8) = false := by simp; omega
  clear hk h hn
  by_cases hcap : cap = 8
  · have hr0 : r = [] := List.eq_nil_of_length_eq_zero (by omega)
    subst hr0
    have hn2 : n = 8 := by simpa using hns
    subst hn2
    subst hcap
    clear hns hlc hn1 hrest
    have hrd : Rd w .u8 (.slice (some ⟨b, off, none⟩) 0 0) [] := ⟨_, _, rfl, Nat.le_refl _, Nat.zero_le _, fun _ => rfl, fun i hi => absurd hi (by simp)⟩
    skip
    go_enter Tryd.func34, Tryd.ntmps34
    go_wp2_with fail
    refine wp_loop_rounds 8 ?_
    rw [rounds_succ]
    go_wp2_with fail
    rw [rounds_succ]
    go_wp2_with fail
    rw [rounds_succ]
    go_wp2_with fail
    rw [rounds_succ]
    go_wp2_with fail
    rw [rounds_succ]
    go_wp2_with fail
    rw [rounds_succ]
    go_wp2_with fail
    rw [rounds_succ]
    go_wp2_with fail
    rw [rounds_succ]
    go_wp2_with fail
    refine (clone_any _ _ _ (hrd) (by first | omega | simp)).mono ?_
    rintro e w' ⟨v', rfl, ho, hbl⟩
    go_wp2_with fail
    go_ret3
    exact ⟨v', rfl, ho, hbl⟩
  · have hcap2 : 8 < cap := by omega
    obtain ⟨rl, hrl⟩ : ∃ rl, rl = r.length := ⟨_, rfl⟩
    have hrd : Rd w .u8 (.slice (some ⟨b, off + 8, none⟩) (n - 8) (cap - 8)) r := by rw [show n - 8 = r.length by omega]; exact hrest
    clear hrest hrl
    have HNS := Lib.hid hns
    clear hns
    go_enter Tryd.func34, Tryd.ntmps34
    go_wp2_with fail
    refine wp_loop_rounds 8 ?_
    rw [rounds_succ]
    go_wp2_with fail
    rw [rounds_succ]
    go_wp2_with fail
    rw [rounds_succ]
    go_wp2_with fail
    rw [rounds_succ]
    go_wp2_with fail
    rw [rounds_succ]
    go_wp2_with fail
    rw [rounds_succ]
    go_wp2_with fail
    rw [rounds_succ]
    go_wp2_with fail
    rw [rounds_succ]
    go_wp2_with fail
    refine (clone_any _ _ _ (hrd) hr).mono ?_
    rintro e w' ⟨v', rfl, ho, hbl⟩
    go_wp2_with fail
    go_ret3
    exact ⟨v', rfl, ho, hbl⟩

theorem rtake_nil (v : Value) (w : World) (h : Rd w .u8 v []) :
    Calls Tryd.prog 37 #[v] w fun e w' => e = .returned (.tuple #[.int .u64 0, .slice none 0 0, .int .i64 2]) ∧ w = w' := by
  obtain ⟨A, cap, rfl⟩ := h.form
  go_enter Tryd.func37, Tryd.ntmps37
  go_wp2
  go_ret3
  exact ⟨rfl, rfl⟩

set_option maxHeartbeats 2000000 in
set_option maxRecDepth 100000 in
theorem rtake_yes1 (v : Value) (x0 : Int) (r : List Int) (w : World) (h : Rd w .u8 v (x0 :: r)) (hk : BytesOk (x0 :: r)) (hd : x0 / 64 = 0) (hr : r.length ≤ 1099511627776) :
    Calls Tryd.prog 37 #[v] w fun e w' => ∃ v', e = .returned (.tuple #[.int .u64 (x0 % 64), v', .int .i64 0]) ∧ w'.ownsRow w.heap.size 5 1 v' r.length (r.map (Value.int .u8)) ∧ Below w.heap.size w w' := by
  obtain ⟨A, cap, rfl⟩ := h.form
  obtain ⟨b, off, rfl, hb, c0⟩ := h.at_ 0 (by simp)
  have hrest : Rd w .u8 (.slice (some ⟨b, off + 1, none⟩) r.length (cap - 1)) r := by
    obtain ⟨A', cap', e, q1, q2, q3, q4⟩ := h
    simp only [Value.slice.injEq] at e
    obtain ⟨rfl, _, rfl⟩ := e
    refine ⟨_, _, rfl, by simp at q1; omega, by omega, fun e => (by cases e), fun i hi => ?_⟩
    obtain ⟨b', off', e, hb', hc⟩ := q4 (i + 1) (by simp; omega)
    simp only [Option.some.injEq, Addr.mk.injEq, and_true] at e
    obtain ⟨rfl, rfl⟩ := e
    refine ⟨b, _, rfl, hb', fun j hj => ?_⟩
    have := hc j hj
    rw [show off + 1 + (i * 1 + j) = off + ((i + 1) * 1 + j) by omega, this]
    simp
  have hcm := h.rdv.2.2.2.1
  have hlc := h.rdv.2.2.1
  unfold maxLen at hcm
  simp only [Nat.add_zero, List.getD_cons_zero] at c0
  have b0 := hk x0 (by simp)
  have n0 := World.new_ne w _ c0
  obtain ⟨n, hn⟩ : ∃ n, n = (x0 :: r).length := ⟨_, rfl⟩
  rw [← hn] at hlc ⊢
  have hns : n = r.length + 1 := by simp at hn; omega
  have hn1 : 1 ≤ n := by omega
  have hl : ((n : Int) == 0) = false := by simp; omega
  have hl2 : decide ((n : Int) < 1) = false := by simp; omega
  clear hk h hn
  by_cases hcap : cap = 1
  · have hr0 : r = [] := List.eq_nil_of_length_eq_zero (by omega)
    subst hr0
    have hn2 : n = 1 := by simpa using hns
    subst hn2
    subst hcap
    clear hns hlc hn1 hrest
    have hrd : Rd w .u8 (.slice (some ⟨b, off, none⟩) 0 0) [] := ⟨_, _, rfl, Nat.le_refl _, Nat.zero_le _, fun _ => rfl, fun i hi => absurd hi (by simp)⟩
    skip
    go_enter Tryd.func37, Tryd.ntmps37
    go_wp2_with fail
    refine wp_loop_rounds 1 ?_
    rw [rounds_succ]
    go_wp2_with fail
    refine (copy_any _ _ _ (hrd.alloc (.cells #[.int .i64 1, .int .i64 2, .int .i64 4, .int .i64 8] 3)) (by first | omega | simp)).mono ?_
    rintro e w' ⟨v', rfl, ho, hbl⟩
    go_wp2_with fail
    go_ret3
    exact ⟨v', rfl, own_base ho (by simp), ((Below.refl _ _).alloc (Nat.le_refl _) _).trans (hbl.mono (by simp))⟩
  · have hcap2 : 1 < cap := by omega
    obtain ⟨rl, hrl⟩ : ∃ rl, rl = r.length := ⟨_, rfl⟩
    have hrd : Rd w .u8 (.slice (some ⟨b, off + 1, none⟩) (n - 1) (cap - 1)) r := by rw [show n - 1 = r.length by omega]; exact hrest
    clear hrest hrl
    have HNS := Lib.hid hns
    clear hns
    go_enter Tryd.func37, Tryd.ntmps37
    go_wp2_with fail
    refine wp_loop_rounds 1 ?_
    rw [rounds_succ]
    go_wp2_with fail
    refine (copy_any _ _ _ (hrd.alloc (.cells #[.int .i64 1, .int .i64 2, .int .i64 4, .int .i64 8] 3)) hr).mono ?_
    rintro e w' ⟨v', rfl, ho, hbl⟩
    go_wp2_with fail
    go_ret3
    exact ⟨v', rfl, own_base ho (by simp), ((Below.refl _ _).alloc (Nat.le_refl _) _).trans (hbl.mono (by simp))⟩

set_option maxRecDepth 100000 in
theorem rtake_short2 (v : Value) (x0 : Int) (r : List Int) (w : World) (h : Rd w .u8 v (x0 :: r)) (h0 : 0 ≤ x0) (h1 : x0 ≤ 255) (hd : x0 / 64 = 1) (hr : r.length + 1 < 2) :
    Calls Tryd.prog 37 #[v] w fun e w' => e = .returned (.tuple #[.int .u64 0, .slice none 0 0, .int .i64 2]) ∧ Below w.heap.size w w' := by
  obtain ⟨A, cap, rfl⟩ := h.form
  obtain ⟨b, off, rfl, hb, c0⟩ := h.at_ 0 (by simp)
  have hcm := h.rdv.2.2.2.1
  have hlc := h.rdv.2.2.1
  unfold maxLen at hcm
  simp only [Nat.add_zero, List.getD_cons_zero] at c0
  obtain ⟨n, hn⟩ : ∃ n, n = (x0 :: r).length := ⟨_, rfl⟩
  rw [← hn] at hlc ⊢
  have hn1 : 1 ≤ n ∧ n < 2 := by simp at hn; omega
  have hl : ((n : Int) == 0) = false := by simp; omega
  have hl2 : decide ((n : Int) < 2) = true := by simp; omega
  have HN := Lib.hid hn
  clear hn hr
  have hb1 := World.new_ne w ⟨b, off, none⟩ c0
  go_enter Tryd.func37, Tryd.ntmps37
  go_wp2
  go_ret3
  exact ⟨rfl, by first | exact Below.refl _ _ | exact (Below.refl _ _).alloc (Nat.le_refl _) _⟩

set_option maxHeartbeats 2000000 in
set_option maxRecDepth 100000 in
theorem rtake_yes2 (v : Value) (x0 x1 : Int) (r : List Int) (w : World) (h : Rd w .u8 v (x0 :: x1 :: r)) (hk : BytesOk (x0 :: x1 :: r)) (hd : x0 / 64 = 1) (hr : r.length ≤ 1099511627776) :
    Calls Tryd.prog 37 #[v] w fun e w' => ∃ v', e = .returned (.tuple #[.int .u64 ((x0 % 64) * 256 + x1), v', .int .i64 0]) ∧ w'.ownsRow w.heap.size 5 1 v' r.length (r.map (Value.int .u8)) ∧ Below w.heap.size w w' := by
  obtain ⟨A, cap, rfl⟩ := h.form
  obtain ⟨b, off, rfl, hb, c0⟩ := h.at_ 0 (by simp)
  have hrest : Rd w .u8 (.slice (some ⟨b, off + 2, none⟩) r.length (cap - 2)) r := by
    obtain ⟨A', cap', e, q1, q2, q3, q4⟩ := h
    simp only [Value.slice.injEq] at e
    obtain ⟨rfl, _, rfl⟩ := e
    refine ⟨_, _, rfl, by simp at q1; omega, by omega, fun e => (by cases e), fun i hi => ?_⟩
    obtain ⟨b', off', e, hb', hc⟩ := q4 (i + 2) (by simp; omega)
    simp only [Option.some.injEq, Addr.mk.injEq, and_true] at e
    obtain ⟨rfl, rfl⟩ := e
    refine ⟨b, _, rfl, hb', fun j hj => ?_⟩
    have := hc j hj
    rw [show off + 2 + (i * 1 + j) = off + ((i + 2) * 1 + j) by omega, this]
    simp
  have hcm := h.rdv.2.2.2.1
  have hlc := h.rdv.2.2.1
  unfold maxLen at hcm
  have c1 : w.cell? ⟨b, off + 1, none⟩ = some (.int .u8 x1) := by
    obtain ⟨b', off', e, _, hc⟩ := h.at_ 1 (by simp)
    simp only [Option.some.injEq, Addr.mk.injEq, and_true] at e
    obtain ⟨rfl, rfl⟩ := e
    simpa using hc
  simp only [Nat.add_zero, List.getD_cons_zero] at c0
  have b0 := hk x0 (by simp)
  have b1 := hk x1 (by simp)
  have n0 := World.new_ne w _ c0
  have n1 := World.new_ne w _ c1
  obtain ⟨n, hn⟩ : ∃ n, n = (x0 :: x1 :: r).length := ⟨_, rfl⟩
  rw [← hn] at hlc ⊢
  have hns : n = r.length + 2 := by simp at hn; omega
  have hn1 : 2 ≤ n := by omega
  have hl : ((n : Int) == 0) = false := by simp; omega
  have hl2 : decide ((n : Int) < 2) = false := by simp; omega
  clear hk h hn
  by_cases hcap : cap = 2
  · have hr0 : r = [] := List.eq_nil_of_length_eq_zero (by omega)
    subst hr0
    have hn2 : n = 2 := by simpa using hns
    subst hn2
    subst hcap
    clear hns hlc hn1 hrest
    have hrd : Rd w .u8 (.slice (some ⟨b, off, none⟩) 0 0) [] := ⟨_, _, rfl, Nat.le_refl _, Nat.zero_le _, fun _ => rfl, fun i hi => absurd hi (by simp)⟩
    skip
    go_enter Tryd.func37, Tryd.ntmps37
    go_wp2_with fail
    refine wp_loop_rounds 2 ?_
    rw [rounds_succ]
    go_wp2_with fail
    rw [rounds_succ]
    go_wp2_with fail
    refine (copy_any _ _ _ (hrd.alloc (.cells #[.int .i64 1, .int .i64 2, .int .i64 4, .int .i64 8] 3)) (by first | omega | simp)).mono ?_
    rintro e w' ⟨v', rfl, ho, hbl⟩
    go_wp2_with fail
    go_ret3
    exact ⟨v', rfl, own_base ho (by simp), ((Below.refl _ _).alloc (Nat.le_refl _) _).trans (hbl.mono (by simp))⟩
  · have hcap2 : 2 < cap := by omega
    obtain ⟨rl, hrl⟩ : ∃ rl, rl = r.length := ⟨_, rfl⟩
    have hrd : Rd w .u8 (.slice (some ⟨b, off + 2, none⟩) (n - 2) (cap - 2)) r := by rw [show n - 2 = r.length by omega]; exact hrest
    clear hrest hrl
    have HNS := Lib.hid hns
    clear hns
    go_enter Tryd.func37, Tryd.ntmps37
    go_wp2_with fail
    refine wp_loop_rounds 2 ?_
    rw [rounds_succ]
    go_wp2_with fail
    rw [rounds_succ]
    go_wp2_with fail
    refine (copy_any _ _ _ (hrd.alloc (.cells #[.int .i64 1, .int .i64 2, .int .i64 4, .int .i64 8] 3)) hr).mono ?_
    rintro e w' ⟨v', rfl, ho, hbl⟩
    go_wp2_with fail
    go_ret3
    exact ⟨v', rfl, own_base ho (by simp), ((Below.refl _ _).alloc (Nat.le_refl _) _).trans (hbl.mono (by simp))⟩

set_option maxRecDepth 100000 in
theorem rtake_short4 (v : Value) (x0 : Int) (r : List Int) (w : World) (h : Rd w .u8 v (x0 :: r)) (h0 : 0 ≤ x0) (h1 : x0 ≤ 255) (hd : x0 / 64 = 2) (hr : r.length + 1 < 4) :
    Calls Tryd.prog 37 #[v] w fun e w' => e = .returned (.tuple #[.int .u64 0, .slice none 0 0, .int .i64 2]) ∧ Below w.heap.size w w' := by
  obtain ⟨A, cap, rfl⟩ := h.form
  obtain ⟨b, off, rfl, hb, c0⟩ := h.at_ 0 (by simp)
  have hcm := h.rdv.2.2.2.1
  have hlc := h.rdv.2.2.1
  unfold maxLen at hcm
  simp only [Nat.add_zero, List.getD_cons_zero] at c0
  obtain ⟨n, hn⟩ : ∃ n, n = (x0 :: r).length := ⟨_, rfl⟩
  rw [← hn] at hlc ⊢
  have hn1 : 1 ≤ n ∧ n < 4 := by simp at hn; omega
  have hl : ((n : Int) == 0) = false := by simp; omega
  have hl2 : decide ((n : Int) < 4) = true := by simp; omega
  have HN := Lib.hid hn
  clear hn hr
  have hb1 := World.new_ne w ⟨b, off, none⟩ c0
  go_enter Tryd.func37, Tryd.ntmps37
  go_wp2
  go_ret3
  exact ⟨rfl, by first | exact Below.refl _ _ | exact (Below.refl _ _).alloc (Nat.le_refl _) _⟩

set_option maxHeartbeats 2000000 in
set_option maxRecDepth 100000 in
theorem rtake_yes4 (v : Value) (x0 x1 x2 x3 : Int) (r : List Int) (w : World) (h : Rd w .u8 v (x0 :: x1 :: x2 :: x3 :: r)) (hk : BytesOk (x0 :: x1 :: x2 :: x3 :: r)) (hd : x0 / 64 = 2) (hr : r.length ≤ 1099511627776) :
    Calls Tryd.prog 37 #[v] w fun e w' => ∃ v', e = .returned (.tuple #[.int .u64 ((((x0 % 64) * 256 + x1) * 256 + x2) * 256 + x3), v', .int .i64 0]) ∧ w'.ownsRow w.heap.size 5 1 v' r.length (r.map (Value.int .u8)) ∧ Below w.heap.size w w' := by
  obtain ⟨A, cap, rfl⟩ := h.form
  obtain ⟨b, off, rfl, hb, c0⟩ := h.at_ 0 (by simp)
  have hrest : Rd w .u8 (.slice (some ⟨b, off + 4, none⟩) r.length (cap - 4)) r := by
    obtain ⟨A', cap', e, q1, q2, q3, q4⟩ := h
    simp only [Value.slice.injEq] at e
    obtain ⟨rfl, _, rfl⟩ := e
    refine ⟨_, _, rfl, by simp at q1; omega, by omega, fun e => (by cases e), fun i hi => ?_⟩
    obtain ⟨b', off', e, hb', hc⟩ := q4 (i + 4) (by simp; omega)
    simp only [Option.some.injEq, Addr.mk.injEq, and_true] at e
    obtain ⟨rfl, rfl⟩ := e
    refine ⟨b, _, rfl, hb', fun j hj => ?_⟩
    have := hc j hj
    rw [show off + 4 + (i * 1 + j) = off + ((i + 4) * 1 + j) by omega, this]
    simp
  have hcm := h.rdv.2.2.2.1
  have hlc := h.rdv.2.2.1
  unfold maxLen at hcm
  have c1 : w.cell? ⟨b, off + 1, none⟩ = some (.int .u8 x1) := by
    obtain ⟨b', off', e, _, hc⟩ := h.at_ 1 (by simp)
    simp only [Option.some.injEq, Addr.mk.injEq, and_true] at e
    obtain ⟨rfl, rfl⟩ := e
    simpa using hc
  have c2 : w.cell? ⟨b, off + 2, none⟩ = some (.int .u8 x2) := by
    obtain ⟨b', off', e, _, hc⟩ := h.at_ 2 (by simp)
    simp only [Option.some.injEq, Addr.mk.injEq, and_true] at e
    obtain ⟨rfl, rfl⟩ := e
    simpa using hc
  have c3 : w.cell? ⟨b, off + 3, none⟩ = some (.int .u8 x3) := by
    obtain ⟨b', off', e, _, hc⟩ := h.at_ 3 (by simp)
    simp only [Option.some.injEq, Addr.mk.injEq, and_true] at e
    obtain ⟨rfl, rfl⟩ := e
    simpa using hc
  simp only [Nat.add_zero, List.getD_cons_zero] at c0
  have b0 := hk x0 (by simp)
  have b1 := hk x1 (by simp)
  have b2 := hk x2 (by simp)
  have b3 := hk x3 (by simp)
  have n0 := World.new_ne w _ c0
  have n1 := World.new_ne w _ c1
  have n2 := World.new_ne w _ c2
  have n3 := World.new_ne w _ c3
  obtain ⟨n, hn⟩ : ∃ n, n = (x0 :: x1 :: x2 :: x3 :: r).length := ⟨_, rfl⟩
  rw [← hn] at hlc ⊢
  have hns : n = r.length + 4 := by simp at hn; omega
  have hn1 : 4 ≤ n := by omega
  have hl : ((n : Int) == 0) = false := by simp; omega
  have hl2 : decide ((n : Int) < 4) = false := by simp; omega
  clear hk h hn
  by_cases hcap : cap = 4
  · have hr0 : r = [] := List.eq_nil_of_length_eq_zero (by omega)
    subst hr0
    have hn2 : n = 4 := by simpa using hns
    subst hn2
    subst hcap
    clear hns hlc hn1 hrest
    have hrd : Rd w .u8 (.slice (some ⟨b, off, none⟩) 0 0) [] := ⟨_, _, rfl, Nat.le_refl _, Nat.zero_le _, fun _ => rfl, fun i hi => absurd hi (by simp)⟩
    skip
    go_enter Tryd.func37, Tryd.ntmps37
    go_wp2_with fail
    refine wp_loop_rounds 4 ?_
    rw [rounds_succ]
    go_wp2_with fail
    rw [rounds_succ]
    go_wp2_with fail
    rw [rounds_succ]
    go_wp2_with fail
    rw [rounds_succ]
    go_wp2_with fail
    refine (copy_any _ _ _ (hrd.alloc (.cells #[.int .i64 1, .int .i64 2, .int .i64 4, .int .i64 8] 3)) (by first | omega | simp)).mono ?_
    rintro e w' ⟨v', rfl, ho, hbl⟩
    go_wp2_with fail
    go_ret3
    exact ⟨v', rfl, own_base ho (by simp), ((Below.refl _ _).alloc (Nat.le_refl _) _).trans (hbl.mono (by simp))⟩
  · have hcap2 : 4 < cap := by omega
    obtain ⟨rl, hrl⟩ : ∃ rl, rl = r.length := ⟨_, rfl⟩
    have hrd : Rd w .u8 (.slice (some ⟨b, off + 4, none⟩) (n - 4) (cap - 4)) r := by rw [show n - 4 = r.length by omega]; exact hrest
    clear hrest hrl
    have HNS := Lib.hid hns
    clear hns
    go_enter Tryd.func37, Tryd.ntmps37
    go_wp2_with fail
    refine wp_loop_rounds 4 ?_
    rw [rounds_succ]
    go_wp2_with fail
    rw [rounds_succ]
    go_wp2_with fail
    rw [rounds_succ]
    go_wp2_with fail
    rw [rounds_succ]
    go_wp2_with fail
    refine (copy_any _ _ _ (hrd.alloc (.cells #[.int .i64 1, .int .i64 2, .int .i64 4, .int .i64 8] 3)) hr).mono ?_
    rintro e w' ⟨v', rfl, ho, hbl⟩
    go_wp2_with fail
    go_ret3
    exact ⟨v', rfl, own_base ho (by simp), ((Below.refl _ _).alloc (Nat.le_refl _) _).trans (hbl.mono (by simp))⟩

set_option maxRecDepth 100000 in
theorem rtake_short8 (v : Value) (x0 : Int) (r : List Int) (w : World) (h : Rd w .u8 v (x0 :: r)) (h0 : 0 ≤ x0) (h1 : x0 ≤ 255) (hd : x0 / 64 = 3) (hr : r.length + 1 < 8) :
    Calls Tryd.prog 37 #[v] w fun e w' => e = .returned (.tuple #[.int .u64 0, .slice none 0 0, .int .i64 2]) ∧ Below w.heap.size w w' := by
  obtain ⟨A, cap, rfl⟩ := h.form
  obtain ⟨b, off, rfl, hb, c0⟩ := h.at_ 0 (by simp)
  have hcm := h.rdv.2.2.2.1
  have hlc := h.rdv.2.2.1
  unfold maxLen at hcm
  simp only [Nat.add_zero, List.getD_cons_zero] at c0
  obtain ⟨n, hn⟩ : ∃ n, n = (x0 :: r).length := ⟨_, rfl⟩
  rw [← hn] at hlc ⊢
  have hn1 : 1 ≤ n ∧ n < 8 := by simp at hn; omega
  have hl : ((n : Int) == 0) = false := by simp; omega
  have hl2 : decide ((n : Int) < 8) = true := by simp; omega
  have HN := Lib.hid hn
  clear hn hr
  have hb1 := World.new_ne w ⟨b, off, none⟩ c0
  go_enter Tryd.func37, Tryd.ntmps37
  go_wp2
  go_ret3
  exact ⟨rfl, by first | exact Below.refl _ _ | exact (Below.refl _ _).alloc (Nat.le_refl _) _⟩

set_option maxHeartbeats 2000000 in
set_option maxRecDepth 100000 in
theorem rtake_yes8 (v : Value) (x0 x1 x2 x3 x4 x5 x6 x7 : Int) (r : List Int) (w : World) (h : Rd w .u8 v (x0 :: x1 :: x2 :: x3 :: x4 :: x5 :: x6 :: x7 :: r)) (hk : BytesOk (x0 :: x1 :: x2 :: x3 :: x4 :: x5 :: x6 :: x7 :: r)) (hd : x0 / 64 = 3) (hr : r.length ≤ 1099511627776) :
    Calls Tryd.prog 37 #[v] w fun e w' => ∃ v', e = .returned (.tuple #[.int .u64 ((((((((x0 % 64) * 256 + x1) * 256 + x2) * 256 + x3) * 256 + x4) * 256 + x5) * 256 + x6) * 256 + x7), v', .int .i64 0]) ∧ w'.ownsRow w.heap.size 5 1 v' r.length (r.map (Value.int .u8)) ∧ Below w.heap.size w w' := by
  obtain ⟨A, cap, rfl⟩ := h.form
  obtain ⟨b, off, rfl, hb, c0⟩ := h.at_ 0 (by simp)
  have hrest : Rd w .u8 (.slice (some ⟨b, off + 8, none⟩) r.length (cap - 8)) r := by
    obtain ⟨A', cap', e, q1, q2, q3, q4⟩ := h
    simp only [Value.slice.injEq] at e
    obtain ⟨rfl, _, rfl⟩ := e
    refine ⟨_, _, rfl, by simp at q1; omega, by omega, fun e => (by cases e), fun i hi => ?_⟩
    obtain ⟨b', off', e, hb', hc⟩ := q4 (i + 8) (by simp; omega)
    simp only [Option.some.injEq, Addr.mk.injEq, and_true] at e
    obtain ⟨rfl, rfl⟩ := e
    refine ⟨b, _, rfl, hb', fun j hj => ?_⟩
    have := hc j hj
    rw [show off + 8 + (i * 1 + j) = off + ((i + 8) * 1 + j) by omega, this]
    simp
  have hcm := h.rdv.2.2.2.1
  have hlc := h.rdv.2.2.1
  unfold maxLen at hcm
  have c1 : w.cell? ⟨b, off + 1, none⟩ = some (.int .u8 x1) := by
    obtain ⟨b', off', e, _, hc⟩ := h.at_ 1 (by simp)
    simp only [Option.some.injEq, Addr.mk.injEq, and_true] at e
    obtain ⟨rfl, rfl⟩ := e
    simpa using hc
  have c2 : w.cell? ⟨b, off + 2, none⟩ = some (.int .u8 x2) := by
    obtain ⟨b', off', e, _, hc⟩ := h.at_ 2 (by simp)
    simp only [Option.some.injEq, Addr.mk.injEq, and_true] at e
    obtain ⟨rfl, rfl⟩ := e
    simpa using hc
  have c3 : w.cell? ⟨b, off + 3, none⟩ = some (.int .u8 x3) := by
    obtain ⟨b', off', e, _, hc⟩ := h.at_ 3 (by simp)
    simp only [Option.some.injEq, Addr.mk.injEq, and_true] at e
    obtain ⟨rfl, rfl⟩ := e
    simpa using hc
  have c4 : w.cell? ⟨b, off + 4, none⟩ = some (.int .u8 x4) := by
    obtain ⟨b', off', e, _, hc⟩ := h.at_ 4 (by simp)
    simp only [Option.some.injEq, Addr.mk.injEq, and_true] at e
    obtain ⟨rfl, rfl⟩ := e
    simpa using hc
  have c5 : w.cell? ⟨b, off + 5, none⟩ = some (.int .u8 x5) := by
    obtain ⟨b', off', e, _, hc⟩ := h.at_ 5 (by simp)
    simp only [Option.some.injEq, Addr.mk.injEq, and_true] at e
    obtain ⟨rfl, rfl⟩ := e
    simpa using hc
  have c6 : w.cell? ⟨b, off + 6, none⟩ = some (.int .u8 x6) := by
    obtain ⟨b', off', e, _, hc⟩ := h.at_ 6 (by simp)
    simp only [Option.some.injEq, Addr.mk.injEq, and_true] at e
    obtain ⟨rfl, rfl⟩ := e
    simpa using hc
  have c7 : w.cell? ⟨b, off + 7, none⟩ = some (.int .u8 x7) := by
    obtain ⟨b', off', e, _, hc⟩ := h.at_ 7 (by simp)
    simp only [Option.some.injEq, Addr.mk.injEq, and_true] at e
    obtain ⟨rfl, rfl⟩ := e
    simpa using hc
  simp only [Nat.add_zero, List.getD_cons_zero] at c0
  have b0 := hk x0 (by simp)
  have b1 := hk x1 (by simp)
  have b2 := hk x2 (by simp)
  have b3 := hk x3 (by simp)
  have b4 := hk x4 (by simp)
  have b5 := hk x5 (by simp)
  have b6 := hk x6 (by simp)
  have b7 := hk x7 (by simp)
  have n0 := World.new_ne w _ c0
  have n1 := World.new_ne w _ c1
  have n2 := World.new_ne w _ c2
  have n3 := World.new_ne w _ c3
  have n4 := World.new_ne w _ c4
  have n5 := World.new_ne w _ c5
  have n6 := World.new_ne w _ c6
  have n7 := World.new_ne w _ c7
  obtain ⟨n, hn⟩ : ∃ n, n = (x0 :: x1 :: x2 :: x3 :: x4 :: x5 :: x6 :: x7 :: r).length := ⟨_, rfl⟩
  rw [← hn] at hlc ⊢
  have hns : n = r.length + 8 := by simp at hn; omega
  have hn1 : 8 ≤ n := by omega
  have hl : ((n : Int) == 0) = false := by simp; omega
  have hl2 : decide ((n : Int) < 8) = false := by simp; omega
  clear hk h hn
  by_cases hcap : cap = 8
  · have hr0 : r = [] := List.eq_nil_of_length_eq_zero (by omega)
    subst hr0
    have hn2 : n = 8 := by simpa using hns
    subst hn2
    subst hcap
    clear hns hlc hn1 hrest
    have hrd : Rd w .u8 (.slice (some ⟨b, off, none⟩) 0 0) [] := ⟨_, _, rfl, Nat.le_refl _, Nat.zero_le _, fun _ => rfl, fun i hi => absurd hi (by simp)⟩
    skip
    go_enter Tryd.func37, Tryd.ntmps37
    go_wp2_with fail
    refine wp_loop_rounds 8 ?_
    rw [rounds_succ]
    go_wp2_with fail
    rw [rounds_succ]
    go_wp2_with fail
    rw [rounds_succ]
    go_wp2_with fail
    rw [rounds_succ]
    go_wp2_with fail
    rw [rounds_succ]
    go_wp2_with fail
    rw [rounds_succ]
    go_wp2_with fail
    rw [rounds_succ]
    go_wp2_with fail
    rw [rounds_succ]
    go_wp2_with fail
    refine (copy_any _ _ _ (hrd.alloc (.cells #[.int .i64 1, .int .i64 2, .int .i64 4, .int .i64 8] 3)) (by first | omega | simp)).mono ?_
    rintro e w' ⟨v', rfl, ho, hbl⟩
    go_wp2_with fail
    go_ret3
    exact ⟨v', rfl, own_base ho (by simp), ((Below.refl _ _).alloc (Nat.le_refl _) _).trans (hbl.mono (by simp))⟩
  · have hcap2 : 8 < cap := by omega
    obtain ⟨rl, hrl⟩ : ∃ rl, rl = r.length := ⟨_, rfl⟩
    have hrd : Rd w .u8 (.slice (some ⟨b, off + 8, none⟩) (n - 8) (cap - 8)) r := by rw [show n - 8 = r.length by omega]; exact hrest
    clear hrest hrl
    have HNS := Lib.hid hns
    clear hns
    go_enter Tryd.func37, Tryd.ntmps37
    go_wp2_with fail
    refine wp_loop_rounds 8 ?_
    rw [rounds_succ]
    go_wp2_with fail
    rw [rounds_succ]
    go_wp2_with fail
    rw [rounds_succ]
    go_wp2_with fail
    rw [rounds_succ]
    go_wp2_with fail
    rw [rounds_succ]
    go_wp2_with fail
    rw [rounds_succ]
    go_wp2_with fail
    rw [rounds_succ]
    go_wp2_with fail
    rw [rounds_succ]
    go_wp2_with fail
    refine (copy_any _ _ _ (hrd.alloc (.cells #[.int .i64 1, .int .i64 2, .int .i64 4, .int .i64 8] 3)) hr).mono ?_
    rintro e w' ⟨v', rfl, ho, hbl⟩
    go_wp2_with fail
    go_ret3
    exact ⟨v', rfl, own_base ho (by simp), ((Below.refl _ _).alloc (Nat.le_refl _) _).trans (hbl.mono (by simp))⟩

end Go.Proofs.YtjijmbpgfabgcaaDoor
