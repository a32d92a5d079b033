/-
  What the functions of package pace do to a clock, each once.
-/
import Derived.Test.YtlnenndlenckjaaOpen
namespace Go.Proofs.Ytlnenndlenckjaa
open Go.RowKit
set_option linter.unusedVariables false
set_option linter.unusedSimpArgs false


theorem laidOut : laidOutB Try.prog = true := by kernel_rfl
theorem own : ownKnob Try.prog.godebug = none := by kernel_rfl
theorem u64_in (x : Int) (h0 : 0 ≤ x) (h1 : x < 18446744073709551616) : IntKind.u64.wrap x = x := by
  simp [IntKind.wrap, IntKind.signed, IntKind.bits]
  omega
/-- A clock: is there a sample; latest, least, smoothed, variation. -/
structure Ck where
  some : Bool
  la : Int
  le : Int
  sm : Int
  va : Int
structure CkOk (c : Ck) : Prop where
  l0 : 0 ≤ c.la
  l1 : c.la ≤ 1099511627776
  e0 : 0 ≤ c.le
  e1 : c.le ≤ 1099511627776
  s0 : 0 ≤ c.sm
  s1 : c.sm ≤ 1099511627776
  v0 : 0 ≤ c.va
  v1 : c.va ≤ 1099511627776
def ck0 : Ck := ⟨false, 0, 0, 10, 5⟩
theorem ck0_ok : CkOk ck0 := ⟨by decide, by decide, by decide, by decide, by decide, by decide, by decide, by decide⟩
def ckStep (le sm va a d : Int) : Ck :=
  let L := if a < le then a else le
  let X := if L + d ≤ a then a - d else a
  let far := (if sm < X then X else sm) - (if X < sm then X else sm)
  ⟨true, a, L, (7 * sm + X) / 8, (3 * va + far) / 4⟩
def cap40 (a : Int) : Int := if 1099511627776 < a then 1099511627776 else a
theorem cap40_ok (a : Int) (h : 0 ≤ a) : 0 ≤ cap40 a ∧ cap40 a ≤ 1099511627776 := by
  unfold cap40
  by_cases h1 : 1099511627776 < a
  · rw [if_pos h1]; omega
  · rw [if_neg h1]; omega
def smp (c : Ck) (a d : Int) : Ck := if c.some = true then ckStep c.le c.sm c.va (cap40 a) (cap40 d) else ⟨true, cap40 a, cap40 a, cap40 a, cap40 a / 2⟩
theorem ckStep_ok (le sm va a d : Int) (h0 : 0 ≤ le ∧ le ≤ 1099511627776) (h1 : 0 ≤ sm ∧ sm ≤ 1099511627776) (h2 : 0 ≤ va ∧ va ≤ 1099511627776) (h3 : 0 ≤ a ∧ a ≤ 1099511627776) (h4 : 0 ≤ d ∧ d ≤ 1099511627776) : CkOk (ckStep le sm va a d) := by
  unfold ckStep
  obtain ⟨L, hL⟩ : ∃ L, L = (if a < le then a else le) := ⟨_, rfl⟩
  obtain ⟨X, hX⟩ : ∃ X, X = (if L + d ≤ a then a - d else a) := ⟨_, rfl⟩
  obtain ⟨P, hP⟩ : ∃ P, P = (if sm < X then X else sm) := ⟨_, rfl⟩
  obtain ⟨Q, hQ⟩ : ∃ Q, Q = (if X < sm then X else sm) := ⟨_, rfl⟩
  have e1 : 0 ≤ L ∧ L ≤ 1099511627776 := by rw [hL]; split <;> omega
  have e2 : 0 ≤ X ∧ X ≤ 1099511627776 := by rw [hX]; split <;> omega
  have e3 : 0 ≤ P - Q ∧ P - Q ≤ 1099511627776 := by rw [hP, hQ]; split <;> split <;> omega
  show CkOk ⟨true, a, (if a < le then a else le), _, _⟩
  rw [← hL, ← hX, ← hP, ← hQ]
  exact ⟨h3.1, h3.2, e1.1, e1.2, by show 0 ≤ (7 * sm + X) / 8; omega, by show (7 * sm + X) / 8 ≤ _; omega, by show 0 ≤ (3 * va + (P - Q)) / 4; omega, by show (3 * va + (P - Q)) / 4 ≤ _; omega⟩
theorem smp_ok (c : Ck) (h : CkOk c) (a d : Int) (ha : 0 ≤ a) (hd : 0 ≤ d) : CkOk (smp c a d) := by
  have h3 := cap40_ok a ha
  have h4 := cap40_ok d hd
  unfold smp
  by_cases hs : c.some = true
  · rw [if_pos hs]
    exact ckStep_ok _ _ _ _ _ ⟨h.e0, h.e1⟩ ⟨h.s0, h.s1⟩ ⟨h.v0, h.v1⟩ h3 h4
  · rw [if_neg hs]
    exact ⟨h3.1, h3.2, h3.1, h3.2, h3.1, h3.2, by show 0 ≤ cap40 a / 2; omega, by show cap40 a / 2 ≤ _; omega⟩
def ckV (c : Ck) : Array Value := #[.bool c.some, .int .u64 c.la, .int .u64 c.le, .int .u64 c.sm, .int .u64 c.va]
/-- The clock at block g. -/
def Clk (w : World) (g : Nat) (c : Ck) : Prop := Blk w g 62 (ckV c)

theorem newClock_any (w : World) : Calls Try.prog 9 #[] w fun e w' => ∃ g, e = .returned (.pointer (some ⟨g, 0, none⟩)) ∧ Clk w' g ck0 ∧ w.heap.size ≤ g ∧ Below w.heap.size w w' := by
  go_enter Try.func9, Try.ntmps9
  go_wp2_with fail
  go_ret
  exact ⟨_, rfl, Blk.new _ _ _, Nat.le_refl _, (Below.refl _ _).alloc (Nat.le_refl _) _⟩

theorem sample_nil (a d : Int) (w : World) : Calls Try.prog 10 #[.pointer none, .int .u64 a, .int .u64 d] w fun e w' => e = .returned (.tuple #[]) ∧ w = w' := by
  go_enter Try.func10, Try.ntmps10
  go_wp2_with fail
  (first | go_end0 | ((try simp only [Exit.inBlock, Exit.then]); refine bodyPost_ret (results_none rfl _ _ _) rfl ?_))
  exact ⟨rfl, rfl⟩

set_option maxHeartbeats 1000000 in
set_option maxRecDepth 100000 in
theorem sample_first (g : Nat) (la le sm va a d : Int) (w : World) (hb : Clk w g ⟨false, la, le, sm, va⟩) (ha : 0 ≤ a) (hd : 0 ≤ d) :
    Calls Try.prog 10 #[.pointer (some ⟨g, 0, none⟩), .int .u64 a, .int .u64 d] w fun e w' => e = .returned (.tuple #[]) ∧ Clk w' g ⟨true, cap40 a, cap40 a, cap40 a, cap40 a / 2⟩ ∧ w.grownBy w' (some g) := by
  unfold Clk ckV at hb
  have c0 : w.cell? ⟨g, 0, none⟩ = some (.bool false) := hb.cell 0
  have c1 : w.cell? ⟨g, 1, none⟩ = some (.int .u64 la) := hb.cell 1
  have c2 : w.cell? ⟨g, 2, none⟩ = some (.int .u64 le) := hb.cell 2
  have c3 : w.cell? ⟨g, 3, none⟩ = some (.int .u64 sm) := hb.cell 3
  have c4 : w.cell? ⟨g, 4, none⟩ = some (.int .u64 va) := hb.cell 4
  have f0 := hb.frozen 0
  have f1 := hb.frozen 1
  have f2 := hb.frozen 2
  have f3 := hb.frozen 3
  have f4 := hb.frozen 4
  have hA := cap40_ok a ha
  have hA' : (if 1099511627776 < a then 1099511627776 else a) = cap40 a := rfl
  have hD' : (if 1099511627776 < d then 1099511627776 else d) = cap40 d := rfl
  generalize cap40 a = A at *
  generalize cap40 d = D at *
  go_enter Try.func10, Try.ntmps10
  go_wp2_with fail
  clear hA' hD'
  (first | go_end0 | ((try simp only [Exit.inBlock, Exit.then]); refine bodyPost_ret (results_none rfl _ _ _) rfl ?_))
  exact ⟨rfl, ((((hb.set_ 1 _).set_ 0 _).set_ 2 _).set_ 3 _).set_ 4 _, grown_set (grown_set (grown_set (grown_set (grown_set (grown_refl _ _) _ _) _ _) _ _) _ _) _ _⟩

set_option maxHeartbeats 2000000 in
set_option maxRecDepth 100000 in
theorem sample_next_a (g : Nat) (la le sm va a d A D L P Q : Int) (w : World) (hb : Clk w g ⟨true, la, le, sm, va⟩) (hs : 0 ≤ sm ∧ sm ≤ 1099511627776) (hv : 0 ≤ va ∧ va ≤ 1099511627776) (hA : 0 ≤ A ∧ A ≤ 1099511627776) (hD : 0 ≤ D ∧ D ≤ 1099511627776) (hL : 0 ≤ L ∧ L ≤ A) (hPQ : 0 ≤ Q ∧ Q ≤ P ∧ P ≤ 1099511627776)
    (hA' : (if 1099511627776 < a then 1099511627776 else a) = A) (hD' : (if 1099511627776 < d then 1099511627776 else d) = D) (hL' : (if A < le then A else le) = L) (hc : L + D ≤ A) (hP : (if sm < A - D then A - D else sm) = P) (hQ : (if A - D < sm then A - D else sm) = Q) :
    Calls Try.prog 10 #[.pointer (some ⟨g, 0, none⟩), .int .u64 a, .int .u64 d] w fun e w' => e = .returned (.tuple #[]) ∧ Clk w' g ⟨true, A, L, (7 * sm + (A - D)) / 8, (3 * va + (P - Q)) / 4⟩ ∧ w.grownBy w' (some g) := by
  unfold Clk ckV at hb
  have c0 : w.cell? ⟨g, 0, none⟩ = some (.bool true) := hb.cell 0
  have c1 : w.cell? ⟨g, 1, none⟩ = some (.int .u64 la) := hb.cell 1
  have c2 : w.cell? ⟨g, 2, none⟩ = some (.int .u64 le) := hb.cell 2
  have c3 : w.cell? ⟨g, 3, none⟩ = some (.int .u64 sm) := hb.cell 3
  have c4 : w.cell? ⟨g, 4, none⟩ = some (.int .u64 va) := hb.cell 4
  have f0 := hb.frozen 0
  have f1 := hb.frozen 1
  have f2 := hb.frozen 2
  have f3 := hb.frozen 3
  have f4 := hb.frozen 4
  have hcd : decide (L + D ≤ A) = true := by simp; omega
  go_enter Try.func10, Try.ntmps10
  go_wp2_with fail
  go_quiet (fail)
  go_wp2_with fail
  clear hA' hD' hL' hP hQ
  (first | go_end0 | ((try simp only [Exit.inBlock, Exit.then]); refine bodyPost_ret (results_none rfl _ _ _) rfl ?_))
  exact ⟨rfl, (((((hb.set_ 1 _).set_ 2 _).drewN _).set_ 4 _).set_ 3 _), grown_set (grown_set (grown_drewN (grown_set (grown_set (grown_refl _ _) _ _) _ _) _) _ _) _ _⟩

set_option maxHeartbeats 2000000 in
set_option maxRecDepth 100000 in
theorem sample_next_b (g : Nat) (la le sm va a d A D L P Q : Int) (w : World) (hb : Clk w g ⟨true, la, le, sm, va⟩) (hs : 0 ≤ sm ∧ sm ≤ 1099511627776) (hv : 0 ≤ va ∧ va ≤ 1099511627776) (hA : 0 ≤ A ∧ A ≤ 1099511627776) (hD : 0 ≤ D ∧ D ≤ 1099511627776) (hL : 0 ≤ L ∧ L ≤ A) (hPQ : 0 ≤ Q ∧ Q ≤ P ∧ P ≤ 1099511627776)
    (hA' : (if 1099511627776 < a then 1099511627776 else a) = A) (hD' : (if 1099511627776 < d then 1099511627776 else d) = D) (hL' : (if A < le then A else le) = L) (hc : A < L + D) (hP : (if sm < A then A else sm) = P) (hQ : (if A < sm then A else sm) = Q) :
    Calls Try.prog 10 #[.pointer (some ⟨g, 0, none⟩), .int .u64 a, .int .u64 d] w fun e w' => e = .returned (.tuple #[]) ∧ Clk w' g ⟨true, A, L, (7 * sm + (A)) / 8, (3 * va + (P - Q)) / 4⟩ ∧ w.grownBy w' (some g) := by
  unfold Clk ckV at hb
  have c0 : w.cell? ⟨g, 0, none⟩ = some (.bool true) := hb.cell 0
  have c1 : w.cell? ⟨g, 1, none⟩ = some (.int .u64 la) := hb.cell 1
  have c2 : w.cell? ⟨g, 2, none⟩ = some (.int .u64 le) := hb.cell 2
  have c3 : w.cell? ⟨g, 3, none⟩ = some (.int .u64 sm) := hb.cell 3
  have c4 : w.cell? ⟨g, 4, none⟩ = some (.int .u64 va) := hb.cell 4
  have f0 := hb.frozen 0
  have f1 := hb.frozen 1
  have f2 := hb.frozen 2
  have f3 := hb.frozen 3
  have f4 := hb.frozen 4
  have hcd : decide (L + D ≤ A) = false := by simp; omega
  go_enter Try.func10, Try.ntmps10
  go_wp2_with fail
  go_quiet (fail)
  go_wp2_with fail
  clear hA' hD' hL' hP hQ
  (first | go_end0 | ((try simp only [Exit.inBlock, Exit.then]); refine bodyPost_ret (results_none rfl _ _ _) rfl ?_))
  exact ⟨rfl, (((((hb.set_ 1 _).set_ 2 _).drewN _).set_ 4 _).set_ 3 _), grown_set (grown_set (grown_drewN (grown_set (grown_set (grown_refl _ _) _ _) _ _) _) _ _) _ _⟩

theorem sample_any (g : Nat) (c : Ck) (a d : Int) (w : World) (hb : Clk w g c) (hk : CkOk c) (ha : 0 ≤ a) (hd : 0 ≤ d) :
    Calls Try.prog 10 #[.pointer (some ⟨g, 0, none⟩), .int .u64 a, .int .u64 d] w fun e w' => e = .returned (.tuple #[]) ∧ Clk w' g (smp c a d) ∧ w.grownBy w' (some g) := by
  obtain ⟨s, la, le, sm, va⟩ := c
  obtain ⟨l0, l1, e0, e1, s0, s1, v0, v1⟩ := hk
  simp only at l0 l1 e0 e1 s0 s1 v0 v1
  cases s with
  | false => exact sample_first g la le sm va a d w hb ha hd
  | true =>
    have h3 := cap40_ok a ha
    have h4 := cap40_ok d hd
    have hA' : (if 1099511627776 < a then 1099511627776 else a) = cap40 a := rfl
    have hD' : (if 1099511627776 < d then 1099511627776 else d) = cap40 d := rfl
    show Calls _ _ _ _ fun e w' => _ ∧ Clk w' g (ckStep le sm va (cap40 a) (cap40 d)) ∧ _
    generalize cap40 a = A at *
    generalize cap40 d = D at *
    unfold ckStep
    obtain ⟨L, hL⟩ : ∃ L, (if A < le then A else le) = L := ⟨_, rfl⟩
    have e1 : 0 ≤ L ∧ L ≤ A := by rw [← hL]; split <;> omega
    simp only [hL]
    by_cases hc : L + D ≤ A
    · simp only [if_pos hc]
      obtain ⟨P, hP⟩ : ∃ P, (if sm < A - D then A - D else sm) = P := ⟨_, rfl⟩
      obtain ⟨Q, hQ⟩ : ∃ Q, (if A - D < sm then A - D else sm) = Q := ⟨_, rfl⟩
      have e3 : 0 ≤ Q ∧ Q ≤ P ∧ P ≤ 1099511627776 := by rw [← hP, ← hQ]; split <;> split <;> omega
      simp only [hP, hQ]
      exact sample_next_a g la le sm va a d A D L P Q w hb ⟨s0, s1⟩ ⟨v0, v1⟩ h3 h4 e1 e3 hA' hD' hL hc hP hQ
    · simp only [if_neg hc]
      obtain ⟨P, hP⟩ : ∃ P, (if sm < A then A else sm) = P := ⟨_, rfl⟩
      obtain ⟨Q, hQ⟩ : ∃ Q, (if A < sm then A else sm) = Q := ⟨_, rfl⟩
      have e3 : 0 ≤ Q ∧ Q ≤ P ∧ P ≤ 1099511627776 := by rw [← hP, ← hQ]; split <;> split <;> omega
      simp only [hP, hQ]
      exact sample_next_b g la le sm va a d A D L P Q w hb ⟨s0, s1⟩ ⟨v0, v1⟩ h3 h4 e1 e3 hA' hD' hL (by omega) hP hQ

set_option maxRecDepth 100000 in
theorem told_any (g : Nat) (s : Bool) (la le sm va : Int) (w : World) (hb : Clk w g ⟨s, la, le, sm, va⟩) :
    Calls Try.prog 12 #[.pointer (some ⟨g, 0, none⟩)] w fun e w' => e = .returned (.tuple #[.int .u64 la, .int .u64 le, .int .u64 sm, .int .u64 va]) ∧ ∃ n, w.drewN n = w' := by
  unfold Clk ckV at hb
  have c0 : w.cell? ⟨g, 0, none⟩ = some (.bool s) := hb.cell 0
  have c1 : w.cell? ⟨g, 1, none⟩ = some (.int .u64 la) := hb.cell 1
  have c2 : w.cell? ⟨g, 2, none⟩ = some (.int .u64 le) := hb.cell 2
  have c3 : w.cell? ⟨g, 3, none⟩ = some (.int .u64 sm) := hb.cell 3
  have c4 : w.cell? ⟨g, 4, none⟩ = some (.int .u64 va) := hb.cell 4
  have f0 := hb.frozen 0
  have f1 := hb.frozen 1
  have f2 := hb.frozen 2
  have f3 := hb.frozen 3
  have f4 := hb.frozen 4
  go_enter Try.func12, Try.ntmps12
  go_wp2_with fail
  go_quiet (fail)
  go_wp2_with fail
  refine bodyPost_ret (v := .tuple #[.int .u64 la, .int .u64 le, .int .u64 sm, .int .u64 va]) (by simp [results, Try.results12, go_sem]) rfl ⟨rfl, nq, rfl⟩
theorem told_nil (w : World) :
    Calls Try.prog 12 #[.pointer none] w fun e w' => e = .returned (.tuple #[.int .u64 0, .int .u64 0, .int .u64 0, .int .u64 0]) ∧ w = w' := by
  go_enter Try.func12, Try.ntmps12
  go_wp2_with fail
  refine bodyPost_ret (v := .tuple #[.int .u64 0, .int .u64 0, .int .u64 0, .int .u64 0]) (by simp [results, Try.results12, go_sem]) rfl ⟨rfl, rfl⟩

/-- How long for an answer. -/
def tries (n : Int) : Int := if 20 < (if n < 0 then 0 else n) then 20 else (if n < 0 then 0 else n)
def base (sm va : Int) : Int := sm + (if 4 * va < 1 then 1 else 4 * va) + 2
def waitI (sm va n : Int) : Int := base sm va * 2 ^ (tries n).toNat
theorem tries_ok (n : Int) : 0 ≤ tries n ∧ tries n ≤ 20 := by unfold tries; split <;> split <;> omega
theorem base_ok (sm va : Int) (hs : 0 ≤ sm ∧ sm ≤ 1099511627776) (hv : 0 ≤ va ∧ va ≤ 1099511627776) : 3 ≤ base sm va ∧ base sm va ≤ 8796093022208 := by unfold base; split <;> omega
set_option maxRecDepth 100000 in
theorem wait_any (g : Nat) (s : Bool) (la le sm va n : Int) (w : World) (hb : Clk w g ⟨s, la, le, sm, va⟩) (hs : 0 ≤ sm ∧ sm ≤ 1099511627776) (hv : 0 ≤ va ∧ va ≤ 1099511627776) :
    Calls Try.prog 13 #[.pointer (some ⟨g, 0, none⟩), .int .i64 n] w fun e w' => e = .returned (.int .u64 (waitI sm va n)) ∧ ∃ n, w.drewN n = w' := by
  unfold Clk ckV at hb
  have c0 : w.cell? ⟨g, 0, none⟩ = some (.bool s) := hb.cell 0
  have c1 : w.cell? ⟨g, 1, none⟩ = some (.int .u64 la) := hb.cell 1
  have c2 : w.cell? ⟨g, 2, none⟩ = some (.int .u64 le) := hb.cell 2
  have c3 : w.cell? ⟨g, 3, none⟩ = some (.int .u64 sm) := hb.cell 3
  have c4 : w.cell? ⟨g, 4, none⟩ = some (.int .u64 va) := hb.cell 4
  have f0 := hb.frozen 0
  have f1 := hb.frozen 1
  have f2 := hb.frozen 2
  have f3 := hb.frozen 3
  have f4 := hb.frozen 4
  obtain ⟨V, hV⟩ : ∃ V, (if 4 * va < 1 then 1 else 4 * va) = V := ⟨_, rfl⟩
  obtain ⟨N, hN⟩ : ∃ N, (if n < 0 then 0 else n) = N := ⟨_, rfl⟩
  obtain ⟨K, hK⟩ : ∃ K, (if 20 < N then 20 else N) = K := ⟨_, rfl⟩
  have e1 : 1 ≤ V ∧ V ≤ 4398046511104 := by rw [← hV]; split <;> omega
  have e2 : 0 ≤ K ∧ K ≤ 20 := by rw [← hK, ← hN]; split <;> split <;> omega
  have hf : waitI sm va n = (sm + V + 2) * 2 ^ K.toNat := by unfold waitI tries base; rw [hV, hN, hK]
  rw [hf]
  clear hf hb
  go_enter Try.func13, Try.ntmps13
  go_wp2_with fail
  go_quiet (fail)
  go_wp2_with fail
  go_ret
  clear hV hN hK
  have h2 : (2 : Int) ^ K.toNat ≤ 1048576 := by
    have hN : (2 : Nat) ^ K.toNat ≤ 2 ^ 20 := Nat.pow_le_pow_right (by decide) (by omega)
    have hc : (2 : Int) ^ K.toNat = (((2 : Nat) ^ K.toNat : Nat) : Int) := by simp
    rw [hc]
    exact Int.ofNat_le.2 hN
  have h3 : 0 ≤ (2 : Int) ^ K.toNat := Int.le_of_lt (Int.pow_pos (by decide))
  refine ⟨?_, nq, rfl⟩
  show Ending.returned (.int .u64 (IntKind.u64.wrap ((sm + V + 2) * 2 ^ K.toNat))) = _
  rw [u64_in]
  · exact Int.mul_nonneg (by omega) h3
  · refine Int.lt_of_le_of_lt (Int.mul_le_mul (show sm + V + 2 ≤ 8796093022208 by omega) h2 h3 (by decide)) (by decide)
theorem wait_nil (n : Int) (w : World) :
    Calls Try.prog 13 #[.pointer none, .int .i64 n] w fun e w' => e = .returned (.int .u64 0) ∧ w = w' := by
  go_enter Try.func13, Try.ntmps13
  go_wp2_with fail
  go_ret
  exact ⟨rfl, rfl⟩

/-- How long till it is lost. -/
def lostI (la sm : Int) : Int := if 9 * (if la < sm then sm else la) / 8 < 1 then 1 else 9 * (if la < sm then sm else la) / 8
set_option maxRecDepth 100000 in
theorem clost_any (g : Nat) (s : Bool) (la le sm va : Int) (w : World) (hb : Clk w g ⟨s, la, le, sm, va⟩) (hs : 0 ≤ sm ∧ sm ≤ 1099511627776) (hv : 0 ≤ la ∧ la ≤ 1099511627776) :
    Calls Try.prog 15 #[.pointer (some ⟨g, 0, none⟩)] w fun e w' => e = .returned (.int .u64 (lostI la sm)) ∧ ∃ n, w.drewN n = w' := by
  unfold Clk ckV at hb
  have c0 : w.cell? ⟨g, 0, none⟩ = some (.bool s) := hb.cell 0
  have c1 : w.cell? ⟨g, 1, none⟩ = some (.int .u64 la) := hb.cell 1
  have c2 : w.cell? ⟨g, 2, none⟩ = some (.int .u64 le) := hb.cell 2
  have c3 : w.cell? ⟨g, 3, none⟩ = some (.int .u64 sm) := hb.cell 3
  have c4 : w.cell? ⟨g, 4, none⟩ = some (.int .u64 va) := hb.cell 4
  have f0 := hb.frozen 0
  have f1 := hb.frozen 1
  have f2 := hb.frozen 2
  have f3 := hb.frozen 3
  have f4 := hb.frozen 4
  obtain ⟨V, hV⟩ : ∃ V, (if la < sm then sm else la) = V := ⟨_, rfl⟩
  have e1 : 0 ≤ V ∧ V ≤ 1099511627776 := by rw [← hV]; split <;> omega
  obtain ⟨R, hR⟩ : ∃ R, (if 9 * V / 8 < 1 then 1 else 9 * V / 8) = R := ⟨_, rfl⟩
  have hf : lostI la sm = R := by unfold lostI; rw [hV, hR]
  rw [hf]
  clear hf hb
  go_enter Try.func15, Try.ntmps15
  go_wp2_with fail
  go_quiet (fail)
  go_wp2_with fail
  go_ret
  exact ⟨by simp, nq, rfl⟩
theorem clost_nil (w : World) :
    Calls Try.prog 15 #[.pointer none] w fun e w' => e = .returned (.int .u64 0) ∧ w = w' := by
  go_enter Try.func15, Try.ntmps15
  go_wp2_with fail
  go_ret
  exact ⟨rfl, rfl⟩

end Go.Proofs.Ytlnenndlenckjaa
