/-
  Which of two ranks goes ahead: what Less does, of the program and of the reference.
-/
import Derived.Test.YtddgakjcigefoaaTawake
namespace Go.Proofs.Ytddgakjcigefoaa
open Go.RowKit
set_option linter.unusedVariables false
set_option linter.unusedSimpArgs false


def cmpI (x y : Int) : Int := if x < y then -1 else if y < x then 1 else 0
theorem cmp_any (x y : Int) (w : World) : Calls Try.prog 21 #[.int .u64 x, .int .u64 y] w fun e w' => e = .returned (.int .i64 (cmpI x y)) ∧ w = w' := by
  by_cases h : x < y
  · have e : cmpI x y = -1 := by unfold cmpI; rw [if_pos h]
    rw [e]
    clear e
    go_enter Try.func21, Try.ntmps21
    go_wp2
    go_ret
    exact ⟨rfl, rfl⟩
  · by_cases h' : y < x
    · have e : cmpI x y = 1 := by unfold cmpI; rw [if_neg h, if_pos h']
      rw [e]
      clear e
      go_enter Try.func21, Try.ntmps21
      go_wp2
      go_ret
      exact ⟨rfl, rfl⟩
    · have e : cmpI x y = 0 := by unfold cmpI; rw [if_neg h, if_neg h']
      rw [e]
      clear e
      go_enter Try.func21, Try.ntmps21
      go_wp2
      go_ret
      exact ⟨rfl, rfl⟩

/-- The order of two ranks. -/
def cmp3 (a0 a1 a2 b0 b1 b2 : Int) : Int := if cmpI a0 b0 ≠ 0 then cmpI a0 b0 else if cmpI a1 b1 ≠ 0 then cmpI a1 b1 else cmpI a2 b2

set_option maxHeartbeats 2000000 in
theorem cmp3_any (g k : Nat) (a0 a1 a2 b0 b1 b2 : Int) (w : World) (ha : Blk w g 29 #[.int .u64 a0, .int .u64 a1, .int .u64 a2] ∨ Blk w g 22 #[.int .u64 a0, .int .u64 a1, .int .u64 a2]) (hb : Blk w k 29 #[.int .u64 b0, .int .u64 b1, .int .u64 b2] ∨ Blk w k 22 #[.int .u64 b0, .int .u64 b1, .int .u64 b2]) :
    Calls Try.prog 18 #[.slice (some ⟨g, 0, none⟩) 3 3, .slice (some ⟨k, 0, none⟩) 3 3] w fun e w' => e = .returned (.int .i64 (cmp3 a0 a1 a2 b0 b1 b2)) ∧ w = w' := by
  have x0 : w.cell? ⟨g, 0, none⟩ = some (.int .u64 a0) := by rcases ha with h | h <;> exact h.cell 0
  have x1 : w.cell? ⟨g, 1, none⟩ = some (.int .u64 a1) := by rcases ha with h | h <;> exact h.cell 1
  have x2 : w.cell? ⟨g, 2, none⟩ = some (.int .u64 a2) := by rcases ha with h | h <;> exact h.cell 2
  have y0 : w.cell? ⟨k, 0, none⟩ = some (.int .u64 b0) := by rcases hb with h | h <;> exact h.cell 0
  have y1 : w.cell? ⟨k, 1, none⟩ = some (.int .u64 b1) := by rcases hb with h | h <;> exact h.cell 1
  have y2 : w.cell? ⟨k, 2, none⟩ = some (.int .u64 b2) := by rcases hb with h | h <;> exact h.cell 2
  clear ha hb
  unfold cmp3
  by_cases h0 : cmpI a0 b0 = 0
  · rw [if_neg (by simpa using h0)]
    have d0 : (cmpI a0 b0 != 0) = false := by simpa using h0
    by_cases h1 : cmpI a1 b1 = 0
    · rw [if_neg (by simpa using h1)]
      have d1 : (cmpI a1 b1 != 0) = false := by simpa using h1
      by_cases h2 : cmpI a2 b2 = 0
      · have d2 : (cmpI a2 b2 != 0) = false := by simpa using h2
        rw [h2]
        clear h0 h1 h2
        go_enter Try.func18, Try.ntmps18
        go_wp2_with fail
        refine wp_loop_rounds 4 ?_
        rw [rounds_succ]
        go_wp2_with (go_at_call 21; refine (cmp_any _ _ _).mono ?_; rintro e w' ⟨rfl, rfl⟩)
        rw [rounds_succ]
        go_wp2_with (go_at_call 21; refine (cmp_any _ _ _).mono ?_; rintro e w' ⟨rfl, rfl⟩)
        rw [rounds_succ]
        go_wp2_with (go_at_call 21; refine (cmp_any _ _ _).mono ?_; rintro e w' ⟨rfl, rfl⟩)
        rw [rounds_succ]
        go_wp2_with (go_at_call 21; refine (cmp_any _ _ _).mono ?_; rintro e w' ⟨rfl, rfl⟩)
        go_ret
        exact ⟨rfl, rfl⟩
      · have d2 : (cmpI a2 b2 != 0) = true := by simpa using h2
        clear h0 h1 h2
        go_enter Try.func18, Try.ntmps18
        go_wp2_with fail
        refine wp_loop_rounds 3 ?_
        rw [rounds_succ]
        go_wp2_with (go_at_call 21; refine (cmp_any _ _ _).mono ?_; rintro e w' ⟨rfl, rfl⟩)
        rw [rounds_succ]
        go_wp2_with (go_at_call 21; refine (cmp_any _ _ _).mono ?_; rintro e w' ⟨rfl, rfl⟩)
        rw [rounds_succ]
        go_wp2_with (go_at_call 21; refine (cmp_any _ _ _).mono ?_; rintro e w' ⟨rfl, rfl⟩)
        go_ret
        exact ⟨rfl, rfl⟩
    · rw [if_pos (by simpa using h1)]
      have d1 : (cmpI a1 b1 != 0) = true := by simpa using h1
      clear h0 h1
      go_enter Try.func18, Try.ntmps18
      go_wp2_with fail
      refine wp_loop_rounds 2 ?_
      rw [rounds_succ]
      go_wp2_with (go_at_call 21; refine (cmp_any _ _ _).mono ?_; rintro e w' ⟨rfl, rfl⟩)
      rw [rounds_succ]
      go_wp2_with (go_at_call 21; refine (cmp_any _ _ _).mono ?_; rintro e w' ⟨rfl, rfl⟩)
      go_ret
      exact ⟨rfl, rfl⟩
  · rw [if_pos (by simpa using h0)]
    have d0 : (cmpI a0 b0 != 0) = true := by simpa using h0
    clear h0
    go_enter Try.func18, Try.ntmps18
    go_wp2_with fail
    refine wp_loop_rounds 1 ?_
    rw [rounds_succ]
    go_wp2_with (go_at_call 21; refine (cmp_any _ _ _).mono ?_; rintro e w' ⟨rfl, rfl⟩)
    go_ret
    exact ⟨rfl, rfl⟩

def lessB (a0 a1 a2 b0 b1 b2 : Int) : Bool := decide (cmp3 a0 a1 a2 b0 b1 b2 < 0)
theorem less_any (a0 a1 a2 b0 b1 b2 : Int) (w : World) :
    Calls Try.prog 13 #[.agg #[.int .u64 a0, .int .u64 a1, .int .u64 a2], .agg #[.int .u64 b0, .int .u64 b1, .int .u64 b2]] w fun e w' => e = .returned (.bool (lessB a0 a1 a2 b0 b1 b2)) ∧ Below w.heap.size w w' := by
  have hA := (Blk.new w 29 #[.int .u64 a0, .int .u64 a1, .int .u64 a2]).alloc (.cells #[.int .u64 b0, .int .u64 b1, .int .u64 b2] 29)
  have hB := Blk.new (w.alloc (.cells #[.int .u64 a0, .int .u64 a1, .int .u64 a2] 29)) 29 #[.int .u64 b0, .int .u64 b1, .int .u64 b2]
  rw [World.size_alloc] at hB
  go_enter Try.func13, Try.ntmps13
  go_wp2_with fail
  go_quiet ((go_at_call 18; first | exact quiet_one (cmp3_any _ _ a0 a1 a2 b0 b1 b2 _ (.inl (hA.drewN _)) (.inl (hB.drewN _))) | exact quiet_add (cmp3_any _ _ a0 a1 a2 b0 b1 b2 _ (.inl (hA.drewN _)) (.inl (hB.drewN _)))))
  go_wp2_with fail
  go_ret
  exact ⟨by unfold lessB; rfl, below_drewN (((Below.refl _ _).alloc (Nat.le_refl _) _).alloc (by simp) _) _⟩
theorem lessB_iff (a0 a1 a2 b0 b1 b2 : Int) : lessB a0 a1 a2 b0 b1 b2 = decide (a0 < b0 ∨ (a0 = b0 ∧ (a1 < b1 ∨ (a1 = b1 ∧ a2 < b2)))) := by
  have hc : ∀ x y : Int, (x < y ∧ cmpI x y = -1) ∨ (y < x ∧ cmpI x y = 1) ∨ (x = y ∧ cmpI x y = 0) := fun x y => by unfold cmpI; by_cases h : x < y <;> by_cases h' : y < x <;> simp [h, h'] <;> omega
  unfold lessB cmp3
  rw [decide_eq_decide]
  rcases hc a0 b0 with ⟨p, e⟩ | ⟨p, e⟩ | ⟨p, e⟩ <;> rcases hc a1 b1 with ⟨q, f⟩ | ⟨q, f⟩ | ⟨q, f⟩ <;> rcases hc a2 b2 with ⟨r, g⟩ | ⟨r, g⟩ | ⟨r, g⟩ <;> rw [e, f, g] <;> simp <;> omega
set_option maxHeartbeats 2000000 in
theorem rless_any (a0 a1 a2 b0 b1 b2 : Int) (w : World) :
    Calls Try.prog 14 #[.agg #[.int .u64 a0, .int .u64 a1, .int .u64 a2], .agg #[.int .u64 b0, .int .u64 b1, .int .u64 b2]] w fun e w' => e = .returned (.bool (lessB a0 a1 a2 b0 b1 b2)) ∧ Below w.heap.size w w' := by
  have hBB : ∀ k, Below w.heap.size w (((w.alloc (.cells #[.int .u64 a0, .int .u64 a1, .int .u64 a2] 29)).alloc (.cells #[.int .u64 b0, .int .u64 b1, .int .u64 b2] 29)).drewN k) := fun k => below_drewN (((Below.refl _ _).alloc (Nat.le_refl _) _).alloc (by simp) _) k
  rw [lessB_iff]
  by_cases h0 : a0 = b0
  · by_cases h1 : a1 = b1
    · by_cases h2 : a2 = b2
      · have hr : decide (a0 < b0 ∨ (a0 = b0 ∧ (a1 < b1 ∨ (a1 = b1 ∧ a2 < b2)))) = false := by simp; omega
        rw [hr]
        clear hr
        subst h0; subst h1; subst h2
        go_enter Try.func14, Try.ntmps14
        go_wp2_with fail
        refine wp_loop_rounds 4 ?_
        rw [rounds_succ]
        go_wp2_with fail
        go_quiet (fail)
        go_wp2_with fail
        rw [rounds_succ]
        go_wp2_with fail
        go_quiet (fail)
        go_wp2_with fail
        rw [rounds_succ]
        go_wp2_with fail
        go_quiet (fail)
        go_wp2_with fail
        rw [rounds_succ]
        go_wp2_with fail
        go_ret
        exact ⟨rfl, by first | exact hBB _ | exact below_drewN (hBB _) _⟩
      · have hr : decide (a0 < b0 ∨ (a0 = b0 ∧ (a1 < b1 ∨ (a1 = b1 ∧ a2 < b2)))) = decide (a2 < b2) := by rw [decide_eq_decide]; omega
        have d2 : (a2 != b2) = true := by simpa using h2
        rw [hr]
        clear hr h2
        subst h0; subst h1
        go_enter Try.func14, Try.ntmps14
        go_wp2_with fail
        refine wp_loop_rounds 3 ?_
        rw [rounds_succ]
        go_wp2_with fail
        go_quiet (fail)
        go_wp2_with fail
        rw [rounds_succ]
        go_wp2_with fail
        go_quiet (fail)
        go_wp2_with fail
        rw [rounds_succ]
        go_wp2_with fail
        go_quiet (fail)
        go_wp2_with fail
        go_quiet (fail)
        go_wp2_with fail
        go_ret
        exact ⟨by first | rfl | simp, by first | exact hBB _ | exact below_drewN (hBB _) _ | exact below_drewN (below_drewN (hBB _) _) _⟩
    · have hr : decide (a0 < b0 ∨ (a0 = b0 ∧ (a1 < b1 ∨ (a1 = b1 ∧ a2 < b2)))) = decide (a1 < b1) := by rw [decide_eq_decide]; omega
      have d1 : (a1 != b1) = true := by simpa using h1
      rw [hr]
      clear hr h1
      subst h0
      go_enter Try.func14, Try.ntmps14
      go_wp2_with fail
      refine wp_loop_rounds 2 ?_
      rw [rounds_succ]
      go_wp2_with fail
      go_quiet (fail)
      go_wp2_with fail
      rw [rounds_succ]
      go_wp2_with fail
      go_quiet (fail)
      go_wp2_with fail
      go_quiet (fail)
      go_wp2_with fail
      go_ret
      exact ⟨by first | rfl | simp, by first | exact hBB _ | exact below_drewN (hBB _) _ | exact below_drewN (below_drewN (hBB _) _) _⟩
  · have hr : decide (a0 < b0 ∨ (a0 = b0 ∧ (a1 < b1 ∨ (a1 = b1 ∧ a2 < b2)))) = decide (a0 < b0) := by rw [decide_eq_decide]; omega
    have d0 : (a0 != b0) = true := by simpa using h0
    rw [hr]
    clear hr h0
    go_enter Try.func14, Try.ntmps14
    go_wp2_with fail
    refine wp_loop_rounds 1 ?_
    rw [rounds_succ]
    go_wp2_with fail
    go_quiet (fail)
    go_wp2_with fail
    go_quiet (fail)
    go_wp2_with fail
    go_ret
    exact ⟨by first | rfl | simp, by first | exact hBB _ | exact below_drewN (hBB _) _ | exact below_drewN (below_drewN (hBB _) _) _⟩

end Go.Proofs.Ytddgakjcigefoaa
