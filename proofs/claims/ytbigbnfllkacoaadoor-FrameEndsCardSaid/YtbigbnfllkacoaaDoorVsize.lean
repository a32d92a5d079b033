/-
  The sizes of numbers: what Size says, of the program and of the reference.
-/
import Derived.Test.YtbigbnfllkacoaaDoorBytes
namespace Go.Proofs.YtbigbnfllkacoaaDoor
open Go.RowKit
set_option linter.unusedVariables false
set_option linter.unusedSimpArgs false


/-- How many bytes the least form of a number has; 0: it has none. -/
def vsz (n : Int) : Nat := if n < 64 then 1 else if n < 16384 then 2 else if n < 1073741824 then 4 else if n < 4611686018427387904 then 8 else 0
theorem vsz_cases (n : Int) : (n < 64 ∧ vsz n = 1) ∨ (64 ≤ n ∧ n < 16384 ∧ vsz n = 2) ∨ (16384 ≤ n ∧ n < 1073741824 ∧ vsz n = 4) ∨ (1073741824 ≤ n ∧ n < 4611686018427387904 ∧ vsz n = 8) ∨ (4611686018427387904 ≤ n ∧ vsz n = 0) := by
  unfold vsz
  by_cases h1 : n < 64
  · exact .inl ⟨h1, by rw [if_pos h1]⟩
  · by_cases h2 : n < 16384
    · exact .inr (.inl ⟨by omega, h2, by rw [if_neg h1, if_pos h2]⟩)
    · by_cases h3 : n < 1073741824
      · exact .inr (.inr (.inl ⟨by omega, h3, by rw [if_neg h1, if_neg h2, if_pos h3]⟩))
      · by_cases h4 : n < 4611686018427387904
        · exact .inr (.inr (.inr (.inl ⟨by omega, h4, by rw [if_neg h1, if_neg h2, if_neg h3, if_pos h4]⟩)))
        · exact .inr (.inr (.inr (.inr ⟨by omega, by rw [if_neg h1, if_neg h2, if_neg h3, if_neg h4]⟩)))

theorem size_any (n : Int) (w : World) (h0 : 0 ≤ n) (hn : n ≤ 18446744073709551615) :
    Calls Tryd.prog 46 #[.int .u64 n] w fun e w' => e = .returned (.int .i64 (vsz n)) ∧ w = w' := by
  have b1 : n < 64 → (n / 64 == 0) = true := fun h => by simp; omega
  have b2 : n < 16384 → (n / 16384 == 0) = true := fun h => by simp; omega
  have b3 : n < 1073741824 → (n / 1073741824 == 0) = true := fun h => by simp; omega
  have b4 : n < 4611686018427387904 → (n / 4611686018427387904 == 0) = true := fun h => by simp; omega
  have c1 : 64 ≤ n → (n / 64 == 0) = false := fun h => by simp; omega
  have c2 : 16384 ≤ n → (n / 16384 == 0) = false := fun h => by simp; omega
  have c3 : 1073741824 ≤ n → (n / 1073741824 == 0) = false := fun h => by simp; omega
  have c4 : 4611686018427387904 ≤ n → (n / 4611686018427387904 == 0) = false := fun h => by simp; omega
  rcases vsz_cases n with ⟨h, e⟩ | ⟨h, h', e⟩ | ⟨h, h', e⟩ | ⟨h, h', e⟩ | ⟨h, e⟩
  · rw [e]
    have q0 := b1 h
    clear b1 b2 b3 b4 c1 c2 c3 c4 e
    go_enter Tryd.func46, Tryd.ntmps46
    go_wp2
    refine wp_loop_rounds 1 ?_
    rw [rounds_succ]
    go_wp2
    go_ret
    exact ⟨rfl, rfl⟩
  · rw [e]
    have q0 := c1 h
    have q1 := b2 h'
    clear b1 b2 b3 b4 c1 c2 c3 c4 e
    go_enter Tryd.func46, Tryd.ntmps46
    go_wp2
    refine wp_loop_rounds 2 ?_
    rw [rounds_succ]
    go_wp2
    rw [rounds_succ]
    go_wp2
    go_ret
    exact ⟨rfl, rfl⟩
  · rw [e]
    have q0 := c1 (by omega)
    have q1 := c2 h
    have q2 := b3 h'
    clear b1 b2 b3 b4 c1 c2 c3 c4 e
    go_enter Tryd.func46, Tryd.ntmps46
    go_wp2
    refine wp_loop_rounds 3 ?_
    rw [rounds_succ]
    go_wp2
    rw [rounds_succ]
    go_wp2
    rw [rounds_succ]
    go_wp2
    go_ret
    exact ⟨rfl, rfl⟩
  · rw [e]
    have q0 := c1 (by omega)
    have q1 := c2 (by omega)
    have q2 := c3 h
    have q3 := b4 h'
    clear b1 b2 b3 b4 c1 c2 c3 c4 e
    go_enter Tryd.func46, Tryd.ntmps46
    go_wp2
    refine wp_loop_rounds 4 ?_
    rw [rounds_succ]
    go_wp2
    rw [rounds_succ]
    go_wp2
    rw [rounds_succ]
    go_wp2
    rw [rounds_succ]
    go_wp2
    go_ret
    exact ⟨rfl, rfl⟩
  · rw [e]
    have q0 := c1 (by omega)
    have q1 := c2 (by omega)
    have q2 := c3 (by omega)
    have q3 := c4 h
    clear b1 b2 b3 b4 c1 c2 c3 c4 e
    go_enter Tryd.func46, Tryd.ntmps46
    go_wp2
    refine wp_loop_rounds 5 ?_
    rw [rounds_succ]
    go_wp2
    rw [rounds_succ]
    go_wp2
    rw [rounds_succ]
    go_wp2
    rw [rounds_succ]
    go_wp2
    rw [rounds_succ]
    go_wp2
    go_ret
    exact ⟨rfl, rfl⟩

theorem rsize_any (n : Int) (w : World) (h0 : 0 ≤ n) (hn : n ≤ 18446744073709551615) :
    Calls Tryd.prog 16 #[.int .u64 n] w fun e w' => e = .returned (.int .i64 (vsz n)) ∧ w = w' := by
  rcases vsz_cases n with ⟨h, e⟩ | ⟨h, h', e⟩ | ⟨h, h', e⟩ | ⟨h, h', e⟩ | ⟨h, e⟩
  all_goals
    rw [e]
    clear e
    go_enter Tryd.func16, Tryd.ntmps16
    go_wp2
    go_ret
    exact ⟨rfl, rfl⟩

end Go.Proofs.YtbigbnfllkacoaaDoor
