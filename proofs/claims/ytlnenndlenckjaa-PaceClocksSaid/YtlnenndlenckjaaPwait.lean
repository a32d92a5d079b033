/-
  PaceClocks: behind any samples the clock tells what the document says, and how long it waits. For every input; no condition.
-/
import Derived.Test.YtlnenndlenckjaaRtold
namespace Go.Proofs.Ytlnenndlenckjaa
open Go.RowKit
set_option linter.unusedVariables false
set_option linter.unusedSimpArgs false


theorem pow_le (n : Nat) (h : n ≤ 19) : 1 ≤ (2 : Int) ^ n ∧ (2 : Int) ^ n ≤ 524288 := by
  have hN : (2 : Nat) ^ n ≤ 2 ^ 19 := Nat.pow_le_pow_right (by decide) h
  have hc : (2 : Int) ^ n = (((2 : Nat) ^ n : Nat) : Int) := by simp
  have hp : 1 ≤ (2 : Nat) ^ n := Nat.one_le_two_pow
  rw [hc]
  exact ⟨Int.ofNat_le.2 hp, Int.ofNat_le.2 hN⟩
theorem mul_ok (B : Int) (j : Nat) (hB : 3 ≤ B ∧ B ≤ 8796093022208) (hj : j ≤ 19) : 0 ≤ B * 2 ^ j ∧ B * 2 ^ j ≤ 4611686018427387904 := by
  have hp := pow_le j hj
  exact ⟨Int.mul_nonneg (by omega) (by omega), Int.le_trans (Int.mul_le_mul hB.2 hp.2 (by omega) (by decide)) (by decide)⟩
set_option maxRecDepth 100000 in
theorem rwait_loop (la le sm va n : Int) (w : World) (hs : 0 ≤ sm ∧ sm ≤ 1099511627776) (hv : 0 ≤ va ∧ va ≤ 1099511627776) :
    Calls Try.prog 14 #[.agg #[.int .u64 la, .int .u64 le, .int .u64 sm, .int .u64 va], .int .i64 n] w fun e w' => e = .returned (.int .u64 (waitI sm va n)) ∧ Below w.heap.size w w' := by
  have hO := Blk.new w 29 #[.int .u64 la, .int .u64 le, .int .u64 sm, .int .u64 va]
  have hB0 := (Below.refl w.heap.size w).alloc (Nat.le_refl _) (.cells #[.int .u64 la, .int .u64 le, .int .u64 sm, .int .u64 va] 29)
  have hbo := base_ok sm va hs hv
  have hcase : (va = 0 ∧ base sm va = sm + 2 + 1) ∨ (0 < va ∧ base sm va = sm + 2 + 4 * va) := by unfold base; split <;> omega
  have hw : waitI sm va n = base sm va * 2 ^ (tries n).toNat := rfl
  obtain ⟨B, hBe⟩ : ∃ B, B = base sm va := ⟨_, rfl⟩
  rw [← hBe] at hbo hcase hw
  have HW := Lib.hid hw
  clear hw hBe
  rcases hcase with ⟨hv0, hb0⟩ | ⟨hv0, hb0⟩
  all_goals
    have HB := Lib.hid hb0
    clear hb0
    first | (have hz : (va == 0) = true := by simpa using hv0) | (have hz : (va == 0) = false := by simp; omega)
    clear hv0
    go_enter Try.func14, Try.ntmps14
    go_wp2_with fail
    rw [← HB.out]
    go_loop [5, 6] (fun x i => ∃ (j : Nat) (X : Int), x = .int .u64 X ∧ i = .int .i64 j ∧ j ≤ 20 ∧ (j = 0 ∨ (j : Int) ≤ n) ∧ X = B * 2 ^ j) (fun _ i => 20 - (intOf i).toNat)
    case atStart => exact ⟨0, B, rfl, rfl, by decide, .inl rfl, by simp⟩
    case round =>
      obtain ⟨j, X, rfl, rfl, hj, hjn, hX⟩ := hrel
      by_cases h1 : (j : Int) < n
      · by_cases h2 : j < 20
        · have h2' : (j : Int) < (20 : Int) := by omega
          have hX2 : X * 2 = B * 2 ^ (j + 1) := by rw [hX, Int.pow_succ, Int.mul_assoc]
          have hXb := mul_ok B j hbo (by omega)
          rw [← hX] at hXb
          have HX := Lib.hid hX2
          clear hX hX2
          go_wp2_with fail
          go_round
          case rel => exact ⟨j + 1, X * 2, rfl, by go_num, by omega, .inr (by omega), HX.out⟩
          case measure => simp [intOf]; omega
        · have ht : (tries n).toNat = j := by unfold tries; rw [if_neg (show ¬ n < 0 by omega), if_pos (by omega)]; omega
          have hf : X = waitI sm va n := by rw [HW.out, hX, ht]
          have HF := Lib.hid hf
          have h2' : ¬ (j : Int) < (20 : Int) := by omega
          clear hX ht hf
          go_wp2_with fail
          go_ret
          exact ⟨by rw [← HF.out]; rfl, hB0⟩
      · have ht : (tries n).toNat = j := by
          unfold tries
          by_cases hn : n < 0
          · rw [if_pos hn, if_neg (by decide)]; omega
          · rw [if_neg hn, if_neg (by omega)]; omega
        have hf : X = waitI sm va n := by rw [HW.out, hX, ht]
        have HF := Lib.hid hf
        clear hX ht hf
        go_wp2_with fail
        go_ret
        exact ⟨by rw [← HF.out]; rfl, hB0⟩
theorem rlost_any (la le sm va : Int) (w : World) (hs : 0 ≤ sm ∧ sm ≤ 1099511627776) (hl : 0 ≤ la ∧ la ≤ 1099511627776) :
    Calls Try.prog 16 #[.agg #[.int .u64 la, .int .u64 le, .int .u64 sm, .int .u64 va]] w fun e w' => e = .returned (.int .u64 (lostI la sm)) ∧ Below w.heap.size w w' := by
  have hO := Blk.new w 29 #[.int .u64 la, .int .u64 le, .int .u64 sm, .int .u64 va]
  have hB0 := (Below.refl w.heap.size w).alloc (Nat.le_refl _) (.cells #[.int .u64 la, .int .u64 le, .int .u64 sm, .int .u64 va] 29)
  unfold lostI
  by_cases h1 : la < sm
  · simp only [if_pos h1]
    by_cases h2 : 9 * sm / 8 < 1
    · exact absurd h2 (by omega)
    · rw [if_neg h2]
      have hz : (9 * sm / 8 == 0) = false := by simp; omega
      go_enter Try.func16, Try.ntmps16
      go_wp2_with fail
      go_ret
      exact ⟨by first | rfl | simp, hB0⟩
  · simp only [if_neg h1]
    by_cases h2 : 9 * la / 8 < 1
    · rw [if_pos h2]
      have hz : (9 * la / 8 == 0) = true := by simp; omega
      go_enter Try.func16, Try.ntmps16
      go_wp2_with fail
      go_ret
      exact ⟨by first | rfl | simp, hB0⟩
    · rw [if_neg h2]
      have hz : (9 * la / 8 == 0) = false := by simp; omega
      go_enter Try.func16, Try.ntmps16
      go_wp2_with fail
      go_ret
      exact ⟨by first | rfl | simp, hB0⟩

theorem infoU : (Try.prog.info? 26).map (fun i => (i.zero, i.size, i.bytes)) = some (some (.int .u64 0), 1, 8) := by kernel_rfl
theorem eq4d (W : World) (d : Nat) (a0 a1 a2 a3 : Int) : (Op.equalIn (d + 1 + 1) 29 (.agg #[.int .u64 a0, .int .u64 a1, .int .u64 a2, .int .u64 a3]) (.agg #[.int .u64 a0, .int .u64 a1, .int .u64 a2, .int .u64 a3])).run Try.prog W = Result.ok true W := by
  obtain ⟨i, hi, hz, h1, h2⟩ := info_parts infoU
  have h : ∀ (x y : Int), (Op.equalIn (d + 1) 26 (.int .u64 x) (.int .u64 y)).run Try.prog W = Result.ok (x == y) W := fun x y => run_equalIn_int W d 26 .u64 .u64 x y Try.underlying26
  have p0 : ∀ (a b c e : Value), (part 26 #[a, b, c, e] 0).run Try.prog W = Result.ok a W := fun a b c e => by kernel_rfl
  have p1 : ∀ (a b c e : Value), (part 26 #[a, b, c, e] 1).run Try.prog W = Result.ok b W := fun a b c e => by kernel_rfl
  have p2 : ∀ (a b c e : Value), (part 26 #[a, b, c, e] 2).run Try.prog W = Result.ok c W := fun a b c e => by kernel_rfl
  have p3 : ∀ (a b c e : Value), (part 26 #[a, b, c, e] 3).run Try.prog W = Result.ok e W := fun a b c e => by kernel_rfl
  have hr : (List.range' 0 4 1) = [0, 1, 2, 3] := rfl
  simp only [Op.equalIn, Sem.run_bind, run_underlying Try.underlying29, Result.andThen_ok, sizeOf, typeInfo]
  simp [hi, h1, hr, p0, p1, p2, p3, h, Sem.run_bind, List.forIn_cons]
theorem eq4 (W : World) (a0 a1 a2 a3 : Int) : (Op.equalIn 10000 29 (.agg #[.int .u64 a0, .int .u64 a1, .int .u64 a2, .int .u64 a3]) (.agg #[.int .u64 a0, .int .u64 a1, .int .u64 a2, .int .u64 a3])).run Try.prog W = Result.ok true W :=
  eq4d W 9998 a0 a1 a2 a3

end Go.Proofs.Ytlnenndlenckjaa
