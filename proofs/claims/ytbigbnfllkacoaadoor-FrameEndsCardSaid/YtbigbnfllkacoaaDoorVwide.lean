/-
  The forms of numbers: what Wide and Num of package vint do, each once.
-/
import Derived.Test.YtbigbnfllkacoaaDoorVsize
namespace Go.Proofs.YtbigbnfllkacoaaDoor
open Go.RowKit
set_option linter.unusedVariables false
set_option linter.unusedSimpArgs false


/-- The form of a number in so many bytes (1, 2, 4 or 8). -/
def vform (n : Int) (s : Nat) : List Int :=
  if s = 1 then [n] else if s = 2 then [n / 256 + 64, n % 256] else if s = 4 then [n / 16777216 + 128, n / 65536 % 256, n / 256 % 256, n % 256] else [n / 72057594037927936 + 192, n / 281474976710656 % 256, n / 1099511627776 % 256, n / 4294967296 % 256, n / 16777216 % 256, n / 65536 % 256, n / 256 % 256, n % 256]
theorem vform1 (n : Int) : vform n 1 = [n] := rfl
theorem vform2 (n : Int) : vform n 2 = [n / 256 + 64, n % 256] := rfl
theorem vform4 (n : Int) : vform n 4 = [n / 16777216 + 128, n / 65536 % 256, n / 256 % 256, n % 256] := rfl
theorem vform8 (n : Int) : vform n 8 = [n / 72057594037927936 + 192, n / 281474976710656 % 256, n / 1099511627776 % 256, n / 4294967296 % 256, n / 16777216 % 256, n / 65536 % 256, n / 256 % 256, n % 256] := rfl
theorem vform_len (n : Int) (s : Nat) (hs : s = 1 ∨ s = 2 ∨ s = 4 ∨ s = 8) : (vform n s).length = s := by
  rcases hs with rfl | rfl | rfl | rfl <;> rfl
theorem vsz_in (n : Int) (h : vsz n ≠ 0) : vsz n = 1 ∨ vsz n = 2 ∨ vsz n = 4 ∨ vsz n = 8 := by
  rcases vsz_cases n with ⟨_, e⟩ | ⟨_, _, e⟩ | ⟨_, _, e⟩ | ⟨_, _, e⟩ | ⟨_, e⟩ <;> omega
theorem vsz_fits (n : Int) (s : Nat) (hs : s = 1 ∨ s = 2 ∨ s = 4 ∨ s = 8) (h : vsz n ≠ 0) (h' : vsz n ≤ s) : (s = 1 ∧ n < 64) ∨ (s = 2 ∧ n < 16384) ∨ (s = 4 ∧ n < 1073741824) ∨ (s = 8 ∧ n < 4611686018427387904) := by
  rcases vsz_cases n with ⟨_, e⟩ | ⟨_, _, e⟩ | ⟨_, _, e⟩ | ⟨_, _, e⟩ | ⟨_, e⟩ <;> omega
theorem vform_ok (n : Int) (s : Nat) (h0 : 0 ≤ n) (hs : s = 1 ∨ s = 2 ∨ s = 4 ∨ s = 8) (h : vsz n ≠ 0) (h' : vsz n ≤ s) : BytesOk (vform n s) := by
  rcases vsz_fits n s hs h h' with ⟨rfl, hn⟩ | ⟨rfl, hn⟩ | ⟨rfl, hn⟩ | ⟨rfl, hn⟩
  · rw [vform1]; intro x hx; simp at hx; omega
  · rw [vform2]; intro x hx; simp only [List.mem_cons, List.not_mem_nil, or_false] at hx; omega
  · rw [vform4]; intro x hx; simp only [List.mem_cons, List.not_mem_nil, or_false] at hx; omega
  · rw [vform8]; intro x hx; simp only [List.mem_cons, List.not_mem_nil, or_false] at hx; omega
theorem or_markI (a : Int) (m : Nat) (M : Int) (hM : M = ((64 * m : Nat) : Int)) (ha : 0 ≤ a) (ha' : a < 64) (hm : m < 4) : bits .or .u8 a M = a + M := by
  subst hM
  obtain ⟨A, rfl⟩ := Int.eq_ofNat_of_zero_le ha
  rw [u8_or_nat A (64 * m) (by omega) (by omega)]
  have h := Nat.two_pow_add_eq_or_of_lt (i := 6) (b := A) (by omega) m
  rw [Nat.or_comm, show 64 * m = 2 ^ 6 * m by omega, ← h]
  omega

set_option maxRecDepth 100000 in
theorem wide_arg (n s : Int) (w : World) (h1 : s ≠ 1) (h2 : s ≠ 2) (h4 : s ≠ 4) (h8 : s ≠ 8) :
    Calls Tryd.prog 53 #[.int .u64 n, .int .i64 s] w fun e w' => e = .returned (.tuple #[.slice none 0 0, .int .i64 1]) ∧ w = w' := by
  have q1 : (s == 1) = false := by simpa using h1
  have q2 : (s == 2) = false := by simpa using h2
  have q4 : (s == 4) = false := by simpa using h4
  have q8 : (s == 8) = false := by simpa using h8
  clear h1 h2 h4 h8
  go_enter Tryd.func53, Tryd.ntmps53
  go_wp2_with fail
  refine wp_loop_rounds 5 ?_
  rw [rounds_succ]
  go_wp2
  rw [rounds_succ]
  go_wp2
  rw [rounds_succ]
  go_wp2
  rw [rounds_succ]
  go_wp2
  rw [rounds_succ]
  go_wp2_with fail
  go_ret2
  exact ⟨rfl, rfl⟩

set_option maxRecDepth 100000 in
theorem wide_long (n : Int) (s : Nat) (w : World) (h0 : 0 ≤ n) (hn : n ≤ 18446744073709551615) (hs : s = 1 ∨ s = 2 ∨ s = 4 ∨ s = 8) (hl : vsz n = 0 ∨ s < vsz n) :
    Calls Tryd.prog 53 #[.int .u64 n, .int .i64 s] w fun e w' => e = .returned (.tuple #[.slice none 0 0, .int .i64 3]) ∧ w = w' := by
  rcases hl with hl | hl
  · have hz : ((vsz n : Int) == 0) = true := by simp; omega
    rcases hs with rfl | rfl | rfl | rfl
    all_goals
      clear hl
      go_enter Tryd.func53, Tryd.ntmps53
      go_wp2_with fail
      refine wp_loop_rounds 5 ?_
      rw [rounds_succ]
      go_wp2
      rw [rounds_succ]
      go_wp2
      rw [rounds_succ]
      go_wp2
      rw [rounds_succ]
      go_wp2
      rw [rounds_succ]
      go_wp2_with fail
      refine (size_any n _ h0 hn).mono ?_
      rintro e w' ⟨rfl, rfl⟩
      go_wp2_with fail
      go_ret2
      exact ⟨rfl, rfl⟩
  · have hz : ((vsz n : Int) == 0) = false := by simp; omega
    rcases hs with rfl | rfl | rfl | rfl
    · have hz2 : decide ((1 : Int) < (vsz n : Int)) = true := by simp; omega
      have hz3 : (1 : Int) < (vsz n : Int) := by omega
      clear hl
      go_enter Tryd.func53, Tryd.ntmps53
      go_wp2_with fail
      refine wp_loop_rounds 5 ?_
      rw [rounds_succ]
      go_wp2
      rw [rounds_succ]
      go_wp2
      rw [rounds_succ]
      go_wp2
      rw [rounds_succ]
      go_wp2
      rw [rounds_succ]
      go_wp2_with fail
      refine (size_any n _ h0 hn).mono ?_
      rintro e w' ⟨rfl, rfl⟩
      go_wp2_with fail
      refine (size_any n _ h0 hn).mono ?_
      rintro e w' ⟨rfl, rfl⟩
      go_wp2_with fail
      go_ret2
      exact ⟨rfl, rfl⟩
    · have hz2 : decide ((2 : Int) < (vsz n : Int)) = true := by simp; omega
      have hz3 : (2 : Int) < (vsz n : Int) := by omega
      clear hl
      go_enter Tryd.func53, Tryd.ntmps53
      go_wp2_with fail
      refine wp_loop_rounds 5 ?_
      rw [rounds_succ]
      go_wp2
      rw [rounds_succ]
      go_wp2
      rw [rounds_succ]
      go_wp2
      rw [rounds_succ]
      go_wp2
      rw [rounds_succ]
      go_wp2_with fail
      refine (size_any n _ h0 hn).mono ?_
      rintro e w' ⟨rfl, rfl⟩
      go_wp2_with fail
      refine (size_any n _ h0 hn).mono ?_
      rintro e w' ⟨rfl, rfl⟩
      go_wp2_with fail
      go_ret2
      exact ⟨rfl, rfl⟩
    · have hz2 : decide ((4 : Int) < (vsz n : Int)) = true := by simp; omega
      have hz3 : (4 : Int) < (vsz n : Int) := by omega
      clear hl
      go_enter Tryd.func53, Tryd.ntmps53
      go_wp2_with fail
      refine wp_loop_rounds 5 ?_
      rw [rounds_succ]
      go_wp2
      rw [rounds_succ]
      go_wp2
      rw [rounds_succ]
      go_wp2
      rw [rounds_succ]
      go_wp2
      rw [rounds_succ]
      go_wp2_with fail
      refine (size_any n _ h0 hn).mono ?_
      rintro e w' ⟨rfl, rfl⟩
      go_wp2_with fail
      refine (size_any n _ h0 hn).mono ?_
      rintro e w' ⟨rfl, rfl⟩
      go_wp2_with fail
      go_ret2
      exact ⟨rfl, rfl⟩
    · have hz2 : decide ((8 : Int) < (vsz n : Int)) = true := by simp; omega
      have hz3 : (8 : Int) < (vsz n : Int) := by omega
      clear hl
      go_enter Tryd.func53, Tryd.ntmps53
      go_wp2_with fail
      refine wp_loop_rounds 5 ?_
      rw [rounds_succ]
      go_wp2
      rw [rounds_succ]
      go_wp2
      rw [rounds_succ]
      go_wp2
      rw [rounds_succ]
      go_wp2
      rw [rounds_succ]
      go_wp2_with fail
      refine (size_any n _ h0 hn).mono ?_
      rintro e w' ⟨rfl, rfl⟩
      go_wp2_with fail
      refine (size_any n _ h0 hn).mono ?_
      rintro e w' ⟨rfl, rfl⟩
      go_wp2_with fail
      go_ret2
      exact ⟨rfl, rfl⟩

set_option maxHeartbeats 2000000 in
set_option maxRecDepth 100000 in
theorem wide_1 (n : Int) (w : World) (h0 : 0 ≤ n) (hlim : n < 64) (hv0 : vsz n ≠ 0) (hv : vsz n ≤ 1) :
    Calls Tryd.prog 53 #[.int .u64 n, .int .i64 1] w fun e w' => e = .returned (.tuple #[.slice (some ⟨w.heap.size, 0, none⟩) 1 1, .int .i64 0]) ∧ w.alloc (.cells ((vform n 1).map (Value.int .u8)).toArray 5) = w' := by
  have hn : n ≤ 18446744073709551615 := by omega
  have hz : ((vsz n : Int) == 0) = false := by simp; omega
  have hz2 : decide ((1 : Int) < (vsz n : Int)) = false := by simp; omega
  have hz3 : (vsz n : Int) ≤ 1 := by omega
  have hmk : ∀ W : World, (Instr.makeSlice 23 (.int .i64 1) (.int .i64 1)).run Tryd.prog W = .ok (.slice (some ⟨W.heap.size, 0, none⟩) 1 1) (W.alloc (.cells #[.int .u8 0] 5)) := fun _ => by kernel_rfl
  have hor : bits .or .u8 (n) 0 = n + 0 := or_markI _ 0 0 (by decide) (by omega) (by omega) (by decide)
  rw [vform1]
  clear hv hv0
  go_enter Tryd.func53, Tryd.ntmps53
  go_wp2_with fail
  refine wp_loop_rounds 5 ?_
  rw [rounds_succ]
  go_wp2
  rw [rounds_succ]
  go_wp2
  rw [rounds_succ]
  go_wp2
  rw [rounds_succ]
  go_wp2
  rw [rounds_succ]
  go_wp2_with fail
  refine (size_any n _ h0 hn).mono ?_
  rintro e w' ⟨rfl, rfl⟩
  go_wp2_with fail
  refine (size_any n _ h0 hn).mono ?_
  rintro e w' ⟨rfl, rfl⟩
  go_wp2_with fail
  refine wp_loop_rounds 2 ?_
  rw [rounds_succ]
  go_wp2
  rw [rounds_succ]
  go_wp2
  go_ret2
  exact ⟨rfl, by first | rfl | simp⟩

set_option maxHeartbeats 2000000 in
set_option maxRecDepth 100000 in
theorem wide_2 (n : Int) (w : World) (h0 : 0 ≤ n) (hlim : n < 16384) (hv0 : vsz n ≠ 0) (hv : vsz n ≤ 2) :
    Calls Tryd.prog 53 #[.int .u64 n, .int .i64 2] w fun e w' => e = .returned (.tuple #[.slice (some ⟨w.heap.size, 0, none⟩) 2 2, .int .i64 0]) ∧ w.alloc (.cells ((vform n 2).map (Value.int .u8)).toArray 5) = w' := by
  have hn : n ≤ 18446744073709551615 := by omega
  have hz : ((vsz n : Int) == 0) = false := by simp; omega
  have hz2 : decide ((2 : Int) < (vsz n : Int)) = false := by simp; omega
  have hz3 : (vsz n : Int) ≤ 2 := by omega
  have hmk : ∀ W : World, (Instr.makeSlice 23 (.int .i64 2) (.int .i64 2)).run Tryd.prog W = .ok (.slice (some ⟨W.heap.size, 0, none⟩) 2 2) (W.alloc (.cells #[.int .u8 0, .int .u8 0] 5)) := fun _ => by kernel_rfl
  have hor : bits .or .u8 (n / 256) 64 = n / 256 + 64 := or_markI _ 1 64 (by decide) (by omega) (by omega) (by decide)
  rw [vform2]
  clear hv hv0
  go_enter Tryd.func53, Tryd.ntmps53
  go_wp2_with fail
  refine wp_loop_rounds 5 ?_
  rw [rounds_succ]
  go_wp2
  rw [rounds_succ]
  go_wp2
  rw [rounds_succ]
  go_wp2
  rw [rounds_succ]
  go_wp2
  rw [rounds_succ]
  go_wp2_with fail
  refine (size_any n _ h0 hn).mono ?_
  rintro e w' ⟨rfl, rfl⟩
  go_wp2_with fail
  refine (size_any n _ h0 hn).mono ?_
  rintro e w' ⟨rfl, rfl⟩
  go_wp2_with fail
  refine wp_loop_rounds 3 ?_
  rw [rounds_succ]
  go_wp2
  rw [rounds_succ]
  go_wp2
  rw [rounds_succ]
  go_wp2
  go_ret2
  exact ⟨rfl, by first | rfl | simp⟩

set_option maxHeartbeats 2000000 in
set_option maxRecDepth 100000 in
theorem wide_4 (n : Int) (w : World) (h0 : 0 ≤ n) (hlim : n < 1073741824) (hv0 : vsz n ≠ 0) (hv : vsz n ≤ 4) :
    Calls Tryd.prog 53 #[.int .u64 n, .int .i64 4] w fun e w' => e = .returned (.tuple #[.slice (some ⟨w.heap.size, 0, none⟩) 4 4, .int .i64 0]) ∧ w.alloc (.cells ((vform n 4).map (Value.int .u8)).toArray 5) = w' := by
  have hn : n ≤ 18446744073709551615 := by omega
  have hz : ((vsz n : Int) == 0) = false := by simp; omega
  have hz2 : decide ((4 : Int) < (vsz n : Int)) = false := by simp; omega
  have hz3 : (vsz n : Int) ≤ 4 := by omega
  have hmk : ∀ W : World, (Instr.makeSlice 23 (.int .i64 4) (.int .i64 4)).run Tryd.prog W = .ok (.slice (some ⟨W.heap.size, 0, none⟩) 4 4) (W.alloc (.cells #[.int .u8 0, .int .u8 0, .int .u8 0, .int .u8 0] 5)) := fun _ => by kernel_rfl
  have hor : bits .or .u8 (n / 16777216) 128 = n / 16777216 + 128 := or_markI _ 2 128 (by decide) (by omega) (by omega) (by decide)
  rw [vform4]
  clear hv hv0
  go_enter Tryd.func53, Tryd.ntmps53
  go_wp2_with fail
  refine wp_loop_rounds 5 ?_
  rw [rounds_succ]
  go_wp2
  rw [rounds_succ]
  go_wp2
  rw [rounds_succ]
  go_wp2
  rw [rounds_succ]
  go_wp2
  rw [rounds_succ]
  go_wp2_with fail
  refine (size_any n _ h0 hn).mono ?_
  rintro e w' ⟨rfl, rfl⟩
  go_wp2_with fail
  refine (size_any n _ h0 hn).mono ?_
  rintro e w' ⟨rfl, rfl⟩
  go_wp2_with fail
  refine wp_loop_rounds 5 ?_
  rw [rounds_succ]
  go_wp2
  rw [rounds_succ]
  go_wp2
  rw [rounds_succ]
  go_wp2
  rw [rounds_succ]
  go_wp2
  rw [rounds_succ]
  go_wp2
  go_ret2
  exact ⟨rfl, by first | rfl | simp⟩

set_option maxHeartbeats 2000000 in
set_option maxRecDepth 100000 in
theorem wide_8 (n : Int) (w : World) (h0 : 0 ≤ n) (hlim : n < 4611686018427387904) (hv0 : vsz n ≠ 0) (hv : vsz n ≤ 8) :
    Calls Tryd.prog 53 #[.int .u64 n, .int .i64 8] w fun e w' => e = .returned (.tuple #[.slice (some ⟨w.heap.size, 0, none⟩) 8 8, .int .i64 0]) ∧ w.alloc (.cells ((vform n 8).map (Value.int .u8)).toArray 5) = w' := by
  have hn : n ≤ 18446744073709551615 := by omega
  have hz : ((vsz n : Int) == 0) = false := by simp; omega
  have hz2 : decide ((8 : Int) < (vsz n : Int)) = false := by simp; omega
  have hz3 : (vsz n : Int) ≤ 8 := by omega
  have hmk : ∀ W : World, (Instr.makeSlice 23 (.int .i64 8) (.int .i64 8)).run Tryd.prog W = .ok (.slice (some ⟨W.heap.size, 0, none⟩) 8 8) (W.alloc (.cells #[.int .u8 0, .int .u8 0, .int .u8 0, .int .u8 0, .int .u8 0, .int .u8 0, .int .u8 0, .int .u8 0] 5)) := fun _ => by kernel_rfl
  have hor : bits .or .u8 (n / 72057594037927936) 192 = n / 72057594037927936 + 192 := or_markI _ 3 192 (by decide) (by omega) (by omega) (by decide)
  rw [vform8]
  clear hv hv0
  go_enter Tryd.func53, Tryd.ntmps53
  go_wp2_with fail
  refine wp_loop_rounds 5 ?_
  rw [rounds_succ]
  go_wp2
  rw [rounds_succ]
  go_wp2
  rw [rounds_succ]
  go_wp2
  rw [rounds_succ]
  go_wp2
  rw [rounds_succ]
  go_wp2_with fail
  refine (size_any n _ h0 hn).mono ?_
  rintro e w' ⟨rfl, rfl⟩
  go_wp2_with fail
  refine (size_any n _ h0 hn).mono ?_
  rintro e w' ⟨rfl, rfl⟩
  go_wp2_with fail
  refine wp_loop_rounds 9 ?_
  rw [rounds_succ]
  go_wp2
  rw [rounds_succ]
  go_wp2
  rw [rounds_succ]
  go_wp2
  rw [rounds_succ]
  go_wp2
  rw [rounds_succ]
  go_wp2
  rw [rounds_succ]
  go_wp2
  rw [rounds_succ]
  go_wp2
  rw [rounds_succ]
  go_wp2
  rw [rounds_succ]
  go_wp2
  go_ret2
  exact ⟨rfl, by first | rfl | simp⟩

end Go.Proofs.YtbigbnfllkacoaaDoor
