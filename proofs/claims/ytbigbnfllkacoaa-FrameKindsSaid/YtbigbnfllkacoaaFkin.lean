/-
  FrameKinds: of any kind it is told whether it asks for an answer, and where it may be. For every input; no condition.
-/
import Derived.Test.YtbigbnfllkacoaaFawk
namespace Go.Proofs.Ytbigbnfllkacoaa
open Go.RowKit
set_option linter.unusedVariables false
set_option linter.unusedSimpArgs false


def Other (k : Int) : Prop := (0 ≤ k ∧ k ≤ 18446744073709551615) ∧ k ≠ 0 ∧ k ≠ 1 ∧ k ≠ 2 ∧ k ≠ 4 ∧ k ≠ 5 ∧ k ≠ 6 ∧ k ≠ 7 ∧ k ≠ 8 ∧ k ≠ 16 ∧ k ≠ 17 ∧ k ≠ 18 ∧ k ≠ 19 ∧ k ≠ 20 ∧ k ≠ 21 ∧ k ≠ 22 ∧ k ≠ 23 ∧ k ≠ 24 ∧ k ≠ 25 ∧ k ≠ 26 ∧ k ≠ 27 ∧ k ≠ 28 ∧ k ≠ 29 ∧ k ≠ 30 ∧ k ≠ 48
theorem known_of (k : Int) (h0 : 0 ≤ k ∧ k ≤ 18446744073709551615) : k = 0 ∨ k = 1 ∨ k = 2 ∨ k = 4 ∨ k = 5 ∨ k = 6 ∨ k = 7 ∨ k = 8 ∨ k = 16 ∨ k = 17 ∨ k = 18 ∨ k = 19 ∨ k = 20 ∨ k = 21 ∨ k = 22 ∨ k = 23 ∨ k = 24 ∨ k = 25 ∨ k = 26 ∨ k = 27 ∨ k = 28 ∨ k = 29 ∨ k = 30 ∨ k = 48 ∨ Other k := by
  unfold Other
  omega
theorem Other.ne {k : Int} (h : Other k) (v : Int) (hv : v ∈ [0, 1, 2, 4, 5, 6, 7, 8, 16, 17, 18, 19, 20, 21, 22, 23, 24, 25, 26, 27, 28, 29, 30, 48]) : k ≠ v := by
  obtain ⟨_, h⟩ := h
  simp only [List.mem_cons, List.not_mem_nil, or_false] at hv
  obtain ⟨h0, h1, h2, h4, h5, h6, h7, h8, h16, h17, h18, h19, h20, h21, h22, h23, h24, h25, h26, h27, h28, h29, h30, h48⟩ := h
  rcases hv with rfl | rfl | rfl | rfl | rfl | rfl | rfl | rfl | rfl | rfl | rfl | rfl | rfl | rfl | rfl | rfl | rfl | rfl | rfl | rfl | rfl | rfl | rfl | rfl <;> assumption
set_option maxHeartbeats 1000000 in
set_option maxRecDepth 100000 in
theorem shape_0 (w : World) : Calls Try.prog 9 #[.int .u64 0] w fun e w' => e = .returned (.string ⟨#[63]⟩) ∧ w = w' := by
  go_enter Try.func9, Try.ntmps9
  go_wp2_with fail
  go_ret
  exact ⟨rfl, rfl⟩
set_option maxHeartbeats 1000000 in
set_option maxRecDepth 100000 in
theorem shape_1 (w : World) : Calls Try.prog 9 #[.int .u64 1] w fun e w' => e = .returned (.string ⟨#[]⟩) ∧ w = w' := by
  go_enter Try.func9, Try.ntmps9
  go_wp2_with fail
  go_ret
  exact ⟨rfl, rfl⟩
set_option maxHeartbeats 1000000 in
set_option maxRecDepth 100000 in
theorem shape_2 (w : World) : Calls Try.prog 9 #[.int .u64 2] w fun e w' => e = .returned (.string ⟨#[63]⟩) ∧ w = w' := by
  go_enter Try.func9, Try.ntmps9
  go_wp2_with fail
  go_ret
  exact ⟨rfl, rfl⟩
set_option maxHeartbeats 1000000 in
set_option maxRecDepth 100000 in
theorem shape_4 (w : World) : Calls Try.prog 9 #[.int .u64 4] w fun e w' => e = .returned (.string ⟨#[105, 99, 111]⟩) ∧ w = w' := by
  go_enter Try.func9, Try.ntmps9
  go_wp2_with fail
  go_ret
  exact ⟨rfl, rfl⟩
set_option maxHeartbeats 1000000 in
set_option maxRecDepth 100000 in
theorem shape_5 (w : World) : Calls Try.prog 9 #[.int .u64 5] w fun e w' => e = .returned (.string ⟨#[105, 99]⟩) ∧ w = w' := by
  go_enter Try.func9, Try.ntmps9
  go_wp2_with fail
  go_ret
  exact ⟨rfl, rfl⟩
set_option maxHeartbeats 1000000 in
set_option maxRecDepth 100000 in
theorem shape_6 (w : World) : Calls Try.prog 9 #[.int .u64 6] w fun e w' => e = .returned (.string ⟨#[111, 116]⟩) ∧ w = w' := by
  go_enter Try.func9, Try.ntmps9
  go_wp2_with fail
  go_ret
  exact ⟨rfl, rfl⟩
set_option maxHeartbeats 1000000 in
set_option maxRecDepth 100000 in
theorem shape_7 (w : World) : Calls Try.prog 9 #[.int .u64 7] w fun e w' => e = .returned (.string ⟨#[116]⟩) ∧ w = w' := by
  go_enter Try.func9, Try.ntmps9
  go_wp2_with fail
  go_ret
  exact ⟨rfl, rfl⟩
set_option maxHeartbeats 1000000 in
set_option maxRecDepth 100000 in
theorem shape_8 (w : World) : Calls Try.prog 9 #[.int .u64 8] w fun e w' => e = .returned (.string ⟨#[63]⟩) ∧ w = w' := by
  go_enter Try.func9, Try.ntmps9
  go_wp2_with fail
  go_ret
  exact ⟨rfl, rfl⟩
set_option maxHeartbeats 1000000 in
set_option maxRecDepth 100000 in
theorem shape_16 (w : World) : Calls Try.prog 9 #[.int .u64 16] w fun e w' => e = .returned (.string ⟨#[110]⟩) ∧ w = w' := by
  go_enter Try.func9, Try.ntmps9
  go_wp2_with fail
  go_ret
  exact ⟨rfl, rfl⟩
set_option maxHeartbeats 1000000 in
set_option maxRecDepth 100000 in
theorem shape_17 (w : World) : Calls Try.prog 9 #[.int .u64 17] w fun e w' => e = .returned (.string ⟨#[105, 110]⟩) ∧ w = w' := by
  go_enter Try.func9, Try.ntmps9
  go_wp2_with fail
  go_ret
  exact ⟨rfl, rfl⟩
set_option maxHeartbeats 1000000 in
set_option maxRecDepth 100000 in
theorem shape_18 (w : World) : Calls Try.prog 9 #[.int .u64 18] w fun e w' => e = .returned (.string ⟨#[110]⟩) ∧ w = w' := by
  go_enter Try.func9, Try.ntmps9
  go_wp2_with fail
  go_ret
  exact ⟨rfl, rfl⟩
set_option maxHeartbeats 1000000 in
set_option maxRecDepth 100000 in
theorem shape_19 (w : World) : Calls Try.prog 9 #[.int .u64 19] w fun e w' => e = .returned (.string ⟨#[110]⟩) ∧ w = w' := by
  go_enter Try.func9, Try.ntmps9
  go_wp2_with fail
  go_ret
  exact ⟨rfl, rfl⟩
set_option maxHeartbeats 1000000 in
set_option maxRecDepth 100000 in
theorem shape_20 (w : World) : Calls Try.prog 9 #[.int .u64 20] w fun e w' => e = .returned (.string ⟨#[110]⟩) ∧ w = w' := by
  go_enter Try.func9, Try.ntmps9
  go_wp2_with fail
  go_ret
  exact ⟨rfl, rfl⟩
set_option maxHeartbeats 1000000 in
set_option maxRecDepth 100000 in
theorem shape_21 (w : World) : Calls Try.prog 9 #[.int .u64 21] w fun e w' => e = .returned (.string ⟨#[105, 110]⟩) ∧ w = w' := by
  go_enter Try.func9, Try.ntmps9
  go_wp2_with fail
  go_ret
  exact ⟨rfl, rfl⟩
set_option maxHeartbeats 1000000 in
set_option maxRecDepth 100000 in
theorem shape_22 (w : World) : Calls Try.prog 9 #[.int .u64 22] w fun e w' => e = .returned (.string ⟨#[110]⟩) ∧ w = w' := by
  go_enter Try.func9, Try.ntmps9
  go_wp2_with fail
  go_ret
  exact ⟨rfl, rfl⟩
set_option maxHeartbeats 1000000 in
set_option maxRecDepth 100000 in
theorem shape_23 (w : World) : Calls Try.prog 9 #[.int .u64 23] w fun e w' => e = .returned (.string ⟨#[110]⟩) ∧ w = w' := by
  go_enter Try.func9, Try.ntmps9
  go_wp2_with fail
  go_ret
  exact ⟨rfl, rfl⟩
set_option maxHeartbeats 1000000 in
set_option maxRecDepth 100000 in
theorem shape_24 (w : World) : Calls Try.prog 9 #[.int .u64 24] w fun e w' => e = .returned (.string ⟨#[63]⟩) ∧ w = w' := by
  go_enter Try.func9, Try.ntmps9
  go_wp2_with fail
  go_ret
  exact ⟨rfl, rfl⟩
set_option maxHeartbeats 1000000 in
set_option maxRecDepth 100000 in
theorem shape_25 (w : World) : Calls Try.prog 9 #[.int .u64 25] w fun e w' => e = .returned (.string ⟨#[105]⟩) ∧ w = w' := by
  go_enter Try.func9, Try.ntmps9
  go_wp2_with fail
  go_ret
  exact ⟨rfl, rfl⟩
set_option maxHeartbeats 1000000 in
set_option maxRecDepth 100000 in
theorem shape_26 (w : World) : Calls Try.prog 9 #[.int .u64 26] w fun e w' => e = .returned (.string ⟨#[63]⟩) ∧ w = w' := by
  go_enter Try.func9, Try.ntmps9
  go_wp2_with fail
  go_ret
  exact ⟨rfl, rfl⟩
set_option maxHeartbeats 1000000 in
set_option maxRecDepth 100000 in
theorem shape_27 (w : World) : Calls Try.prog 9 #[.int .u64 27] w fun e w' => e = .returned (.string ⟨#[63]⟩) ∧ w = w' := by
  go_enter Try.func9, Try.ntmps9
  go_wp2_with fail
  go_ret
  exact ⟨rfl, rfl⟩
set_option maxHeartbeats 1000000 in
set_option maxRecDepth 100000 in
theorem shape_28 (w : World) : Calls Try.prog 9 #[.int .u64 28] w fun e w' => e = .returned (.string ⟨#[99, 110, 116]⟩) ∧ w = w' := by
  go_enter Try.func9, Try.ntmps9
  go_wp2_with fail
  go_ret
  exact ⟨rfl, rfl⟩
set_option maxHeartbeats 1000000 in
set_option maxRecDepth 100000 in
theorem shape_29 (w : World) : Calls Try.prog 9 #[.int .u64 29] w fun e w' => e = .returned (.string ⟨#[99, 116]⟩) ∧ w = w' := by
  go_enter Try.func9, Try.ntmps9
  go_wp2_with fail
  go_ret
  exact ⟨rfl, rfl⟩
set_option maxHeartbeats 1000000 in
set_option maxRecDepth 100000 in
theorem shape_30 (w : World) : Calls Try.prog 9 #[.int .u64 30] w fun e w' => e = .returned (.string ⟨#[]⟩) ∧ w = w' := by
  go_enter Try.func9, Try.ntmps9
  go_wp2_with fail
  go_ret
  exact ⟨rfl, rfl⟩
set_option maxHeartbeats 1000000 in
set_option maxRecDepth 100000 in
theorem shape_48 (w : World) : Calls Try.prog 9 #[.int .u64 48] w fun e w' => e = .returned (.string ⟨#[116]⟩) ∧ w = w' := by
  go_enter Try.func9, Try.ntmps9
  go_wp2_with fail
  go_ret
  exact ⟨rfl, rfl⟩
set_option maxHeartbeats 1000000 in
set_option maxRecDepth 100000 in
theorem shape_no (k : Int) (w : World) (h : Other k) : Calls Try.prog 9 #[.int .u64 k] w fun e w' => e = .returned (.string ⟨#[45]⟩) ∧ w = w' := by
  have g0 : (k == 0) = false := by simpa using h.ne 0 (by decide)
  have g1 : (k == 1) = false := by simpa using h.ne 1 (by decide)
  have g2 : (k == 2) = false := by simpa using h.ne 2 (by decide)
  have g4 : (k == 4) = false := by simpa using h.ne 4 (by decide)
  have g5 : (k == 5) = false := by simpa using h.ne 5 (by decide)
  have g6 : (k == 6) = false := by simpa using h.ne 6 (by decide)
  have g7 : (k == 7) = false := by simpa using h.ne 7 (by decide)
  have g8 : (k == 8) = false := by simpa using h.ne 8 (by decide)
  have g16 : (k == 16) = false := by simpa using h.ne 16 (by decide)
  have g17 : (k == 17) = false := by simpa using h.ne 17 (by decide)
  have g18 : (k == 18) = false := by simpa using h.ne 18 (by decide)
  have g19 : (k == 19) = false := by simpa using h.ne 19 (by decide)
  have g20 : (k == 20) = false := by simpa using h.ne 20 (by decide)
  have g21 : (k == 21) = false := by simpa using h.ne 21 (by decide)
  have g22 : (k == 22) = false := by simpa using h.ne 22 (by decide)
  have g23 : (k == 23) = false := by simpa using h.ne 23 (by decide)
  have g24 : (k == 24) = false := by simpa using h.ne 24 (by decide)
  have g25 : (k == 25) = false := by simpa using h.ne 25 (by decide)
  have g26 : (k == 26) = false := by simpa using h.ne 26 (by decide)
  have g27 : (k == 27) = false := by simpa using h.ne 27 (by decide)
  have g28 : (k == 28) = false := by simpa using h.ne 28 (by decide)
  have g29 : (k == 29) = false := by simpa using h.ne 29 (by decide)
  have g30 : (k == 30) = false := by simpa using h.ne 30 (by decide)
  have g48 : (k == 48) = false := by simpa using h.ne 48 (by decide)
  clear h
  go_enter Try.func9, Try.ntmps9
  go_wp2_with fail
  go_ret
  exact ⟨rfl, rfl⟩
set_option maxHeartbeats 1000000 in
set_option maxRecDepth 100000 in
theorem known_0 (w : World) : Calls Try.prog 18 #[.int .u64 0] w fun e w' => e = .returned (.bool true) ∧ w = w' := by
  have hk : Calls Try.prog 27 #[.int .u64 0] w fun e w' => e = .returned (.tuple #[.int .u64 0, .int .u64 0, .bool true]) ∧ w = w' := by
    go_enter Try.func27, Try.ntmps27
    go_wp2_with fail
    go_ret3
    exact ⟨rfl, rfl⟩
  go_enter Try.func18, Try.ntmps18
  go_wp2_with fail
  refine hk.mono ?_
  rintro e w' ⟨rfl, rfl⟩
  go_wp2_with fail
  go_ret
  exact ⟨rfl, rfl⟩
set_option maxHeartbeats 1000000 in
set_option maxRecDepth 100000 in
theorem known_1 (w : World) : Calls Try.prog 18 #[.int .u64 1] w fun e w' => e = .returned (.bool true) ∧ w = w' := by
  have hk : Calls Try.prog 27 #[.int .u64 1] w fun e w' => e = .returned (.tuple #[.int .u64 1, .int .u64 0, .bool true]) ∧ w = w' := by
    go_enter Try.func27, Try.ntmps27
    go_wp2_with fail
    go_ret3
    exact ⟨rfl, rfl⟩
  go_enter Try.func18, Try.ntmps18
  go_wp2_with fail
  refine hk.mono ?_
  rintro e w' ⟨rfl, rfl⟩
  go_wp2_with fail
  go_ret
  exact ⟨rfl, rfl⟩
set_option maxHeartbeats 1000000 in
set_option maxRecDepth 100000 in
theorem known_2 (w : World) : Calls Try.prog 18 #[.int .u64 2] w fun e w' => e = .returned (.bool true) ∧ w = w' := by
  have hk : Calls Try.prog 27 #[.int .u64 2] w fun e w' => e = .returned (.tuple #[.int .u64 2, .int .u64 0, .bool true]) ∧ w = w' := by
    go_enter Try.func27, Try.ntmps27
    go_wp2_with fail
    go_ret3
    exact ⟨rfl, rfl⟩
  go_enter Try.func18, Try.ntmps18
  go_wp2_with fail
  refine hk.mono ?_
  rintro e w' ⟨rfl, rfl⟩
  go_wp2_with fail
  go_ret
  exact ⟨rfl, rfl⟩
set_option maxHeartbeats 1000000 in
set_option maxRecDepth 100000 in
theorem known_4 (w : World) : Calls Try.prog 18 #[.int .u64 4] w fun e w' => e = .returned (.bool true) ∧ w = w' := by
  have hk : Calls Try.prog 27 #[.int .u64 4] w fun e w' => e = .returned (.tuple #[.int .u64 4, .int .u64 0, .bool true]) ∧ w = w' := by
    go_enter Try.func27, Try.ntmps27
    go_wp2_with fail
    go_ret3
    exact ⟨rfl, rfl⟩
  go_enter Try.func18, Try.ntmps18
  go_wp2_with fail
  refine hk.mono ?_
  rintro e w' ⟨rfl, rfl⟩
  go_wp2_with fail
  go_ret
  exact ⟨rfl, rfl⟩
set_option maxHeartbeats 1000000 in
set_option maxRecDepth 100000 in
theorem known_5 (w : World) : Calls Try.prog 18 #[.int .u64 5] w fun e w' => e = .returned (.bool true) ∧ w = w' := by
  have hk : Calls Try.prog 27 #[.int .u64 5] w fun e w' => e = .returned (.tuple #[.int .u64 5, .int .u64 0, .bool true]) ∧ w = w' := by
    go_enter Try.func27, Try.ntmps27
    go_wp2_with fail
    go_ret3
    exact ⟨rfl, rfl⟩
  go_enter Try.func18, Try.ntmps18
  go_wp2_with fail
  refine hk.mono ?_
  rintro e w' ⟨rfl, rfl⟩
  go_wp2_with fail
  go_ret
  exact ⟨rfl, rfl⟩
set_option maxHeartbeats 1000000 in
set_option maxRecDepth 100000 in
theorem known_6 (w : World) : Calls Try.prog 18 #[.int .u64 6] w fun e w' => e = .returned (.bool true) ∧ w = w' := by
  have hk : Calls Try.prog 27 #[.int .u64 6] w fun e w' => e = .returned (.tuple #[.int .u64 6, .int .u64 0, .bool true]) ∧ w = w' := by
    go_enter Try.func27, Try.ntmps27
    go_wp2_with fail
    go_ret3
    exact ⟨rfl, rfl⟩
  go_enter Try.func18, Try.ntmps18
  go_wp2_with fail
  refine hk.mono ?_
  rintro e w' ⟨rfl, rfl⟩
  go_wp2_with fail
  go_ret
  exact ⟨rfl, rfl⟩
set_option maxHeartbeats 1000000 in
set_option maxRecDepth 100000 in
theorem known_7 (w : World) : Calls Try.prog 18 #[.int .u64 7] w fun e w' => e = .returned (.bool true) ∧ w = w' := by
  have hk : Calls Try.prog 27 #[.int .u64 7] w fun e w' => e = .returned (.tuple #[.int .u64 7, .int .u64 0, .bool true]) ∧ w = w' := by
    go_enter Try.func27, Try.ntmps27
    go_wp2_with fail
    go_ret3
    exact ⟨rfl, rfl⟩
  go_enter Try.func18, Try.ntmps18
  go_wp2_with fail
  refine hk.mono ?_
  rintro e w' ⟨rfl, rfl⟩
  go_wp2_with fail
  go_ret
  exact ⟨rfl, rfl⟩
set_option maxHeartbeats 1000000 in
set_option maxRecDepth 100000 in
theorem known_8 (w : World) : Calls Try.prog 18 #[.int .u64 8] w fun e w' => e = .returned (.bool true) ∧ w = w' := by
  have hk : Calls Try.prog 27 #[.int .u64 8] w fun e w' => e = .returned (.tuple #[.int .u64 8, .int .u64 0, .bool true]) ∧ w = w' := by
    go_enter Try.func27, Try.ntmps27
    go_wp2_with fail
    go_ret3
    exact ⟨rfl, rfl⟩
  go_enter Try.func18, Try.ntmps18
  go_wp2_with fail
  refine hk.mono ?_
  rintro e w' ⟨rfl, rfl⟩
  go_wp2_with fail
  go_ret
  exact ⟨rfl, rfl⟩
set_option maxHeartbeats 1000000 in
set_option maxRecDepth 100000 in
theorem known_16 (w : World) : Calls Try.prog 18 #[.int .u64 16] w fun e w' => e = .returned (.bool true) ∧ w = w' := by
  have hk : Calls Try.prog 27 #[.int .u64 16] w fun e w' => e = .returned (.tuple #[.int .u64 16, .int .u64 0, .bool true]) ∧ w = w' := by
    go_enter Try.func27, Try.ntmps27
    go_wp2_with fail
    go_ret3
    exact ⟨rfl, rfl⟩
  go_enter Try.func18, Try.ntmps18
  go_wp2_with fail
  refine hk.mono ?_
  rintro e w' ⟨rfl, rfl⟩
  go_wp2_with fail
  go_ret
  exact ⟨rfl, rfl⟩
set_option maxHeartbeats 1000000 in
set_option maxRecDepth 100000 in
theorem known_17 (w : World) : Calls Try.prog 18 #[.int .u64 17] w fun e w' => e = .returned (.bool true) ∧ w = w' := by
  have hk : Calls Try.prog 27 #[.int .u64 17] w fun e w' => e = .returned (.tuple #[.int .u64 17, .int .u64 0, .bool true]) ∧ w = w' := by
    go_enter Try.func27, Try.ntmps27
    go_wp2_with fail
    go_ret3
    exact ⟨rfl, rfl⟩
  go_enter Try.func18, Try.ntmps18
  go_wp2_with fail
  refine hk.mono ?_
  rintro e w' ⟨rfl, rfl⟩
  go_wp2_with fail
  go_ret
  exact ⟨rfl, rfl⟩
set_option maxHeartbeats 1000000 in
set_option maxRecDepth 100000 in
theorem known_18 (w : World) : Calls Try.prog 18 #[.int .u64 18] w fun e w' => e = .returned (.bool true) ∧ w = w' := by
  have hk : Calls Try.prog 27 #[.int .u64 18] w fun e w' => e = .returned (.tuple #[.int .u64 18, .int .u64 0, .bool true]) ∧ w = w' := by
    go_enter Try.func27, Try.ntmps27
    go_wp2_with fail
    go_ret3
    exact ⟨rfl, rfl⟩
  go_enter Try.func18, Try.ntmps18
  go_wp2_with fail
  refine hk.mono ?_
  rintro e w' ⟨rfl, rfl⟩
  go_wp2_with fail
  go_ret
  exact ⟨rfl, rfl⟩
set_option maxHeartbeats 1000000 in
set_option maxRecDepth 100000 in
theorem known_19 (w : World) : Calls Try.prog 18 #[.int .u64 19] w fun e w' => e = .returned (.bool true) ∧ w = w' := by
  have hk : Calls Try.prog 27 #[.int .u64 19] w fun e w' => e = .returned (.tuple #[.int .u64 19, .int .u64 0, .bool true]) ∧ w = w' := by
    go_enter Try.func27, Try.ntmps27
    go_wp2_with fail
    go_ret3
    exact ⟨rfl, rfl⟩
  go_enter Try.func18, Try.ntmps18
  go_wp2_with fail
  refine hk.mono ?_
  rintro e w' ⟨rfl, rfl⟩
  go_wp2_with fail
  go_ret
  exact ⟨rfl, rfl⟩
set_option maxHeartbeats 1000000 in
set_option maxRecDepth 100000 in
theorem known_20 (w : World) : Calls Try.prog 18 #[.int .u64 20] w fun e w' => e = .returned (.bool true) ∧ w = w' := by
  have hk : Calls Try.prog 27 #[.int .u64 20] w fun e w' => e = .returned (.tuple #[.int .u64 20, .int .u64 0, .bool true]) ∧ w = w' := by
    go_enter Try.func27, Try.ntmps27
    go_wp2_with fail
    go_ret3
    exact ⟨rfl, rfl⟩
  go_enter Try.func18, Try.ntmps18
  go_wp2_with fail
  refine hk.mono ?_
  rintro e w' ⟨rfl, rfl⟩
  go_wp2_with fail
  go_ret
  exact ⟨rfl, rfl⟩
set_option maxHeartbeats 1000000 in
set_option maxRecDepth 100000 in
theorem known_21 (w : World) : Calls Try.prog 18 #[.int .u64 21] w fun e w' => e = .returned (.bool true) ∧ w = w' := by
  have hk : Calls Try.prog 27 #[.int .u64 21] w fun e w' => e = .returned (.tuple #[.int .u64 21, .int .u64 0, .bool true]) ∧ w = w' := by
    go_enter Try.func27, Try.ntmps27
    go_wp2_with fail
    go_ret3
    exact ⟨rfl, rfl⟩
  go_enter Try.func18, Try.ntmps18
  go_wp2_with fail
  refine hk.mono ?_
  rintro e w' ⟨rfl, rfl⟩
  go_wp2_with fail
  go_ret
  exact ⟨rfl, rfl⟩
set_option maxHeartbeats 1000000 in
set_option maxRecDepth 100000 in
theorem known_22 (w : World) : Calls Try.prog 18 #[.int .u64 22] w fun e w' => e = .returned (.bool true) ∧ w = w' := by
  have hk : Calls Try.prog 27 #[.int .u64 22] w fun e w' => e = .returned (.tuple #[.int .u64 22, .int .u64 0, .bool true]) ∧ w = w' := by
    go_enter Try.func27, Try.ntmps27
    go_wp2_with fail
    go_ret3
    exact ⟨rfl, rfl⟩
  go_enter Try.func18, Try.ntmps18
  go_wp2_with fail
  refine hk.mono ?_
  rintro e w' ⟨rfl, rfl⟩
  go_wp2_with fail
  go_ret
  exact ⟨rfl, rfl⟩
set_option maxHeartbeats 1000000 in
set_option maxRecDepth 100000 in
theorem known_23 (w : World) : Calls Try.prog 18 #[.int .u64 23] w fun e w' => e = .returned (.bool true) ∧ w = w' := by
  have hk : Calls Try.prog 27 #[.int .u64 23] w fun e w' => e = .returned (.tuple #[.int .u64 23, .int .u64 0, .bool true]) ∧ w = w' := by
    go_enter Try.func27, Try.ntmps27
    go_wp2_with fail
    go_ret3
    exact ⟨rfl, rfl⟩
  go_enter Try.func18, Try.ntmps18
  go_wp2_with fail
  refine hk.mono ?_
  rintro e w' ⟨rfl, rfl⟩
  go_wp2_with fail
  go_ret
  exact ⟨rfl, rfl⟩
set_option maxHeartbeats 1000000 in
set_option maxRecDepth 100000 in
theorem known_24 (w : World) : Calls Try.prog 18 #[.int .u64 24] w fun e w' => e = .returned (.bool true) ∧ w = w' := by
  have hk : Calls Try.prog 27 #[.int .u64 24] w fun e w' => e = .returned (.tuple #[.int .u64 24, .int .u64 0, .bool true]) ∧ w = w' := by
    go_enter Try.func27, Try.ntmps27
    go_wp2_with fail
    go_ret3
    exact ⟨rfl, rfl⟩
  go_enter Try.func18, Try.ntmps18
  go_wp2_with fail
  refine hk.mono ?_
  rintro e w' ⟨rfl, rfl⟩
  go_wp2_with fail
  go_ret
  exact ⟨rfl, rfl⟩
set_option maxHeartbeats 1000000 in
set_option maxRecDepth 100000 in
theorem known_25 (w : World) : Calls Try.prog 18 #[.int .u64 25] w fun e w' => e = .returned (.bool true) ∧ w = w' := by
  have hk : Calls Try.prog 27 #[.int .u64 25] w fun e w' => e = .returned (.tuple #[.int .u64 25, .int .u64 0, .bool true]) ∧ w = w' := by
    go_enter Try.func27, Try.ntmps27
    go_wp2_with fail
    go_ret3
    exact ⟨rfl, rfl⟩
  go_enter Try.func18, Try.ntmps18
  go_wp2_with fail
  refine hk.mono ?_
  rintro e w' ⟨rfl, rfl⟩
  go_wp2_with fail
  go_ret
  exact ⟨rfl, rfl⟩
set_option maxHeartbeats 1000000 in
set_option maxRecDepth 100000 in
theorem known_26 (w : World) : Calls Try.prog 18 #[.int .u64 26] w fun e w' => e = .returned (.bool true) ∧ w = w' := by
  have hk : Calls Try.prog 27 #[.int .u64 26] w fun e w' => e = .returned (.tuple #[.int .u64 26, .int .u64 0, .bool true]) ∧ w = w' := by
    go_enter Try.func27, Try.ntmps27
    go_wp2_with fail
    go_ret3
    exact ⟨rfl, rfl⟩
  go_enter Try.func18, Try.ntmps18
  go_wp2_with fail
  refine hk.mono ?_
  rintro e w' ⟨rfl, rfl⟩
  go_wp2_with fail
  go_ret
  exact ⟨rfl, rfl⟩
set_option maxHeartbeats 1000000 in
set_option maxRecDepth 100000 in
theorem known_27 (w : World) : Calls Try.prog 18 #[.int .u64 27] w fun e w' => e = .returned (.bool true) ∧ w = w' := by
  have hk : Calls Try.prog 27 #[.int .u64 27] w fun e w' => e = .returned (.tuple #[.int .u64 27, .int .u64 0, .bool true]) ∧ w = w' := by
    go_enter Try.func27, Try.ntmps27
    go_wp2_with fail
    go_ret3
    exact ⟨rfl, rfl⟩
  go_enter Try.func18, Try.ntmps18
  go_wp2_with fail
  refine hk.mono ?_
  rintro e w' ⟨rfl, rfl⟩
  go_wp2_with fail
  go_ret
  exact ⟨rfl, rfl⟩
set_option maxHeartbeats 1000000 in
set_option maxRecDepth 100000 in
theorem known_28 (w : World) : Calls Try.prog 18 #[.int .u64 28] w fun e w' => e = .returned (.bool true) ∧ w = w' := by
  have hk : Calls Try.prog 27 #[.int .u64 28] w fun e w' => e = .returned (.tuple #[.int .u64 28, .int .u64 0, .bool true]) ∧ w = w' := by
    go_enter Try.func27, Try.ntmps27
    go_wp2_with fail
    go_ret3
    exact ⟨rfl, rfl⟩
  go_enter Try.func18, Try.ntmps18
  go_wp2_with fail
  refine hk.mono ?_
  rintro e w' ⟨rfl, rfl⟩
  go_wp2_with fail
  go_ret
  exact ⟨rfl, rfl⟩
set_option maxHeartbeats 1000000 in
set_option maxRecDepth 100000 in
theorem known_29 (w : World) : Calls Try.prog 18 #[.int .u64 29] w fun e w' => e = .returned (.bool true) ∧ w = w' := by
  have hk : Calls Try.prog 27 #[.int .u64 29] w fun e w' => e = .returned (.tuple #[.int .u64 29, .int .u64 0, .bool true]) ∧ w = w' := by
    go_enter Try.func27, Try.ntmps27
    go_wp2_with fail
    go_ret3
    exact ⟨rfl, rfl⟩
  go_enter Try.func18, Try.ntmps18
  go_wp2_with fail
  refine hk.mono ?_
  rintro e w' ⟨rfl, rfl⟩
  go_wp2_with fail
  go_ret
  exact ⟨rfl, rfl⟩
set_option maxHeartbeats 1000000 in
set_option maxRecDepth 100000 in
theorem known_30 (w : World) : Calls Try.prog 18 #[.int .u64 30] w fun e w' => e = .returned (.bool true) ∧ w = w' := by
  have hk : Calls Try.prog 27 #[.int .u64 30] w fun e w' => e = .returned (.tuple #[.int .u64 30, .int .u64 0, .bool true]) ∧ w = w' := by
    go_enter Try.func27, Try.ntmps27
    go_wp2_with fail
    go_ret3
    exact ⟨rfl, rfl⟩
  go_enter Try.func18, Try.ntmps18
  go_wp2_with fail
  refine hk.mono ?_
  rintro e w' ⟨rfl, rfl⟩
  go_wp2_with fail
  go_ret
  exact ⟨rfl, rfl⟩
set_option maxHeartbeats 1000000 in
set_option maxRecDepth 100000 in
theorem known_48 (w : World) : Calls Try.prog 18 #[.int .u64 48] w fun e w' => e = .returned (.bool true) ∧ w = w' := by
  have hk : Calls Try.prog 27 #[.int .u64 48] w fun e w' => e = .returned (.tuple #[.int .u64 48, .int .u64 0, .bool true]) ∧ w = w' := by
    go_enter Try.func27, Try.ntmps27
    go_wp2_with fail
    go_ret3
    exact ⟨rfl, rfl⟩
  go_enter Try.func18, Try.ntmps18
  go_wp2_with fail
  refine hk.mono ?_
  rintro e w' ⟨rfl, rfl⟩
  go_wp2_with fail
  go_ret
  exact ⟨rfl, rfl⟩
set_option maxHeartbeats 1000000 in
set_option maxRecDepth 100000 in
theorem kind_s (k : Int) (w : World) (h : 9 ≤ k ∧ k ≤ 15) : Calls Try.prog 27 #[.int .u64 k] w fun e w' => e = .returned (.tuple #[.int .u64 8, .int .u64 (k - 8), .bool true]) ∧ w = w' := by
  have a1 : decide (8 ≤ k) = true := by simp; omega
  have a2 : decide (k ≤ 15) = true := by simp; omega
  have a3 : IntKind.u64.wrap (k - 8) = k - 8 := by obtain ⟨h1, h2⟩ := h; simp [IntKind.wrap, IntKind.bits, IntKind.signed]; omega
  clear h
  go_enter Try.func27, Try.ntmps27
  go_wp2_with fail
  go_ret3
  exact ⟨rfl, rfl⟩
set_option maxHeartbeats 1000000 in
set_option maxRecDepth 100000 in
theorem kind_49 (w : World)  : Calls Try.prog 27 #[.int .u64 49] w fun e w' => e = .returned (.tuple #[.int .u64 48, .int .u64 1, .bool true]) ∧ w = w' := by
  go_enter Try.func27, Try.ntmps27
  go_wp2_with fail
  go_ret3
  exact ⟨rfl, rfl⟩
set_option maxHeartbeats 1000000 in
set_option maxRecDepth 100000 in
theorem kind_no (k : Int) (w : World) (h : k = 3 ∨ 30 < k ∧ k ≠ 48 ∧ k ≠ 49) : Calls Try.prog 27 #[.int .u64 k] w fun e w' => e = .returned (.tuple #[.int .u64 0, .int .u64 0, .bool false]) ∧ w = w' := by
  by_cases h3 : k = 3
  · subst h3
    go_enter Try.func27, Try.ntmps27
    go_wp2_with fail
    go_ret3
    exact ⟨rfl, rfl⟩
  have h4 : 30 < k ∧ k ≠ 48 ∧ k ≠ 49 := by omega
  have a1 : decide (8 ≤ k) = true := by simp; omega
  have a2 : decide (k ≤ 15) = false := by simp; omega
  have a3 : (k == 48) = false := by simp; omega
  have a4 : (k == 49) = false := by simp; omega
  have a5 : (k == 3) = false := by simp; omega
  have a6 : decide (30 < k) = true := by simp; omega
  clear h h3 h4
  go_enter Try.func27, Try.ntmps27
  go_wp2_with fail
  go_ret3
  exact ⟨rfl, rfl⟩
set_option maxHeartbeats 1000000 in
set_option maxRecDepth 100000 in
theorem known_no (k : Int) (w : World) (h : Other k) : Calls Try.prog 18 #[.int .u64 k] w fun e w' => e = .returned (.bool false) ∧ w = w' := by
  unfold Other at h
  have hc : (9 ≤ k ∧ k ≤ 15) ∨ k = 49 ∨ (k = 3 ∨ 30 < k ∧ k ≠ 48 ∧ k ≠ 49) := by omega
  clear h
  rcases hc with h | rfl | h
  · have a1 : ((8 : Int) == k) = false := by simp; omega
    go_enter Try.func18, Try.ntmps18
    go_wp2_with fail
    refine (kind_s k _ h).mono ?_
    rintro e w' ⟨rfl, rfl⟩
    go_wp2_with fail
    go_ret
    exact ⟨rfl, rfl⟩
  · go_enter Try.func18, Try.ntmps18
    go_wp2_with fail
    refine (kind_49 _).mono ?_
    rintro e w' ⟨rfl, rfl⟩
    go_wp2_with fail
    go_ret
    exact ⟨rfl, rfl⟩
  · go_enter Try.func18, Try.ntmps18
    go_wp2_with fail
    refine (kind_no k _ h).mono ?_
    rintro e w' ⟨rfl, rfl⟩
    go_wp2_with fail
    go_ret
    exact ⟨rfl, rfl⟩
set_option maxHeartbeats 1000000 in
set_option maxRecDepth 100000 in
theorem cont_0 (g : Nat) (w : World) (hg : Blk w g 22 #[.int .u64 0, .int .u64 1, .int .u64 2, .int .u64 6, .int .u64 28])  : Calls Try.prog 19 #[.slice (some ⟨g, 0, none⟩) 5 5, .int .u64 0] w fun e w' => e = .returned (.bool true) ∧ w = w' := by
  have c0 : w.cell? ⟨g, 0, none⟩ = some (.int .u64 0) := hg.cell 0
  have c1 : w.cell? ⟨g, 1, none⟩ = some (.int .u64 1) := hg.cell 1
  have c2 : w.cell? ⟨g, 2, none⟩ = some (.int .u64 2) := hg.cell 2
  have c3 : w.cell? ⟨g, 3, none⟩ = some (.int .u64 6) := hg.cell 3
  have c4 : w.cell? ⟨g, 4, none⟩ = some (.int .u64 28) := hg.cell 4
  have hi : Calls Try.prog 28 #[.slice (some ⟨g, 0, none⟩) 5 5, .int .u64 0] w fun e w' => e = .returned (.int .i64 0) ∧ w = w' := by
    go_enter Try.func28, Try.ntmps28
    go_wp2_with fail
    refine wp_loop_rounds 6 ?_
    rw [rounds_succ]
    go_wp2_with fail
    go_ret
    exact ⟨rfl, rfl⟩
  clear c0 c1 c2 c3 c4
  go_enter Try.func19, Try.ntmps19
  go_wp2_with fail
  refine hi.mono ?_
  rintro e w' ⟨rfl, rfl⟩
  go_wp2_with fail
  go_ret
  exact ⟨rfl, rfl⟩
set_option maxHeartbeats 1000000 in
set_option maxRecDepth 100000 in
theorem cont_1 (g : Nat) (w : World) (hg : Blk w g 22 #[.int .u64 0, .int .u64 1, .int .u64 2, .int .u64 6, .int .u64 28])  : Calls Try.prog 19 #[.slice (some ⟨g, 0, none⟩) 5 5, .int .u64 1] w fun e w' => e = .returned (.bool true) ∧ w = w' := by
  have c0 : w.cell? ⟨g, 0, none⟩ = some (.int .u64 0) := hg.cell 0
  have c1 : w.cell? ⟨g, 1, none⟩ = some (.int .u64 1) := hg.cell 1
  have c2 : w.cell? ⟨g, 2, none⟩ = some (.int .u64 2) := hg.cell 2
  have c3 : w.cell? ⟨g, 3, none⟩ = some (.int .u64 6) := hg.cell 3
  have c4 : w.cell? ⟨g, 4, none⟩ = some (.int .u64 28) := hg.cell 4
  have hi : Calls Try.prog 28 #[.slice (some ⟨g, 0, none⟩) 5 5, .int .u64 1] w fun e w' => e = .returned (.int .i64 1) ∧ w = w' := by
    go_enter Try.func28, Try.ntmps28
    go_wp2_with fail
    refine wp_loop_rounds 6 ?_
    rw [rounds_succ]
    go_wp2_with fail
    rw [rounds_succ]
    go_wp2_with fail
    go_ret
    exact ⟨rfl, rfl⟩
  clear c0 c1 c2 c3 c4
  go_enter Try.func19, Try.ntmps19
  go_wp2_with fail
  refine hi.mono ?_
  rintro e w' ⟨rfl, rfl⟩
  go_wp2_with fail
  go_ret
  exact ⟨rfl, rfl⟩
set_option maxHeartbeats 1000000 in
set_option maxRecDepth 100000 in
theorem cont_2 (g : Nat) (w : World) (hg : Blk w g 22 #[.int .u64 0, .int .u64 1, .int .u64 2, .int .u64 6, .int .u64 28])  : Calls Try.prog 19 #[.slice (some ⟨g, 0, none⟩) 5 5, .int .u64 2] w fun e w' => e = .returned (.bool true) ∧ w = w' := by
  have c0 : w.cell? ⟨g, 0, none⟩ = some (.int .u64 0) := hg.cell 0
  have c1 : w.cell? ⟨g, 1, none⟩ = some (.int .u64 1) := hg.cell 1
  have c2 : w.cell? ⟨g, 2, none⟩ = some (.int .u64 2) := hg.cell 2
  have c3 : w.cell? ⟨g, 3, none⟩ = some (.int .u64 6) := hg.cell 3
  have c4 : w.cell? ⟨g, 4, none⟩ = some (.int .u64 28) := hg.cell 4
  have hi : Calls Try.prog 28 #[.slice (some ⟨g, 0, none⟩) 5 5, .int .u64 2] w fun e w' => e = .returned (.int .i64 2) ∧ w = w' := by
    go_enter Try.func28, Try.ntmps28
    go_wp2_with fail
    refine wp_loop_rounds 6 ?_
    rw [rounds_succ]
    go_wp2_with fail
    rw [rounds_succ]
    go_wp2_with fail
    rw [rounds_succ]
    go_wp2_with fail
    go_ret
    exact ⟨rfl, rfl⟩
  clear c0 c1 c2 c3 c4
  go_enter Try.func19, Try.ntmps19
  go_wp2_with fail
  refine hi.mono ?_
  rintro e w' ⟨rfl, rfl⟩
  go_wp2_with fail
  go_ret
  exact ⟨rfl, rfl⟩
set_option maxHeartbeats 1000000 in
set_option maxRecDepth 100000 in
theorem cont_6 (g : Nat) (w : World) (hg : Blk w g 22 #[.int .u64 0, .int .u64 1, .int .u64 2, .int .u64 6, .int .u64 28])  : Calls Try.prog 19 #[.slice (some ⟨g, 0, none⟩) 5 5, .int .u64 6] w fun e w' => e = .returned (.bool true) ∧ w = w' := by
  have c0 : w.cell? ⟨g, 0, none⟩ = some (.int .u64 0) := hg.cell 0
  have c1 : w.cell? ⟨g, 1, none⟩ = some (.int .u64 1) := hg.cell 1
  have c2 : w.cell? ⟨g, 2, none⟩ = some (.int .u64 2) := hg.cell 2
  have c3 : w.cell? ⟨g, 3, none⟩ = some (.int .u64 6) := hg.cell 3
  have c4 : w.cell? ⟨g, 4, none⟩ = some (.int .u64 28) := hg.cell 4
  have hi : Calls Try.prog 28 #[.slice (some ⟨g, 0, none⟩) 5 5, .int .u64 6] w fun e w' => e = .returned (.int .i64 3) ∧ w = w' := by
    go_enter Try.func28, Try.ntmps28
    go_wp2_with fail
    refine wp_loop_rounds 6 ?_
    rw [rounds_succ]
    go_wp2_with fail
    rw [rounds_succ]
    go_wp2_with fail
    rw [rounds_succ]
    go_wp2_with fail
    rw [rounds_succ]
    go_wp2_with fail
    go_ret
    exact ⟨rfl, rfl⟩
  clear c0 c1 c2 c3 c4
  go_enter Try.func19, Try.ntmps19
  go_wp2_with fail
  refine hi.mono ?_
  rintro e w' ⟨rfl, rfl⟩
  go_wp2_with fail
  go_ret
  exact ⟨rfl, rfl⟩
set_option maxHeartbeats 1000000 in
set_option maxRecDepth 100000 in
theorem cont_28 (g : Nat) (w : World) (hg : Blk w g 22 #[.int .u64 0, .int .u64 1, .int .u64 2, .int .u64 6, .int .u64 28])  : Calls Try.prog 19 #[.slice (some ⟨g, 0, none⟩) 5 5, .int .u64 28] w fun e w' => e = .returned (.bool true) ∧ w = w' := by
  have c0 : w.cell? ⟨g, 0, none⟩ = some (.int .u64 0) := hg.cell 0
  have c1 : w.cell? ⟨g, 1, none⟩ = some (.int .u64 1) := hg.cell 1
  have c2 : w.cell? ⟨g, 2, none⟩ = some (.int .u64 2) := hg.cell 2
  have c3 : w.cell? ⟨g, 3, none⟩ = some (.int .u64 6) := hg.cell 3
  have c4 : w.cell? ⟨g, 4, none⟩ = some (.int .u64 28) := hg.cell 4
  have hi : Calls Try.prog 28 #[.slice (some ⟨g, 0, none⟩) 5 5, .int .u64 28] w fun e w' => e = .returned (.int .i64 4) ∧ w = w' := by
    go_enter Try.func28, Try.ntmps28
    go_wp2_with fail
    refine wp_loop_rounds 6 ?_
    rw [rounds_succ]
    go_wp2_with fail
    rw [rounds_succ]
    go_wp2_with fail
    rw [rounds_succ]
    go_wp2_with fail
    rw [rounds_succ]
    go_wp2_with fail
    rw [rounds_succ]
    go_wp2_with fail
    go_ret
    exact ⟨rfl, rfl⟩
  clear c0 c1 c2 c3 c4
  go_enter Try.func19, Try.ntmps19
  go_wp2_with fail
  refine hi.mono ?_
  rintro e w' ⟨rfl, rfl⟩
  go_wp2_with fail
  go_ret
  exact ⟨rfl, rfl⟩
set_option maxHeartbeats 1000000 in
set_option maxRecDepth 100000 in
theorem cont_no (k : Int) (g : Nat) (w : World) (hg : Blk w g 22 #[.int .u64 0, .int .u64 1, .int .u64 2, .int .u64 6, .int .u64 28]) (h : k ≠ 0 ∧ k ≠ 1 ∧ k ≠ 2 ∧ k ≠ 6 ∧ k ≠ 28) : Calls Try.prog 19 #[.slice (some ⟨g, 0, none⟩) 5 5, .int .u64 k] w fun e w' => e = .returned (.bool false) ∧ w = w' := by
  have c0 : w.cell? ⟨g, 0, none⟩ = some (.int .u64 0) := hg.cell 0
  have c1 : w.cell? ⟨g, 1, none⟩ = some (.int .u64 1) := hg.cell 1
  have c2 : w.cell? ⟨g, 2, none⟩ = some (.int .u64 2) := hg.cell 2
  have c3 : w.cell? ⟨g, 3, none⟩ = some (.int .u64 6) := hg.cell 3
  have c4 : w.cell? ⟨g, 4, none⟩ = some (.int .u64 28) := hg.cell 4
  have g0 : (k == 0) = false := by simp; omega
  have g1 : (k == 1) = false := by simp; omega
  have g2 : (k == 2) = false := by simp; omega
  have g6 : (k == 6) = false := by simp; omega
  have g28 : (k == 28) = false := by simp; omega
  clear h
  have hi : Calls Try.prog 28 #[.slice (some ⟨g, 0, none⟩) 5 5, .int .u64 k] w fun e w' => e = .returned (.int .i64 (-1)) ∧ w = w' := by
    go_enter Try.func28, Try.ntmps28
    go_wp2_with fail
    refine wp_loop_rounds 6 ?_
    rw [rounds_succ]
    go_wp2_with fail
    rw [rounds_succ]
    go_wp2_with fail
    rw [rounds_succ]
    go_wp2_with fail
    rw [rounds_succ]
    go_wp2_with fail
    rw [rounds_succ]
    go_wp2_with fail
    rw [rounds_succ]
    go_wp2_with fail
    go_ret
    exact ⟨rfl, rfl⟩
  clear c0 c1 c2 c3 c4
  go_enter Try.func19, Try.ntmps19
  go_wp2_with fail
  refine hi.mono ?_
  rintro e w' ⟨rfl, rfl⟩
  go_wp2_with fail
  go_ret
  exact ⟨rfl, rfl⟩
set_option maxHeartbeats 1000000 in
set_option maxRecDepth 100000 in
theorem asks_0 (w : World) : Calls Try.prog 10 #[.int .u64 0] w fun e w' => e = .returned (.bool false) ∧ w = w' := by
  go_enter Try.func10, Try.ntmps10
  go_wp2_with fail
  refine (known_0 _).mono ?_
  rintro e w' ⟨rfl, rfl⟩
  go_wp2_with fail
  go_ret
  exact ⟨rfl, rfl⟩
set_option maxHeartbeats 1000000 in
set_option maxRecDepth 100000 in
theorem asks_1 (w : World) : Calls Try.prog 10 #[.int .u64 1] w fun e w' => e = .returned (.bool true) ∧ w = w' := by
  go_enter Try.func10, Try.ntmps10
  go_wp2_with fail
  refine (known_1 _).mono ?_
  rintro e w' ⟨rfl, rfl⟩
  go_wp2_with fail
  go_ret
  exact ⟨rfl, rfl⟩
set_option maxHeartbeats 1000000 in
set_option maxRecDepth 100000 in
theorem asks_2 (w : World) : Calls Try.prog 10 #[.int .u64 2] w fun e w' => e = .returned (.bool false) ∧ w = w' := by
  go_enter Try.func10, Try.ntmps10
  go_wp2_with fail
  refine (known_2 _).mono ?_
  rintro e w' ⟨rfl, rfl⟩
  go_wp2_with fail
  go_ret
  exact ⟨rfl, rfl⟩
set_option maxHeartbeats 1000000 in
set_option maxRecDepth 100000 in
theorem asks_4 (w : World) : Calls Try.prog 10 #[.int .u64 4] w fun e w' => e = .returned (.bool true) ∧ w = w' := by
  go_enter Try.func10, Try.ntmps10
  go_wp2_with fail
  refine (known_4 _).mono ?_
  rintro e w' ⟨rfl, rfl⟩
  go_wp2_with fail
  go_ret
  exact ⟨rfl, rfl⟩
set_option maxHeartbeats 1000000 in
set_option maxRecDepth 100000 in
theorem asks_5 (w : World) : Calls Try.prog 10 #[.int .u64 5] w fun e w' => e = .returned (.bool true) ∧ w = w' := by
  go_enter Try.func10, Try.ntmps10
  go_wp2_with fail
  refine (known_5 _).mono ?_
  rintro e w' ⟨rfl, rfl⟩
  go_wp2_with fail
  go_ret
  exact ⟨rfl, rfl⟩
set_option maxHeartbeats 1000000 in
set_option maxRecDepth 100000 in
theorem asks_6 (w : World) : Calls Try.prog 10 #[.int .u64 6] w fun e w' => e = .returned (.bool true) ∧ w = w' := by
  go_enter Try.func10, Try.ntmps10
  go_wp2_with fail
  refine (known_6 _).mono ?_
  rintro e w' ⟨rfl, rfl⟩
  go_wp2_with fail
  go_ret
  exact ⟨rfl, rfl⟩
set_option maxHeartbeats 1000000 in
set_option maxRecDepth 100000 in
theorem asks_7 (w : World) : Calls Try.prog 10 #[.int .u64 7] w fun e w' => e = .returned (.bool true) ∧ w = w' := by
  go_enter Try.func10, Try.ntmps10
  go_wp2_with fail
  refine (known_7 _).mono ?_
  rintro e w' ⟨rfl, rfl⟩
  go_wp2_with fail
  go_ret
  exact ⟨rfl, rfl⟩
set_option maxHeartbeats 1000000 in
set_option maxRecDepth 100000 in
theorem asks_8 (w : World) : Calls Try.prog 10 #[.int .u64 8] w fun e w' => e = .returned (.bool true) ∧ w = w' := by
  go_enter Try.func10, Try.ntmps10
  go_wp2_with fail
  refine (known_8 _).mono ?_
  rintro e w' ⟨rfl, rfl⟩
  go_wp2_with fail
  go_ret
  exact ⟨rfl, rfl⟩
set_option maxHeartbeats 1000000 in
set_option maxRecDepth 100000 in
theorem asks_16 (w : World) : Calls Try.prog 10 #[.int .u64 16] w fun e w' => e = .returned (.bool true) ∧ w = w' := by
  go_enter Try.func10, Try.ntmps10
  go_wp2_with fail
  refine (known_16 _).mono ?_
  rintro e w' ⟨rfl, rfl⟩
  go_wp2_with fail
  go_ret
  exact ⟨rfl, rfl⟩
set_option maxHeartbeats 1000000 in
set_option maxRecDepth 100000 in
theorem asks_17 (w : World) : Calls Try.prog 10 #[.int .u64 17] w fun e w' => e = .returned (.bool true) ∧ w = w' := by
  go_enter Try.func10, Try.ntmps10
  go_wp2_with fail
  refine (known_17 _).mono ?_
  rintro e w' ⟨rfl, rfl⟩
  go_wp2_with fail
  go_ret
  exact ⟨rfl, rfl⟩
set_option maxHeartbeats 1000000 in
set_option maxRecDepth 100000 in
theorem asks_18 (w : World) : Calls Try.prog 10 #[.int .u64 18] w fun e w' => e = .returned (.bool true) ∧ w = w' := by
  go_enter Try.func10, Try.ntmps10
  go_wp2_with fail
  refine (known_18 _).mono ?_
  rintro e w' ⟨rfl, rfl⟩
  go_wp2_with fail
  go_ret
  exact ⟨rfl, rfl⟩
set_option maxHeartbeats 1000000 in
set_option maxRecDepth 100000 in
theorem asks_19 (w : World) : Calls Try.prog 10 #[.int .u64 19] w fun e w' => e = .returned (.bool true) ∧ w = w' := by
  go_enter Try.func10, Try.ntmps10
  go_wp2_with fail
  refine (known_19 _).mono ?_
  rintro e w' ⟨rfl, rfl⟩
  go_wp2_with fail
  go_ret
  exact ⟨rfl, rfl⟩
set_option maxHeartbeats 1000000 in
set_option maxRecDepth 100000 in
theorem asks_20 (w : World) : Calls Try.prog 10 #[.int .u64 20] w fun e w' => e = .returned (.bool true) ∧ w = w' := by
  go_enter Try.func10, Try.ntmps10
  go_wp2_with fail
  refine (known_20 _).mono ?_
  rintro e w' ⟨rfl, rfl⟩
  go_wp2_with fail
  go_ret
  exact ⟨rfl, rfl⟩
set_option maxHeartbeats 1000000 in
set_option maxRecDepth 100000 in
theorem asks_21 (w : World) : Calls Try.prog 10 #[.int .u64 21] w fun e w' => e = .returned (.bool true) ∧ w = w' := by
  go_enter Try.func10, Try.ntmps10
  go_wp2_with fail
  refine (known_21 _).mono ?_
  rintro e w' ⟨rfl, rfl⟩
  go_wp2_with fail
  go_ret
  exact ⟨rfl, rfl⟩
set_option maxHeartbeats 1000000 in
set_option maxRecDepth 100000 in
theorem asks_22 (w : World) : Calls Try.prog 10 #[.int .u64 22] w fun e w' => e = .returned (.bool true) ∧ w = w' := by
  go_enter Try.func10, Try.ntmps10
  go_wp2_with fail
  refine (known_22 _).mono ?_
  rintro e w' ⟨rfl, rfl⟩
  go_wp2_with fail
  go_ret
  exact ⟨rfl, rfl⟩
set_option maxHeartbeats 1000000 in
set_option maxRecDepth 100000 in
theorem asks_23 (w : World) : Calls Try.prog 10 #[.int .u64 23] w fun e w' => e = .returned (.bool true) ∧ w = w' := by
  go_enter Try.func10, Try.ntmps10
  go_wp2_with fail
  refine (known_23 _).mono ?_
  rintro e w' ⟨rfl, rfl⟩
  go_wp2_with fail
  go_ret
  exact ⟨rfl, rfl⟩
set_option maxHeartbeats 1000000 in
set_option maxRecDepth 100000 in
theorem asks_24 (w : World) : Calls Try.prog 10 #[.int .u64 24] w fun e w' => e = .returned (.bool true) ∧ w = w' := by
  go_enter Try.func10, Try.ntmps10
  go_wp2_with fail
  refine (known_24 _).mono ?_
  rintro e w' ⟨rfl, rfl⟩
  go_wp2_with fail
  go_ret
  exact ⟨rfl, rfl⟩
set_option maxHeartbeats 1000000 in
set_option maxRecDepth 100000 in
theorem asks_25 (w : World) : Calls Try.prog 10 #[.int .u64 25] w fun e w' => e = .returned (.bool true) ∧ w = w' := by
  go_enter Try.func10, Try.ntmps10
  go_wp2_with fail
  refine (known_25 _).mono ?_
  rintro e w' ⟨rfl, rfl⟩
  go_wp2_with fail
  go_ret
  exact ⟨rfl, rfl⟩
set_option maxHeartbeats 1000000 in
set_option maxRecDepth 100000 in
theorem asks_26 (w : World) : Calls Try.prog 10 #[.int .u64 26] w fun e w' => e = .returned (.bool true) ∧ w = w' := by
  go_enter Try.func10, Try.ntmps10
  go_wp2_with fail
  refine (known_26 _).mono ?_
  rintro e w' ⟨rfl, rfl⟩
  go_wp2_with fail
  go_ret
  exact ⟨rfl, rfl⟩
set_option maxHeartbeats 1000000 in
set_option maxRecDepth 100000 in
theorem asks_27 (w : World) : Calls Try.prog 10 #[.int .u64 27] w fun e w' => e = .returned (.bool true) ∧ w = w' := by
  go_enter Try.func10, Try.ntmps10
  go_wp2_with fail
  refine (known_27 _).mono ?_
  rintro e w' ⟨rfl, rfl⟩
  go_wp2_with fail
  go_ret
  exact ⟨rfl, rfl⟩
set_option maxHeartbeats 1000000 in
set_option maxRecDepth 100000 in
theorem asks_28 (w : World) : Calls Try.prog 10 #[.int .u64 28] w fun e w' => e = .returned (.bool false) ∧ w = w' := by
  go_enter Try.func10, Try.ntmps10
  go_wp2_with fail
  refine (known_28 _).mono ?_
  rintro e w' ⟨rfl, rfl⟩
  go_wp2_with fail
  go_ret
  exact ⟨rfl, rfl⟩
set_option maxHeartbeats 1000000 in
set_option maxRecDepth 100000 in
theorem asks_29 (w : World) : Calls Try.prog 10 #[.int .u64 29] w fun e w' => e = .returned (.bool false) ∧ w = w' := by
  go_enter Try.func10, Try.ntmps10
  go_wp2_with fail
  refine (known_29 _).mono ?_
  rintro e w' ⟨rfl, rfl⟩
  go_wp2_with fail
  go_ret
  exact ⟨rfl, rfl⟩
set_option maxHeartbeats 1000000 in
set_option maxRecDepth 100000 in
theorem asks_30 (w : World) : Calls Try.prog 10 #[.int .u64 30] w fun e w' => e = .returned (.bool true) ∧ w = w' := by
  go_enter Try.func10, Try.ntmps10
  go_wp2_with fail
  refine (known_30 _).mono ?_
  rintro e w' ⟨rfl, rfl⟩
  go_wp2_with fail
  go_ret
  exact ⟨rfl, rfl⟩
set_option maxHeartbeats 1000000 in
set_option maxRecDepth 100000 in
theorem asks_48 (w : World) : Calls Try.prog 10 #[.int .u64 48] w fun e w' => e = .returned (.bool true) ∧ w = w' := by
  go_enter Try.func10, Try.ntmps10
  go_wp2_with fail
  refine (known_48 _).mono ?_
  rintro e w' ⟨rfl, rfl⟩
  go_wp2_with fail
  go_ret
  exact ⟨rfl, rfl⟩
set_option maxHeartbeats 1000000 in
set_option maxRecDepth 100000 in
theorem asks_no (k : Int) (w : World) (h : Other k) : Calls Try.prog 10 #[.int .u64 k] w fun e w' => e = .returned (.bool false) ∧ w = w' := by
  go_enter Try.func10, Try.ntmps10
  go_wp2_with fail
  refine (known_no k _ h).mono ?_
  rintro e w' ⟨rfl, rfl⟩
  go_wp2_with fail
  go_ret
  exact ⟨rfl, rfl⟩
set_option maxHeartbeats 1000000 in
set_option maxRecDepth 100000 in
theorem fits_0_0 (w : World) : Calls Try.prog 11 #[.int .u64 0, .int .i64 0] w fun e w' => e = .returned (.bool true) ∧ Below w.heap.size w w' := by
  have hg := Blk.new w 22 #[.int .u64 0, .int .u64 1, .int .u64 2, .int .u64 6, .int .u64 28]
  go_enter Try.func11, Try.ntmps11
  go_wp2_with fail
  refine (cont_0 _ _ hg).mono ?_
  rintro e w' ⟨rfl, rfl⟩
  go_wp2_with fail
  go_ret
  exact ⟨rfl, (Below.refl _ _).alloc (Nat.le_refl _) _⟩
set_option maxHeartbeats 1000000 in
set_option maxRecDepth 100000 in
theorem fits_0_1 (w : World) : Calls Try.prog 11 #[.int .u64 0, .int .i64 1] w fun e w' => e = .returned (.bool true) ∧ Below w.heap.size w w' := by
  have hg := Blk.new w 22 #[.int .u64 0, .int .u64 1, .int .u64 2, .int .u64 6, .int .u64 28]
  go_enter Try.func11, Try.ntmps11
  go_wp2_with fail
  refine (cont_0 _ _ hg).mono ?_
  rintro e w' ⟨rfl, rfl⟩
  go_wp2_with fail
  go_ret
  exact ⟨rfl, (Below.refl _ _).alloc (Nat.le_refl _) _⟩
set_option maxHeartbeats 1000000 in
set_option maxRecDepth 100000 in
theorem fits_0_2 (w : World) : Calls Try.prog 11 #[.int .u64 0, .int .i64 2] w fun e w' => e = .returned (.bool true) ∧ Below w.heap.size w w' := by
  go_enter Try.func11, Try.ntmps11
  go_wp2_with fail
  refine (known_0 _).mono ?_
  rintro e w' ⟨rfl, rfl⟩
  go_wp2_with fail
  go_ret
  exact ⟨rfl, Below.refl _ _⟩
set_option maxHeartbeats 1000000 in
set_option maxRecDepth 100000 in
theorem fits_0_x (l : Int) (hl : l ≠ 0 ∧ l ≠ 1 ∧ l ≠ 2) (w : World) : Calls Try.prog 11 #[.int .u64 0, .int .i64 l] w fun e w' => e = .returned (.bool false) ∧ Below w.heap.size w w' := by
  have l0 : (l == 0) = false := by simp; omega
  have l1 : (l == 1) = false := by simp; omega
  have l2 : (l == 2) = false := by simp; omega
  clear hl
  go_enter Try.func11, Try.ntmps11
  go_wp2_with fail
  go_ret
  exact ⟨rfl, Below.refl _ _⟩
set_option maxHeartbeats 1000000 in
set_option maxRecDepth 100000 in
theorem fits_1_0 (w : World) : Calls Try.prog 11 #[.int .u64 1, .int .i64 0] w fun e w' => e = .returned (.bool true) ∧ Below w.heap.size w w' := by
  have hg := Blk.new w 22 #[.int .u64 0, .int .u64 1, .int .u64 2, .int .u64 6, .int .u64 28]
  go_enter Try.func11, Try.ntmps11
  go_wp2_with fail
  refine (cont_1 _ _ hg).mono ?_
  rintro e w' ⟨rfl, rfl⟩
  go_wp2_with fail
  go_ret
  exact ⟨rfl, (Below.refl _ _).alloc (Nat.le_refl _) _⟩
set_option maxHeartbeats 1000000 in
set_option maxRecDepth 100000 in
theorem fits_1_1 (w : World) : Calls Try.prog 11 #[.int .u64 1, .int .i64 1] w fun e w' => e = .returned (.bool true) ∧ Below w.heap.size w w' := by
  have hg := Blk.new w 22 #[.int .u64 0, .int .u64 1, .int .u64 2, .int .u64 6, .int .u64 28]
  go_enter Try.func11, Try.ntmps11
  go_wp2_with fail
  refine (cont_1 _ _ hg).mono ?_
  rintro e w' ⟨rfl, rfl⟩
  go_wp2_with fail
  go_ret
  exact ⟨rfl, (Below.refl _ _).alloc (Nat.le_refl _) _⟩
set_option maxHeartbeats 1000000 in
set_option maxRecDepth 100000 in
theorem fits_1_2 (w : World) : Calls Try.prog 11 #[.int .u64 1, .int .i64 2] w fun e w' => e = .returned (.bool true) ∧ Below w.heap.size w w' := by
  go_enter Try.func11, Try.ntmps11
  go_wp2_with fail
  refine (known_1 _).mono ?_
  rintro e w' ⟨rfl, rfl⟩
  go_wp2_with fail
  go_ret
  exact ⟨rfl, Below.refl _ _⟩
set_option maxHeartbeats 1000000 in
set_option maxRecDepth 100000 in
theorem fits_1_x (l : Int) (hl : l ≠ 0 ∧ l ≠ 1 ∧ l ≠ 2) (w : World) : Calls Try.prog 11 #[.int .u64 1, .int .i64 l] w fun e w' => e = .returned (.bool false) ∧ Below w.heap.size w w' := by
  have l0 : (l == 0) = false := by simp; omega
  have l1 : (l == 1) = false := by simp; omega
  have l2 : (l == 2) = false := by simp; omega
  clear hl
  go_enter Try.func11, Try.ntmps11
  go_wp2_with fail
  go_ret
  exact ⟨rfl, Below.refl _ _⟩
set_option maxHeartbeats 1000000 in
set_option maxRecDepth 100000 in
theorem fits_2_0 (w : World) : Calls Try.prog 11 #[.int .u64 2, .int .i64 0] w fun e w' => e = .returned (.bool true) ∧ Below w.heap.size w w' := by
  have hg := Blk.new w 22 #[.int .u64 0, .int .u64 1, .int .u64 2, .int .u64 6, .int .u64 28]
  go_enter Try.func11, Try.ntmps11
  go_wp2_with fail
  refine (cont_2 _ _ hg).mono ?_
  rintro e w' ⟨rfl, rfl⟩
  go_wp2_with fail
  go_ret
  exact ⟨rfl, (Below.refl _ _).alloc (Nat.le_refl _) _⟩
set_option maxHeartbeats 1000000 in
set_option maxRecDepth 100000 in
theorem fits_2_1 (w : World) : Calls Try.prog 11 #[.int .u64 2, .int .i64 1] w fun e w' => e = .returned (.bool true) ∧ Below w.heap.size w w' := by
  have hg := Blk.new w 22 #[.int .u64 0, .int .u64 1, .int .u64 2, .int .u64 6, .int .u64 28]
  go_enter Try.func11, Try.ntmps11
  go_wp2_with fail
  refine (cont_2 _ _ hg).mono ?_
  rintro e w' ⟨rfl, rfl⟩
  go_wp2_with fail
  go_ret
  exact ⟨rfl, (Below.refl _ _).alloc (Nat.le_refl _) _⟩
set_option maxHeartbeats 1000000 in
set_option maxRecDepth 100000 in
theorem fits_2_2 (w : World) : Calls Try.prog 11 #[.int .u64 2, .int .i64 2] w fun e w' => e = .returned (.bool true) ∧ Below w.heap.size w w' := by
  go_enter Try.func11, Try.ntmps11
  go_wp2_with fail
  refine (known_2 _).mono ?_
  rintro e w' ⟨rfl, rfl⟩
  go_wp2_with fail
  go_ret
  exact ⟨rfl, Below.refl _ _⟩
set_option maxHeartbeats 1000000 in
set_option maxRecDepth 100000 in
theorem fits_2_x (l : Int) (hl : l ≠ 0 ∧ l ≠ 1 ∧ l ≠ 2) (w : World) : Calls Try.prog 11 #[.int .u64 2, .int .i64 l] w fun e w' => e = .returned (.bool false) ∧ Below w.heap.size w w' := by
  have l0 : (l == 0) = false := by simp; omega
  have l1 : (l == 1) = false := by simp; omega
  have l2 : (l == 2) = false := by simp; omega
  clear hl
  go_enter Try.func11, Try.ntmps11
  go_wp2_with fail
  go_ret
  exact ⟨rfl, Below.refl _ _⟩
set_option maxHeartbeats 1000000 in
set_option maxRecDepth 100000 in
theorem fits_4_0 (w : World) : Calls Try.prog 11 #[.int .u64 4, .int .i64 0] w fun e w' => e = .returned (.bool false) ∧ Below w.heap.size w w' := by
  have hg := Blk.new w 22 #[.int .u64 0, .int .u64 1, .int .u64 2, .int .u64 6, .int .u64 28]
  go_enter Try.func11, Try.ntmps11
  go_wp2_with fail
  refine (cont_no 4 _ _ hg (by decide)).mono ?_
  rintro e w' ⟨rfl, rfl⟩
  go_wp2_with fail
  go_ret
  exact ⟨rfl, (Below.refl _ _).alloc (Nat.le_refl _) _⟩
set_option maxHeartbeats 1000000 in
set_option maxRecDepth 100000 in
theorem fits_4_1 (w : World) : Calls Try.prog 11 #[.int .u64 4, .int .i64 1] w fun e w' => e = .returned (.bool false) ∧ Below w.heap.size w w' := by
  have hg := Blk.new w 22 #[.int .u64 0, .int .u64 1, .int .u64 2, .int .u64 6, .int .u64 28]
  go_enter Try.func11, Try.ntmps11
  go_wp2_with fail
  refine (cont_no 4 _ _ hg (by decide)).mono ?_
  rintro e w' ⟨rfl, rfl⟩
  go_wp2_with fail
  go_ret
  exact ⟨rfl, (Below.refl _ _).alloc (Nat.le_refl _) _⟩
set_option maxHeartbeats 1000000 in
set_option maxRecDepth 100000 in
theorem fits_4_2 (w : World) : Calls Try.prog 11 #[.int .u64 4, .int .i64 2] w fun e w' => e = .returned (.bool true) ∧ Below w.heap.size w w' := by
  go_enter Try.func11, Try.ntmps11
  go_wp2_with fail
  refine (known_4 _).mono ?_
  rintro e w' ⟨rfl, rfl⟩
  go_wp2_with fail
  go_ret
  exact ⟨rfl, Below.refl _ _⟩
set_option maxHeartbeats 1000000 in
set_option maxRecDepth 100000 in
theorem fits_4_x (l : Int) (hl : l ≠ 0 ∧ l ≠ 1 ∧ l ≠ 2) (w : World) : Calls Try.prog 11 #[.int .u64 4, .int .i64 l] w fun e w' => e = .returned (.bool false) ∧ Below w.heap.size w w' := by
  have l0 : (l == 0) = false := by simp; omega
  have l1 : (l == 1) = false := by simp; omega
  have l2 : (l == 2) = false := by simp; omega
  clear hl
  go_enter Try.func11, Try.ntmps11
  go_wp2_with fail
  go_ret
  exact ⟨rfl, Below.refl _ _⟩
set_option maxHeartbeats 1000000 in
set_option maxRecDepth 100000 in
theorem fits_5_0 (w : World) : Calls Try.prog 11 #[.int .u64 5, .int .i64 0] w fun e w' => e = .returned (.bool false) ∧ Below w.heap.size w w' := by
  have hg := Blk.new w 22 #[.int .u64 0, .int .u64 1, .int .u64 2, .int .u64 6, .int .u64 28]
  go_enter Try.func11, Try.ntmps11
  go_wp2_with fail
  refine (cont_no 5 _ _ hg (by decide)).mono ?_
  rintro e w' ⟨rfl, rfl⟩
  go_wp2_with fail
  go_ret
  exact ⟨rfl, (Below.refl _ _).alloc (Nat.le_refl _) _⟩
set_option maxHeartbeats 1000000 in
set_option maxRecDepth 100000 in
theorem fits_5_1 (w : World) : Calls Try.prog 11 #[.int .u64 5, .int .i64 1] w fun e w' => e = .returned (.bool false) ∧ Below w.heap.size w w' := by
  have hg := Blk.new w 22 #[.int .u64 0, .int .u64 1, .int .u64 2, .int .u64 6, .int .u64 28]
  go_enter Try.func11, Try.ntmps11
  go_wp2_with fail
  refine (cont_no 5 _ _ hg (by decide)).mono ?_
  rintro e w' ⟨rfl, rfl⟩
  go_wp2_with fail
  go_ret
  exact ⟨rfl, (Below.refl _ _).alloc (Nat.le_refl _) _⟩
set_option maxHeartbeats 1000000 in
set_option maxRecDepth 100000 in
theorem fits_5_2 (w : World) : Calls Try.prog 11 #[.int .u64 5, .int .i64 2] w fun e w' => e = .returned (.bool true) ∧ Below w.heap.size w w' := by
  go_enter Try.func11, Try.ntmps11
  go_wp2_with fail
  refine (known_5 _).mono ?_
  rintro e w' ⟨rfl, rfl⟩
  go_wp2_with fail
  go_ret
  exact ⟨rfl, Below.refl _ _⟩
set_option maxHeartbeats 1000000 in
set_option maxRecDepth 100000 in
theorem fits_5_x (l : Int) (hl : l ≠ 0 ∧ l ≠ 1 ∧ l ≠ 2) (w : World) : Calls Try.prog 11 #[.int .u64 5, .int .i64 l] w fun e w' => e = .returned (.bool false) ∧ Below w.heap.size w w' := by
  have l0 : (l == 0) = false := by simp; omega
  have l1 : (l == 1) = false := by simp; omega
  have l2 : (l == 2) = false := by simp; omega
  clear hl
  go_enter Try.func11, Try.ntmps11
  go_wp2_with fail
  go_ret
  exact ⟨rfl, Below.refl _ _⟩
set_option maxHeartbeats 1000000 in
set_option maxRecDepth 100000 in
theorem fits_6_0 (w : World) : Calls Try.prog 11 #[.int .u64 6, .int .i64 0] w fun e w' => e = .returned (.bool true) ∧ Below w.heap.size w w' := by
  have hg := Blk.new w 22 #[.int .u64 0, .int .u64 1, .int .u64 2, .int .u64 6, .int .u64 28]
  go_enter Try.func11, Try.ntmps11
  go_wp2_with fail
  refine (cont_6 _ _ hg).mono ?_
  rintro e w' ⟨rfl, rfl⟩
  go_wp2_with fail
  go_ret
  exact ⟨rfl, (Below.refl _ _).alloc (Nat.le_refl _) _⟩
set_option maxHeartbeats 1000000 in
set_option maxRecDepth 100000 in
theorem fits_6_1 (w : World) : Calls Try.prog 11 #[.int .u64 6, .int .i64 1] w fun e w' => e = .returned (.bool true) ∧ Below w.heap.size w w' := by
  have hg := Blk.new w 22 #[.int .u64 0, .int .u64 1, .int .u64 2, .int .u64 6, .int .u64 28]
  go_enter Try.func11, Try.ntmps11
  go_wp2_with fail
  refine (cont_6 _ _ hg).mono ?_
  rintro e w' ⟨rfl, rfl⟩
  go_wp2_with fail
  go_ret
  exact ⟨rfl, (Below.refl _ _).alloc (Nat.le_refl _) _⟩
set_option maxHeartbeats 1000000 in
set_option maxRecDepth 100000 in
theorem fits_6_2 (w : World) : Calls Try.prog 11 #[.int .u64 6, .int .i64 2] w fun e w' => e = .returned (.bool true) ∧ Below w.heap.size w w' := by
  go_enter Try.func11, Try.ntmps11
  go_wp2_with fail
  refine (known_6 _).mono ?_
  rintro e w' ⟨rfl, rfl⟩
  go_wp2_with fail
  go_ret
  exact ⟨rfl, Below.refl _ _⟩
set_option maxHeartbeats 1000000 in
set_option maxRecDepth 100000 in
theorem fits_6_x (l : Int) (hl : l ≠ 0 ∧ l ≠ 1 ∧ l ≠ 2) (w : World) : Calls Try.prog 11 #[.int .u64 6, .int .i64 l] w fun e w' => e = .returned (.bool false) ∧ Below w.heap.size w w' := by
  have l0 : (l == 0) = false := by simp; omega
  have l1 : (l == 1) = false := by simp; omega
  have l2 : (l == 2) = false := by simp; omega
  clear hl
  go_enter Try.func11, Try.ntmps11
  go_wp2_with fail
  go_ret
  exact ⟨rfl, Below.refl _ _⟩
set_option maxHeartbeats 1000000 in
set_option maxRecDepth 100000 in
theorem fits_7_0 (w : World) : Calls Try.prog 11 #[.int .u64 7, .int .i64 0] w fun e w' => e = .returned (.bool false) ∧ Below w.heap.size w w' := by
  have hg := Blk.new w 22 #[.int .u64 0, .int .u64 1, .int .u64 2, .int .u64 6, .int .u64 28]
  go_enter Try.func11, Try.ntmps11
  go_wp2_with fail
  refine (cont_no 7 _ _ hg (by decide)).mono ?_
  rintro e w' ⟨rfl, rfl⟩
  go_wp2_with fail
  go_ret
  exact ⟨rfl, (Below.refl _ _).alloc (Nat.le_refl _) _⟩
set_option maxHeartbeats 1000000 in
set_option maxRecDepth 100000 in
theorem fits_7_1 (w : World) : Calls Try.prog 11 #[.int .u64 7, .int .i64 1] w fun e w' => e = .returned (.bool false) ∧ Below w.heap.size w w' := by
  have hg := Blk.new w 22 #[.int .u64 0, .int .u64 1, .int .u64 2, .int .u64 6, .int .u64 28]
  go_enter Try.func11, Try.ntmps11
  go_wp2_with fail
  refine (cont_no 7 _ _ hg (by decide)).mono ?_
  rintro e w' ⟨rfl, rfl⟩
  go_wp2_with fail
  go_ret
  exact ⟨rfl, (Below.refl _ _).alloc (Nat.le_refl _) _⟩
set_option maxHeartbeats 1000000 in
set_option maxRecDepth 100000 in
theorem fits_7_2 (w : World) : Calls Try.prog 11 #[.int .u64 7, .int .i64 2] w fun e w' => e = .returned (.bool true) ∧ Below w.heap.size w w' := by
  go_enter Try.func11, Try.ntmps11
  go_wp2_with fail
  refine (known_7 _).mono ?_
  rintro e w' ⟨rfl, rfl⟩
  go_wp2_with fail
  go_ret
  exact ⟨rfl, Below.refl _ _⟩
set_option maxHeartbeats 1000000 in
set_option maxRecDepth 100000 in
theorem fits_7_x (l : Int) (hl : l ≠ 0 ∧ l ≠ 1 ∧ l ≠ 2) (w : World) : Calls Try.prog 11 #[.int .u64 7, .int .i64 l] w fun e w' => e = .returned (.bool false) ∧ Below w.heap.size w w' := by
  have l0 : (l == 0) = false := by simp; omega
  have l1 : (l == 1) = false := by simp; omega
  have l2 : (l == 2) = false := by simp; omega
  clear hl
  go_enter Try.func11, Try.ntmps11
  go_wp2_with fail
  go_ret
  exact ⟨rfl, Below.refl _ _⟩
set_option maxHeartbeats 1000000 in
set_option maxRecDepth 100000 in
theorem fits_8_0 (w : World) : Calls Try.prog 11 #[.int .u64 8, .int .i64 0] w fun e w' => e = .returned (.bool false) ∧ Below w.heap.size w w' := by
  have hg := Blk.new w 22 #[.int .u64 0, .int .u64 1, .int .u64 2, .int .u64 6, .int .u64 28]
  go_enter Try.func11, Try.ntmps11
  go_wp2_with fail
  refine (cont_no 8 _ _ hg (by decide)).mono ?_
  rintro e w' ⟨rfl, rfl⟩
  go_wp2_with fail
  go_ret
  exact ⟨rfl, (Below.refl _ _).alloc (Nat.le_refl _) _⟩
set_option maxHeartbeats 1000000 in
set_option maxRecDepth 100000 in
theorem fits_8_1 (w : World) : Calls Try.prog 11 #[.int .u64 8, .int .i64 1] w fun e w' => e = .returned (.bool false) ∧ Below w.heap.size w w' := by
  have hg := Blk.new w 22 #[.int .u64 0, .int .u64 1, .int .u64 2, .int .u64 6, .int .u64 28]
  go_enter Try.func11, Try.ntmps11
  go_wp2_with fail
  refine (cont_no 8 _ _ hg (by decide)).mono ?_
  rintro e w' ⟨rfl, rfl⟩
  go_wp2_with fail
  go_ret
  exact ⟨rfl, (Below.refl _ _).alloc (Nat.le_refl _) _⟩
set_option maxHeartbeats 1000000 in
set_option maxRecDepth 100000 in
theorem fits_8_2 (w : World) : Calls Try.prog 11 #[.int .u64 8, .int .i64 2] w fun e w' => e = .returned (.bool true) ∧ Below w.heap.size w w' := by
  go_enter Try.func11, Try.ntmps11
  go_wp2_with fail
  refine (known_8 _).mono ?_
  rintro e w' ⟨rfl, rfl⟩
  go_wp2_with fail
  go_ret
  exact ⟨rfl, Below.refl _ _⟩
set_option maxHeartbeats 1000000 in
set_option maxRecDepth 100000 in
theorem fits_8_x (l : Int) (hl : l ≠ 0 ∧ l ≠ 1 ∧ l ≠ 2) (w : World) : Calls Try.prog 11 #[.int .u64 8, .int .i64 l] w fun e w' => e = .returned (.bool false) ∧ Below w.heap.size w w' := by
  have l0 : (l == 0) = false := by simp; omega
  have l1 : (l == 1) = false := by simp; omega
  have l2 : (l == 2) = false := by simp; omega
  clear hl
  go_enter Try.func11, Try.ntmps11
  go_wp2_with fail
  go_ret
  exact ⟨rfl, Below.refl _ _⟩
set_option maxHeartbeats 1000000 in
set_option maxRecDepth 100000 in
theorem fits_16_0 (w : World) : Calls Try.prog 11 #[.int .u64 16, .int .i64 0] w fun e w' => e = .returned (.bool false) ∧ Below w.heap.size w w' := by
  have hg := Blk.new w 22 #[.int .u64 0, .int .u64 1, .int .u64 2, .int .u64 6, .int .u64 28]
  go_enter Try.func11, Try.ntmps11
  go_wp2_with fail
  refine (cont_no 16 _ _ hg (by decide)).mono ?_
  rintro e w' ⟨rfl, rfl⟩
  go_wp2_with fail
  go_ret
  exact ⟨rfl, (Below.refl _ _).alloc (Nat.le_refl _) _⟩
set_option maxHeartbeats 1000000 in
set_option maxRecDepth 100000 in
theorem fits_16_1 (w : World) : Calls Try.prog 11 #[.int .u64 16, .int .i64 1] w fun e w' => e = .returned (.bool false) ∧ Below w.heap.size w w' := by
  have hg := Blk.new w 22 #[.int .u64 0, .int .u64 1, .int .u64 2, .int .u64 6, .int .u64 28]
  go_enter Try.func11, Try.ntmps11
  go_wp2_with fail
  refine (cont_no 16 _ _ hg (by decide)).mono ?_
  rintro e w' ⟨rfl, rfl⟩
  go_wp2_with fail
  go_ret
  exact ⟨rfl, (Below.refl _ _).alloc (Nat.le_refl _) _⟩
set_option maxHeartbeats 1000000 in
set_option maxRecDepth 100000 in
theorem fits_16_2 (w : World) : Calls Try.prog 11 #[.int .u64 16, .int .i64 2] w fun e w' => e = .returned (.bool true) ∧ Below w.heap.size w w' := by
  go_enter Try.func11, Try.ntmps11
  go_wp2_with fail
  refine (known_16 _).mono ?_
  rintro e w' ⟨rfl, rfl⟩
  go_wp2_with fail
  go_ret
  exact ⟨rfl, Below.refl _ _⟩
set_option maxHeartbeats 1000000 in
set_option maxRecDepth 100000 in
theorem fits_16_x (l : Int) (hl : l ≠ 0 ∧ l ≠ 1 ∧ l ≠ 2) (w : World) : Calls Try.prog 11 #[.int .u64 16, .int .i64 l] w fun e w' => e = .returned (.bool false) ∧ Below w.heap.size w w' := by
  have l0 : (l == 0) = false := by simp; omega
  have l1 : (l == 1) = false := by simp; omega
  have l2 : (l == 2) = false := by simp; omega
  clear hl
  go_enter Try.func11, Try.ntmps11
  go_wp2_with fail
  go_ret
  exact ⟨rfl, Below.refl _ _⟩
set_option maxHeartbeats 1000000 in
set_option maxRecDepth 100000 in
theorem fits_17_0 (w : World) : Calls Try.prog 11 #[.int .u64 17, .int .i64 0] w fun e w' => e = .returned (.bool false) ∧ Below w.heap.size w w' := by
  have hg := Blk.new w 22 #[.int .u64 0, .int .u64 1, .int .u64 2, .int .u64 6, .int .u64 28]
  go_enter Try.func11, Try.ntmps11
  go_wp2_with fail
  refine (cont_no 17 _ _ hg (by decide)).mono ?_
  rintro e w' ⟨rfl, rfl⟩
  go_wp2_with fail
  go_ret
  exact ⟨rfl, (Below.refl _ _).alloc (Nat.le_refl _) _⟩
set_option maxHeartbeats 1000000 in
set_option maxRecDepth 100000 in
theorem fits_17_1 (w : World) : Calls Try.prog 11 #[.int .u64 17, .int .i64 1] w fun e w' => e = .returned (.bool false) ∧ Below w.heap.size w w' := by
  have hg := Blk.new w 22 #[.int .u64 0, .int .u64 1, .int .u64 2, .int .u64 6, .int .u64 28]
  go_enter Try.func11, Try.ntmps11
  go_wp2_with fail
  refine (cont_no 17 _ _ hg (by decide)).mono ?_
  rintro e w' ⟨rfl, rfl⟩
  go_wp2_with fail
  go_ret
  exact ⟨rfl, (Below.refl _ _).alloc (Nat.le_refl _) _⟩
set_option maxHeartbeats 1000000 in
set_option maxRecDepth 100000 in
theorem fits_17_2 (w : World) : Calls Try.prog 11 #[.int .u64 17, .int .i64 2] w fun e w' => e = .returned (.bool true) ∧ Below w.heap.size w w' := by
  go_enter Try.func11, Try.ntmps11
  go_wp2_with fail
  refine (known_17 _).mono ?_
  rintro e w' ⟨rfl, rfl⟩
  go_wp2_with fail
  go_ret
  exact ⟨rfl, Below.refl _ _⟩
set_option maxHeartbeats 1000000 in
set_option maxRecDepth 100000 in
theorem fits_17_x (l : Int) (hl : l ≠ 0 ∧ l ≠ 1 ∧ l ≠ 2) (w : World) : Calls Try.prog 11 #[.int .u64 17, .int .i64 l] w fun e w' => e = .returned (.bool false) ∧ Below w.heap.size w w' := by
  have l0 : (l == 0) = false := by simp; omega
  have l1 : (l == 1) = false := by simp; omega
  have l2 : (l == 2) = false := by simp; omega
  clear hl
  go_enter Try.func11, Try.ntmps11
  go_wp2_with fail
  go_ret
  exact ⟨rfl, Below.refl _ _⟩
set_option maxHeartbeats 1000000 in
set_option maxRecDepth 100000 in
theorem fits_18_0 (w : World) : Calls Try.prog 11 #[.int .u64 18, .int .i64 0] w fun e w' => e = .returned (.bool false) ∧ Below w.heap.size w w' := by
  have hg := Blk.new w 22 #[.int .u64 0, .int .u64 1, .int .u64 2, .int .u64 6, .int .u64 28]
  go_enter Try.func11, Try.ntmps11
  go_wp2_with fail
  refine (cont_no 18 _ _ hg (by decide)).mono ?_
  rintro e w' ⟨rfl, rfl⟩
  go_wp2_with fail
  go_ret
  exact ⟨rfl, (Below.refl _ _).alloc (Nat.le_refl _) _⟩
set_option maxHeartbeats 1000000 in
set_option maxRecDepth 100000 in
theorem fits_18_1 (w : World) : Calls Try.prog 11 #[.int .u64 18, .int .i64 1] w fun e w' => e = .returned (.bool false) ∧ Below w.heap.size w w' := by
  have hg := Blk.new w 22 #[.int .u64 0, .int .u64 1, .int .u64 2, .int .u64 6, .int .u64 28]
  go_enter Try.func11, Try.ntmps11
  go_wp2_with fail
  refine (cont_no 18 _ _ hg (by decide)).mono ?_
  rintro e w' ⟨rfl, rfl⟩
  go_wp2_with fail
  go_ret
  exact ⟨rfl, (Below.refl _ _).alloc (Nat.le_refl _) _⟩
set_option maxHeartbeats 1000000 in
set_option maxRecDepth 100000 in
theorem fits_18_2 (w : World) : Calls Try.prog 11 #[.int .u64 18, .int .i64 2] w fun e w' => e = .returned (.bool true) ∧ Below w.heap.size w w' := by
  go_enter Try.func11, Try.ntmps11
  go_wp2_with fail
  refine (known_18 _).mono ?_
  rintro e w' ⟨rfl, rfl⟩
  go_wp2_with fail
  go_ret
  exact ⟨rfl, Below.refl _ _⟩
set_option maxHeartbeats 1000000 in
set_option maxRecDepth 100000 in
theorem fits_18_x (l : Int) (hl : l ≠ 0 ∧ l ≠ 1 ∧ l ≠ 2) (w : World) : Calls Try.prog 11 #[.int .u64 18, .int .i64 l] w fun e w' => e = .returned (.bool false) ∧ Below w.heap.size w w' := by
  have l0 : (l == 0) = false := by simp; omega
  have l1 : (l == 1) = false := by simp; omega
  have l2 : (l == 2) = false := by simp; omega
  clear hl
  go_enter Try.func11, Try.ntmps11
  go_wp2_with fail
  go_ret
  exact ⟨rfl, Below.refl _ _⟩
set_option maxHeartbeats 1000000 in
set_option maxRecDepth 100000 in
theorem fits_19_0 (w : World) : Calls Try.prog 11 #[.int .u64 19, .int .i64 0] w fun e w' => e = .returned (.bool false) ∧ Below w.heap.size w w' := by
  have hg := Blk.new w 22 #[.int .u64 0, .int .u64 1, .int .u64 2, .int .u64 6, .int .u64 28]
  go_enter Try.func11, Try.ntmps11
  go_wp2_with fail
  refine (cont_no 19 _ _ hg (by decide)).mono ?_
  rintro e w' ⟨rfl, rfl⟩
  go_wp2_with fail
  go_ret
  exact ⟨rfl, (Below.refl _ _).alloc (Nat.le_refl _) _⟩
set_option maxHeartbeats 1000000 in
set_option maxRecDepth 100000 in
theorem fits_19_1 (w : World) : Calls Try.prog 11 #[.int .u64 19, .int .i64 1] w fun e w' => e = .returned (.bool false) ∧ Below w.heap.size w w' := by
  have hg := Blk.new w 22 #[.int .u64 0, .int .u64 1, .int .u64 2, .int .u64 6, .int .u64 28]
  go_enter Try.func11, Try.ntmps11
  go_wp2_with fail
  refine (cont_no 19 _ _ hg (by decide)).mono ?_
  rintro e w' ⟨rfl, rfl⟩
  go_wp2_with fail
  go_ret
  exact ⟨rfl, (Below.refl _ _).alloc (Nat.le_refl _) _⟩
set_option maxHeartbeats 1000000 in
set_option maxRecDepth 100000 in
theorem fits_19_2 (w : World) : Calls Try.prog 11 #[.int .u64 19, .int .i64 2] w fun e w' => e = .returned (.bool true) ∧ Below w.heap.size w w' := by
  go_enter Try.func11, Try.ntmps11
  go_wp2_with fail
  refine (known_19 _).mono ?_
  rintro e w' ⟨rfl, rfl⟩
  go_wp2_with fail
  go_ret
  exact ⟨rfl, Below.refl _ _⟩
set_option maxHeartbeats 1000000 in
set_option maxRecDepth 100000 in
theorem fits_19_x (l : Int) (hl : l ≠ 0 ∧ l ≠ 1 ∧ l ≠ 2) (w : World) : Calls Try.prog 11 #[.int .u64 19, .int .i64 l] w fun e w' => e = .returned (.bool false) ∧ Below w.heap.size w w' := by
  have l0 : (l == 0) = false := by simp; omega
  have l1 : (l == 1) = false := by simp; omega
  have l2 : (l == 2) = false := by simp; omega
  clear hl
  go_enter Try.func11, Try.ntmps11
  go_wp2_with fail
  go_ret
  exact ⟨rfl, Below.refl _ _⟩
set_option maxHeartbeats 1000000 in
set_option maxRecDepth 100000 in
theorem fits_20_0 (w : World) : Calls Try.prog 11 #[.int .u64 20, .int .i64 0] w fun e w' => e = .returned (.bool false) ∧ Below w.heap.size w w' := by
  have hg := Blk.new w 22 #[.int .u64 0, .int .u64 1, .int .u64 2, .int .u64 6, .int .u64 28]
  go_enter Try.func11, Try.ntmps11
  go_wp2_with fail
  refine (cont_no 20 _ _ hg (by decide)).mono ?_
  rintro e w' ⟨rfl, rfl⟩
  go_wp2_with fail
  go_ret
  exact ⟨rfl, (Below.refl _ _).alloc (Nat.le_refl _) _⟩
set_option maxHeartbeats 1000000 in
set_option maxRecDepth 100000 in
theorem fits_20_1 (w : World) : Calls Try.prog 11 #[.int .u64 20, .int .i64 1] w fun e w' => e = .returned (.bool false) ∧ Below w.heap.size w w' := by
  have hg := Blk.new w 22 #[.int .u64 0, .int .u64 1, .int .u64 2, .int .u64 6, .int .u64 28]
  go_enter Try.func11, Try.ntmps11
  go_wp2_with fail
  refine (cont_no 20 _ _ hg (by decide)).mono ?_
  rintro e w' ⟨rfl, rfl⟩
  go_wp2_with fail
  go_ret
  exact ⟨rfl, (Below.refl _ _).alloc (Nat.le_refl _) _⟩
set_option maxHeartbeats 1000000 in
set_option maxRecDepth 100000 in
theorem fits_20_2 (w : World) : Calls Try.prog 11 #[.int .u64 20, .int .i64 2] w fun e w' => e = .returned (.bool true) ∧ Below w.heap.size w w' := by
  go_enter Try.func11, Try.ntmps11
  go_wp2_with fail
  refine (known_20 _).mono ?_
  rintro e w' ⟨rfl, rfl⟩
  go_wp2_with fail
  go_ret
  exact ⟨rfl, Below.refl _ _⟩
set_option maxHeartbeats 1000000 in
set_option maxRecDepth 100000 in
theorem fits_20_x (l : Int) (hl : l ≠ 0 ∧ l ≠ 1 ∧ l ≠ 2) (w : World) : Calls Try.prog 11 #[.int .u64 20, .int .i64 l] w fun e w' => e = .returned (.bool false) ∧ Below w.heap.size w w' := by
  have l0 : (l == 0) = false := by simp; omega
  have l1 : (l == 1) = false := by simp; omega
  have l2 : (l == 2) = false := by simp; omega
  clear hl
  go_enter Try.func11, Try.ntmps11
  go_wp2_with fail
  go_ret
  exact ⟨rfl, Below.refl _ _⟩
set_option maxHeartbeats 1000000 in
set_option maxRecDepth 100000 in
theorem fits_21_0 (w : World) : Calls Try.prog 11 #[.int .u64 21, .int .i64 0] w fun e w' => e = .returned (.bool false) ∧ Below w.heap.size w w' := by
  have hg := Blk.new w 22 #[.int .u64 0, .int .u64 1, .int .u64 2, .int .u64 6, .int .u64 28]
  go_enter Try.func11, Try.ntmps11
  go_wp2_with fail
  refine (cont_no 21 _ _ hg (by decide)).mono ?_
  rintro e w' ⟨rfl, rfl⟩
  go_wp2_with fail
  go_ret
  exact ⟨rfl, (Below.refl _ _).alloc (Nat.le_refl _) _⟩
set_option maxHeartbeats 1000000 in
set_option maxRecDepth 100000 in
theorem fits_21_1 (w : World) : Calls Try.prog 11 #[.int .u64 21, .int .i64 1] w fun e w' => e = .returned (.bool false) ∧ Below w.heap.size w w' := by
  have hg := Blk.new w 22 #[.int .u64 0, .int .u64 1, .int .u64 2, .int .u64 6, .int .u64 28]
  go_enter Try.func11, Try.ntmps11
  go_wp2_with fail
  refine (cont_no 21 _ _ hg (by decide)).mono ?_
  rintro e w' ⟨rfl, rfl⟩
  go_wp2_with fail
  go_ret
  exact ⟨rfl, (Below.refl _ _).alloc (Nat.le_refl _) _⟩
set_option maxHeartbeats 1000000 in
set_option maxRecDepth 100000 in
theorem fits_21_2 (w : World) : Calls Try.prog 11 #[.int .u64 21, .int .i64 2] w fun e w' => e = .returned (.bool true) ∧ Below w.heap.size w w' := by
  go_enter Try.func11, Try.ntmps11
  go_wp2_with fail
  refine (known_21 _).mono ?_
  rintro e w' ⟨rfl, rfl⟩
  go_wp2_with fail
  go_ret
  exact ⟨rfl, Below.refl _ _⟩
set_option maxHeartbeats 1000000 in
set_option maxRecDepth 100000 in
theorem fits_21_x (l : Int) (hl : l ≠ 0 ∧ l ≠ 1 ∧ l ≠ 2) (w : World) : Calls Try.prog 11 #[.int .u64 21, .int .i64 l] w fun e w' => e = .returned (.bool false) ∧ Below w.heap.size w w' := by
  have l0 : (l == 0) = false := by simp; omega
  have l1 : (l == 1) = false := by simp; omega
  have l2 : (l == 2) = false := by simp; omega
  clear hl
  go_enter Try.func11, Try.ntmps11
  go_wp2_with fail
  go_ret
  exact ⟨rfl, Below.refl _ _⟩
set_option maxHeartbeats 1000000 in
set_option maxRecDepth 100000 in
theorem fits_22_0 (w : World) : Calls Try.prog 11 #[.int .u64 22, .int .i64 0] w fun e w' => e = .returned (.bool false) ∧ Below w.heap.size w w' := by
  have hg := Blk.new w 22 #[.int .u64 0, .int .u64 1, .int .u64 2, .int .u64 6, .int .u64 28]
  go_enter Try.func11, Try.ntmps11
  go_wp2_with fail
  refine (cont_no 22 _ _ hg (by decide)).mono ?_
  rintro e w' ⟨rfl, rfl⟩
  go_wp2_with fail
  go_ret
  exact ⟨rfl, (Below.refl _ _).alloc (Nat.le_refl _) _⟩
set_option maxHeartbeats 1000000 in
set_option maxRecDepth 100000 in
theorem fits_22_1 (w : World) : Calls Try.prog 11 #[.int .u64 22, .int .i64 1] w fun e w' => e = .returned (.bool false) ∧ Below w.heap.size w w' := by
  have hg := Blk.new w 22 #[.int .u64 0, .int .u64 1, .int .u64 2, .int .u64 6, .int .u64 28]
  go_enter Try.func11, Try.ntmps11
  go_wp2_with fail
  refine (cont_no 22 _ _ hg (by decide)).mono ?_
  rintro e w' ⟨rfl, rfl⟩
  go_wp2_with fail
  go_ret
  exact ⟨rfl, (Below.refl _ _).alloc (Nat.le_refl _) _⟩
set_option maxHeartbeats 1000000 in
set_option maxRecDepth 100000 in
theorem fits_22_2 (w : World) : Calls Try.prog 11 #[.int .u64 22, .int .i64 2] w fun e w' => e = .returned (.bool true) ∧ Below w.heap.size w w' := by
  go_enter Try.func11, Try.ntmps11
  go_wp2_with fail
  refine (known_22 _).mono ?_
  rintro e w' ⟨rfl, rfl⟩
  go_wp2_with fail
  go_ret
  exact ⟨rfl, Below.refl _ _⟩
set_option maxHeartbeats 1000000 in
set_option maxRecDepth 100000 in
theorem fits_22_x (l : Int) (hl : l ≠ 0 ∧ l ≠ 1 ∧ l ≠ 2) (w : World) : Calls Try.prog 11 #[.int .u64 22, .int .i64 l] w fun e w' => e = .returned (.bool false) ∧ Below w.heap.size w w' := by
  have l0 : (l == 0) = false := by simp; omega
  have l1 : (l == 1) = false := by simp; omega
  have l2 : (l == 2) = false := by simp; omega
  clear hl
  go_enter Try.func11, Try.ntmps11
  go_wp2_with fail
  go_ret
  exact ⟨rfl, Below.refl _ _⟩
set_option maxHeartbeats 1000000 in
set_option maxRecDepth 100000 in
theorem fits_23_0 (w : World) : Calls Try.prog 11 #[.int .u64 23, .int .i64 0] w fun e w' => e = .returned (.bool false) ∧ Below w.heap.size w w' := by
  have hg := Blk.new w 22 #[.int .u64 0, .int .u64 1, .int .u64 2, .int .u64 6, .int .u64 28]
  go_enter Try.func11, Try.ntmps11
  go_wp2_with fail
  refine (cont_no 23 _ _ hg (by decide)).mono ?_
  rintro e w' ⟨rfl, rfl⟩
  go_wp2_with fail
  go_ret
  exact ⟨rfl, (Below.refl _ _).alloc (Nat.le_refl _) _⟩
set_option maxHeartbeats 1000000 in
set_option maxRecDepth 100000 in
theorem fits_23_1 (w : World) : Calls Try.prog 11 #[.int .u64 23, .int .i64 1] w fun e w' => e = .returned (.bool false) ∧ Below w.heap.size w w' := by
  have hg := Blk.new w 22 #[.int .u64 0, .int .u64 1, .int .u64 2, .int .u64 6, .int .u64 28]
  go_enter Try.func11, Try.ntmps11
  go_wp2_with fail
  refine (cont_no 23 _ _ hg (by decide)).mono ?_
  rintro e w' ⟨rfl, rfl⟩
  go_wp2_with fail
  go_ret
  exact ⟨rfl, (Below.refl _ _).alloc (Nat.le_refl _) _⟩
set_option maxHeartbeats 1000000 in
set_option maxRecDepth 100000 in
theorem fits_23_2 (w : World) : Calls Try.prog 11 #[.int .u64 23, .int .i64 2] w fun e w' => e = .returned (.bool true) ∧ Below w.heap.size w w' := by
  go_enter Try.func11, Try.ntmps11
  go_wp2_with fail
  refine (known_23 _).mono ?_
  rintro e w' ⟨rfl, rfl⟩
  go_wp2_with fail
  go_ret
  exact ⟨rfl, Below.refl _ _⟩
set_option maxHeartbeats 1000000 in
set_option maxRecDepth 100000 in
theorem fits_23_x (l : Int) (hl : l ≠ 0 ∧ l ≠ 1 ∧ l ≠ 2) (w : World) : Calls Try.prog 11 #[.int .u64 23, .int .i64 l] w fun e w' => e = .returned (.bool false) ∧ Below w.heap.size w w' := by
  have l0 : (l == 0) = false := by simp; omega
  have l1 : (l == 1) = false := by simp; omega
  have l2 : (l == 2) = false := by simp; omega
  clear hl
  go_enter Try.func11, Try.ntmps11
  go_wp2_with fail
  go_ret
  exact ⟨rfl, Below.refl _ _⟩
set_option maxHeartbeats 1000000 in
set_option maxRecDepth 100000 in
theorem fits_24_0 (w : World) : Calls Try.prog 11 #[.int .u64 24, .int .i64 0] w fun e w' => e = .returned (.bool false) ∧ Below w.heap.size w w' := by
  have hg := Blk.new w 22 #[.int .u64 0, .int .u64 1, .int .u64 2, .int .u64 6, .int .u64 28]
  go_enter Try.func11, Try.ntmps11
  go_wp2_with fail
  refine (cont_no 24 _ _ hg (by decide)).mono ?_
  rintro e w' ⟨rfl, rfl⟩
  go_wp2_with fail
  go_ret
  exact ⟨rfl, (Below.refl _ _).alloc (Nat.le_refl _) _⟩
set_option maxHeartbeats 1000000 in
set_option maxRecDepth 100000 in
theorem fits_24_1 (w : World) : Calls Try.prog 11 #[.int .u64 24, .int .i64 1] w fun e w' => e = .returned (.bool false) ∧ Below w.heap.size w w' := by
  have hg := Blk.new w 22 #[.int .u64 0, .int .u64 1, .int .u64 2, .int .u64 6, .int .u64 28]
  go_enter Try.func11, Try.ntmps11
  go_wp2_with fail
  refine (cont_no 24 _ _ hg (by decide)).mono ?_
  rintro e w' ⟨rfl, rfl⟩
  go_wp2_with fail
  go_ret
  exact ⟨rfl, (Below.refl _ _).alloc (Nat.le_refl _) _⟩
set_option maxHeartbeats 1000000 in
set_option maxRecDepth 100000 in
theorem fits_24_2 (w : World) : Calls Try.prog 11 #[.int .u64 24, .int .i64 2] w fun e w' => e = .returned (.bool true) ∧ Below w.heap.size w w' := by
  go_enter Try.func11, Try.ntmps11
  go_wp2_with fail
  refine (known_24 _).mono ?_
  rintro e w' ⟨rfl, rfl⟩
  go_wp2_with fail
  go_ret
  exact ⟨rfl, Below.refl _ _⟩
set_option maxHeartbeats 1000000 in
set_option maxRecDepth 100000 in
theorem fits_24_x (l : Int) (hl : l ≠ 0 ∧ l ≠ 1 ∧ l ≠ 2) (w : World) : Calls Try.prog 11 #[.int .u64 24, .int .i64 l] w fun e w' => e = .returned (.bool false) ∧ Below w.heap.size w w' := by
  have l0 : (l == 0) = false := by simp; omega
  have l1 : (l == 1) = false := by simp; omega
  have l2 : (l == 2) = false := by simp; omega
  clear hl
  go_enter Try.func11, Try.ntmps11
  go_wp2_with fail
  go_ret
  exact ⟨rfl, Below.refl _ _⟩
set_option maxHeartbeats 1000000 in
set_option maxRecDepth 100000 in
theorem fits_25_0 (w : World) : Calls Try.prog 11 #[.int .u64 25, .int .i64 0] w fun e w' => e = .returned (.bool false) ∧ Below w.heap.size w w' := by
  have hg := Blk.new w 22 #[.int .u64 0, .int .u64 1, .int .u64 2, .int .u64 6, .int .u64 28]
  go_enter Try.func11, Try.ntmps11
  go_wp2_with fail
  refine (cont_no 25 _ _ hg (by decide)).mono ?_
  rintro e w' ⟨rfl, rfl⟩
  go_wp2_with fail
  go_ret
  exact ⟨rfl, (Below.refl _ _).alloc (Nat.le_refl _) _⟩
set_option maxHeartbeats 1000000 in
set_option maxRecDepth 100000 in
theorem fits_25_1 (w : World) : Calls Try.prog 11 #[.int .u64 25, .int .i64 1] w fun e w' => e = .returned (.bool false) ∧ Below w.heap.size w w' := by
  have hg := Blk.new w 22 #[.int .u64 0, .int .u64 1, .int .u64 2, .int .u64 6, .int .u64 28]
  go_enter Try.func11, Try.ntmps11
  go_wp2_with fail
  refine (cont_no 25 _ _ hg (by decide)).mono ?_
  rintro e w' ⟨rfl, rfl⟩
  go_wp2_with fail
  go_ret
  exact ⟨rfl, (Below.refl _ _).alloc (Nat.le_refl _) _⟩
set_option maxHeartbeats 1000000 in
set_option maxRecDepth 100000 in
theorem fits_25_2 (w : World) : Calls Try.prog 11 #[.int .u64 25, .int .i64 2] w fun e w' => e = .returned (.bool true) ∧ Below w.heap.size w w' := by
  go_enter Try.func11, Try.ntmps11
  go_wp2_with fail
  refine (known_25 _).mono ?_
  rintro e w' ⟨rfl, rfl⟩
  go_wp2_with fail
  go_ret
  exact ⟨rfl, Below.refl _ _⟩
set_option maxHeartbeats 1000000 in
set_option maxRecDepth 100000 in
theorem fits_25_x (l : Int) (hl : l ≠ 0 ∧ l ≠ 1 ∧ l ≠ 2) (w : World) : Calls Try.prog 11 #[.int .u64 25, .int .i64 l] w fun e w' => e = .returned (.bool false) ∧ Below w.heap.size w w' := by
  have l0 : (l == 0) = false := by simp; omega
  have l1 : (l == 1) = false := by simp; omega
  have l2 : (l == 2) = false := by simp; omega
  clear hl
  go_enter Try.func11, Try.ntmps11
  go_wp2_with fail
  go_ret
  exact ⟨rfl, Below.refl _ _⟩
set_option maxHeartbeats 1000000 in
set_option maxRecDepth 100000 in
theorem fits_26_0 (w : World) : Calls Try.prog 11 #[.int .u64 26, .int .i64 0] w fun e w' => e = .returned (.bool false) ∧ Below w.heap.size w w' := by
  have hg := Blk.new w 22 #[.int .u64 0, .int .u64 1, .int .u64 2, .int .u64 6, .int .u64 28]
  go_enter Try.func11, Try.ntmps11
  go_wp2_with fail
  refine (cont_no 26 _ _ hg (by decide)).mono ?_
  rintro e w' ⟨rfl, rfl⟩
  go_wp2_with fail
  go_ret
  exact ⟨rfl, (Below.refl _ _).alloc (Nat.le_refl _) _⟩
set_option maxHeartbeats 1000000 in
set_option maxRecDepth 100000 in
theorem fits_26_1 (w : World) : Calls Try.prog 11 #[.int .u64 26, .int .i64 1] w fun e w' => e = .returned (.bool false) ∧ Below w.heap.size w w' := by
  have hg := Blk.new w 22 #[.int .u64 0, .int .u64 1, .int .u64 2, .int .u64 6, .int .u64 28]
  go_enter Try.func11, Try.ntmps11
  go_wp2_with fail
  refine (cont_no 26 _ _ hg (by decide)).mono ?_
  rintro e w' ⟨rfl, rfl⟩
  go_wp2_with fail
  go_ret
  exact ⟨rfl, (Below.refl _ _).alloc (Nat.le_refl _) _⟩
set_option maxHeartbeats 1000000 in
set_option maxRecDepth 100000 in
theorem fits_26_2 (w : World) : Calls Try.prog 11 #[.int .u64 26, .int .i64 2] w fun e w' => e = .returned (.bool true) ∧ Below w.heap.size w w' := by
  go_enter Try.func11, Try.ntmps11
  go_wp2_with fail
  refine (known_26 _).mono ?_
  rintro e w' ⟨rfl, rfl⟩
  go_wp2_with fail
  go_ret
  exact ⟨rfl, Below.refl _ _⟩
set_option maxHeartbeats 1000000 in
set_option maxRecDepth 100000 in
theorem fits_26_x (l : Int) (hl : l ≠ 0 ∧ l ≠ 1 ∧ l ≠ 2) (w : World) : Calls Try.prog 11 #[.int .u64 26, .int .i64 l] w fun e w' => e = .returned (.bool false) ∧ Below w.heap.size w w' := by
  have l0 : (l == 0) = false := by simp; omega
  have l1 : (l == 1) = false := by simp; omega
  have l2 : (l == 2) = false := by simp; omega
  clear hl
  go_enter Try.func11, Try.ntmps11
  go_wp2_with fail
  go_ret
  exact ⟨rfl, Below.refl _ _⟩
set_option maxHeartbeats 1000000 in
set_option maxRecDepth 100000 in
theorem fits_27_0 (w : World) : Calls Try.prog 11 #[.int .u64 27, .int .i64 0] w fun e w' => e = .returned (.bool false) ∧ Below w.heap.size w w' := by
  have hg := Blk.new w 22 #[.int .u64 0, .int .u64 1, .int .u64 2, .int .u64 6, .int .u64 28]
  go_enter Try.func11, Try.ntmps11
  go_wp2_with fail
  refine (cont_no 27 _ _ hg (by decide)).mono ?_
  rintro e w' ⟨rfl, rfl⟩
  go_wp2_with fail
  go_ret
  exact ⟨rfl, (Below.refl _ _).alloc (Nat.le_refl _) _⟩
set_option maxHeartbeats 1000000 in
set_option maxRecDepth 100000 in
theorem fits_27_1 (w : World) : Calls Try.prog 11 #[.int .u64 27, .int .i64 1] w fun e w' => e = .returned (.bool false) ∧ Below w.heap.size w w' := by
  have hg := Blk.new w 22 #[.int .u64 0, .int .u64 1, .int .u64 2, .int .u64 6, .int .u64 28]
  go_enter Try.func11, Try.ntmps11
  go_wp2_with fail
  refine (cont_no 27 _ _ hg (by decide)).mono ?_
  rintro e w' ⟨rfl, rfl⟩
  go_wp2_with fail
  go_ret
  exact ⟨rfl, (Below.refl _ _).alloc (Nat.le_refl _) _⟩
set_option maxHeartbeats 1000000 in
set_option maxRecDepth 100000 in
theorem fits_27_2 (w : World) : Calls Try.prog 11 #[.int .u64 27, .int .i64 2] w fun e w' => e = .returned (.bool true) ∧ Below w.heap.size w w' := by
  go_enter Try.func11, Try.ntmps11
  go_wp2_with fail
  refine (known_27 _).mono ?_
  rintro e w' ⟨rfl, rfl⟩
  go_wp2_with fail
  go_ret
  exact ⟨rfl, Below.refl _ _⟩
set_option maxHeartbeats 1000000 in
set_option maxRecDepth 100000 in
theorem fits_27_x (l : Int) (hl : l ≠ 0 ∧ l ≠ 1 ∧ l ≠ 2) (w : World) : Calls Try.prog 11 #[.int .u64 27, .int .i64 l] w fun e w' => e = .returned (.bool false) ∧ Below w.heap.size w w' := by
  have l0 : (l == 0) = false := by simp; omega
  have l1 : (l == 1) = false := by simp; omega
  have l2 : (l == 2) = false := by simp; omega
  clear hl
  go_enter Try.func11, Try.ntmps11
  go_wp2_with fail
  go_ret
  exact ⟨rfl, Below.refl _ _⟩
set_option maxHeartbeats 1000000 in
set_option maxRecDepth 100000 in
theorem fits_28_0 (w : World) : Calls Try.prog 11 #[.int .u64 28, .int .i64 0] w fun e w' => e = .returned (.bool true) ∧ Below w.heap.size w w' := by
  have hg := Blk.new w 22 #[.int .u64 0, .int .u64 1, .int .u64 2, .int .u64 6, .int .u64 28]
  go_enter Try.func11, Try.ntmps11
  go_wp2_with fail
  refine (cont_28 _ _ hg).mono ?_
  rintro e w' ⟨rfl, rfl⟩
  go_wp2_with fail
  go_ret
  exact ⟨rfl, (Below.refl _ _).alloc (Nat.le_refl _) _⟩
set_option maxHeartbeats 1000000 in
set_option maxRecDepth 100000 in
theorem fits_28_1 (w : World) : Calls Try.prog 11 #[.int .u64 28, .int .i64 1] w fun e w' => e = .returned (.bool true) ∧ Below w.heap.size w w' := by
  have hg := Blk.new w 22 #[.int .u64 0, .int .u64 1, .int .u64 2, .int .u64 6, .int .u64 28]
  go_enter Try.func11, Try.ntmps11
  go_wp2_with fail
  refine (cont_28 _ _ hg).mono ?_
  rintro e w' ⟨rfl, rfl⟩
  go_wp2_with fail
  go_ret
  exact ⟨rfl, (Below.refl _ _).alloc (Nat.le_refl _) _⟩
set_option maxHeartbeats 1000000 in
set_option maxRecDepth 100000 in
theorem fits_28_2 (w : World) : Calls Try.prog 11 #[.int .u64 28, .int .i64 2] w fun e w' => e = .returned (.bool true) ∧ Below w.heap.size w w' := by
  go_enter Try.func11, Try.ntmps11
  go_wp2_with fail
  refine (known_28 _).mono ?_
  rintro e w' ⟨rfl, rfl⟩
  go_wp2_with fail
  go_ret
  exact ⟨rfl, Below.refl _ _⟩
set_option maxHeartbeats 1000000 in
set_option maxRecDepth 100000 in
theorem fits_28_x (l : Int) (hl : l ≠ 0 ∧ l ≠ 1 ∧ l ≠ 2) (w : World) : Calls Try.prog 11 #[.int .u64 28, .int .i64 l] w fun e w' => e = .returned (.bool false) ∧ Below w.heap.size w w' := by
  have l0 : (l == 0) = false := by simp; omega
  have l1 : (l == 1) = false := by simp; omega
  have l2 : (l == 2) = false := by simp; omega
  clear hl
  go_enter Try.func11, Try.ntmps11
  go_wp2_with fail
  go_ret
  exact ⟨rfl, Below.refl _ _⟩
set_option maxHeartbeats 1000000 in
set_option maxRecDepth 100000 in
theorem fits_29_0 (w : World) : Calls Try.prog 11 #[.int .u64 29, .int .i64 0] w fun e w' => e = .returned (.bool false) ∧ Below w.heap.size w w' := by
  have hg := Blk.new w 22 #[.int .u64 0, .int .u64 1, .int .u64 2, .int .u64 6, .int .u64 28]
  go_enter Try.func11, Try.ntmps11
  go_wp2_with fail
  refine (cont_no 29 _ _ hg (by decide)).mono ?_
  rintro e w' ⟨rfl, rfl⟩
  go_wp2_with fail
  go_ret
  exact ⟨rfl, (Below.refl _ _).alloc (Nat.le_refl _) _⟩
set_option maxHeartbeats 1000000 in
set_option maxRecDepth 100000 in
theorem fits_29_1 (w : World) : Calls Try.prog 11 #[.int .u64 29, .int .i64 1] w fun e w' => e = .returned (.bool false) ∧ Below w.heap.size w w' := by
  have hg := Blk.new w 22 #[.int .u64 0, .int .u64 1, .int .u64 2, .int .u64 6, .int .u64 28]
  go_enter Try.func11, Try.ntmps11
  go_wp2_with fail
  refine (cont_no 29 _ _ hg (by decide)).mono ?_
  rintro e w' ⟨rfl, rfl⟩
  go_wp2_with fail
  go_ret
  exact ⟨rfl, (Below.refl _ _).alloc (Nat.le_refl _) _⟩
set_option maxHeartbeats 1000000 in
set_option maxRecDepth 100000 in
theorem fits_29_2 (w : World) : Calls Try.prog 11 #[.int .u64 29, .int .i64 2] w fun e w' => e = .returned (.bool true) ∧ Below w.heap.size w w' := by
  go_enter Try.func11, Try.ntmps11
  go_wp2_with fail
  refine (known_29 _).mono ?_
  rintro e w' ⟨rfl, rfl⟩
  go_wp2_with fail
  go_ret
  exact ⟨rfl, Below.refl _ _⟩
set_option maxHeartbeats 1000000 in
set_option maxRecDepth 100000 in
theorem fits_29_x (l : Int) (hl : l ≠ 0 ∧ l ≠ 1 ∧ l ≠ 2) (w : World) : Calls Try.prog 11 #[.int .u64 29, .int .i64 l] w fun e w' => e = .returned (.bool false) ∧ Below w.heap.size w w' := by
  have l0 : (l == 0) = false := by simp; omega
  have l1 : (l == 1) = false := by simp; omega
  have l2 : (l == 2) = false := by simp; omega
  clear hl
  go_enter Try.func11, Try.ntmps11
  go_wp2_with fail
  go_ret
  exact ⟨rfl, Below.refl _ _⟩
set_option maxHeartbeats 1000000 in
set_option maxRecDepth 100000 in
theorem fits_30_0 (w : World) : Calls Try.prog 11 #[.int .u64 30, .int .i64 0] w fun e w' => e = .returned (.bool false) ∧ Below w.heap.size w w' := by
  have hg := Blk.new w 22 #[.int .u64 0, .int .u64 1, .int .u64 2, .int .u64 6, .int .u64 28]
  go_enter Try.func11, Try.ntmps11
  go_wp2_with fail
  refine (cont_no 30 _ _ hg (by decide)).mono ?_
  rintro e w' ⟨rfl, rfl⟩
  go_wp2_with fail
  go_ret
  exact ⟨rfl, (Below.refl _ _).alloc (Nat.le_refl _) _⟩
set_option maxHeartbeats 1000000 in
set_option maxRecDepth 100000 in
theorem fits_30_1 (w : World) : Calls Try.prog 11 #[.int .u64 30, .int .i64 1] w fun e w' => e = .returned (.bool false) ∧ Below w.heap.size w w' := by
  have hg := Blk.new w 22 #[.int .u64 0, .int .u64 1, .int .u64 2, .int .u64 6, .int .u64 28]
  go_enter Try.func11, Try.ntmps11
  go_wp2_with fail
  refine (cont_no 30 _ _ hg (by decide)).mono ?_
  rintro e w' ⟨rfl, rfl⟩
  go_wp2_with fail
  go_ret
  exact ⟨rfl, (Below.refl _ _).alloc (Nat.le_refl _) _⟩
set_option maxHeartbeats 1000000 in
set_option maxRecDepth 100000 in
theorem fits_30_2 (w : World) : Calls Try.prog 11 #[.int .u64 30, .int .i64 2] w fun e w' => e = .returned (.bool true) ∧ Below w.heap.size w w' := by
  go_enter Try.func11, Try.ntmps11
  go_wp2_with fail
  refine (known_30 _).mono ?_
  rintro e w' ⟨rfl, rfl⟩
  go_wp2_with fail
  go_ret
  exact ⟨rfl, Below.refl _ _⟩
set_option maxHeartbeats 1000000 in
set_option maxRecDepth 100000 in
theorem fits_30_x (l : Int) (hl : l ≠ 0 ∧ l ≠ 1 ∧ l ≠ 2) (w : World) : Calls Try.prog 11 #[.int .u64 30, .int .i64 l] w fun e w' => e = .returned (.bool false) ∧ Below w.heap.size w w' := by
  have l0 : (l == 0) = false := by simp; omega
  have l1 : (l == 1) = false := by simp; omega
  have l2 : (l == 2) = false := by simp; omega
  clear hl
  go_enter Try.func11, Try.ntmps11
  go_wp2_with fail
  go_ret
  exact ⟨rfl, Below.refl _ _⟩
set_option maxHeartbeats 1000000 in
set_option maxRecDepth 100000 in
theorem fits_48_0 (w : World) : Calls Try.prog 11 #[.int .u64 48, .int .i64 0] w fun e w' => e = .returned (.bool false) ∧ Below w.heap.size w w' := by
  have hg := Blk.new w 22 #[.int .u64 0, .int .u64 1, .int .u64 2, .int .u64 6, .int .u64 28]
  go_enter Try.func11, Try.ntmps11
  go_wp2_with fail
  refine (cont_no 48 _ _ hg (by decide)).mono ?_
  rintro e w' ⟨rfl, rfl⟩
  go_wp2_with fail
  go_ret
  exact ⟨rfl, (Below.refl _ _).alloc (Nat.le_refl _) _⟩
set_option maxHeartbeats 1000000 in
set_option maxRecDepth 100000 in
theorem fits_48_1 (w : World) : Calls Try.prog 11 #[.int .u64 48, .int .i64 1] w fun e w' => e = .returned (.bool false) ∧ Below w.heap.size w w' := by
  have hg := Blk.new w 22 #[.int .u64 0, .int .u64 1, .int .u64 2, .int .u64 6, .int .u64 28]
  go_enter Try.func11, Try.ntmps11
  go_wp2_with fail
  refine (cont_no 48 _ _ hg (by decide)).mono ?_
  rintro e w' ⟨rfl, rfl⟩
  go_wp2_with fail
  go_ret
  exact ⟨rfl, (Below.refl _ _).alloc (Nat.le_refl _) _⟩
set_option maxHeartbeats 1000000 in
set_option maxRecDepth 100000 in
theorem fits_48_2 (w : World) : Calls Try.prog 11 #[.int .u64 48, .int .i64 2] w fun e w' => e = .returned (.bool true) ∧ Below w.heap.size w w' := by
  go_enter Try.func11, Try.ntmps11
  go_wp2_with fail
  refine (known_48 _).mono ?_
  rintro e w' ⟨rfl, rfl⟩
  go_wp2_with fail
  go_ret
  exact ⟨rfl, Below.refl _ _⟩
set_option maxHeartbeats 1000000 in
set_option maxRecDepth 100000 in
theorem fits_48_x (l : Int) (hl : l ≠ 0 ∧ l ≠ 1 ∧ l ≠ 2) (w : World) : Calls Try.prog 11 #[.int .u64 48, .int .i64 l] w fun e w' => e = .returned (.bool false) ∧ Below w.heap.size w w' := by
  have l0 : (l == 0) = false := by simp; omega
  have l1 : (l == 1) = false := by simp; omega
  have l2 : (l == 2) = false := by simp; omega
  clear hl
  go_enter Try.func11, Try.ntmps11
  go_wp2_with fail
  go_ret
  exact ⟨rfl, Below.refl _ _⟩
set_option maxHeartbeats 1000000 in
set_option maxRecDepth 100000 in
theorem fits_no_0 (k : Int) (w : World) (h : Other k) : Calls Try.prog 11 #[.int .u64 k, .int .i64 0] w fun e w' => e = .returned (.bool false) ∧ Below w.heap.size w w' := by
  have hg := Blk.new w 22 #[.int .u64 0, .int .u64 1, .int .u64 2, .int .u64 6, .int .u64 28]
  go_enter Try.func11, Try.ntmps11
  go_wp2_with fail
  refine (cont_no k _ _ hg ⟨h.ne 0 (by decide), h.ne 1 (by decide), h.ne 2 (by decide), h.ne 6 (by decide), h.ne 28 (by decide)⟩).mono ?_
  rintro e w' ⟨rfl, rfl⟩
  go_wp2_with fail
  go_ret
  exact ⟨rfl, (Below.refl _ _).alloc (Nat.le_refl _) _⟩
set_option maxHeartbeats 1000000 in
set_option maxRecDepth 100000 in
theorem fits_no_1 (k : Int) (w : World) (h : Other k) : Calls Try.prog 11 #[.int .u64 k, .int .i64 1] w fun e w' => e = .returned (.bool false) ∧ Below w.heap.size w w' := by
  have hg := Blk.new w 22 #[.int .u64 0, .int .u64 1, .int .u64 2, .int .u64 6, .int .u64 28]
  go_enter Try.func11, Try.ntmps11
  go_wp2_with fail
  refine (cont_no k _ _ hg ⟨h.ne 0 (by decide), h.ne 1 (by decide), h.ne 2 (by decide), h.ne 6 (by decide), h.ne 28 (by decide)⟩).mono ?_
  rintro e w' ⟨rfl, rfl⟩
  go_wp2_with fail
  go_ret
  exact ⟨rfl, (Below.refl _ _).alloc (Nat.le_refl _) _⟩
set_option maxHeartbeats 1000000 in
set_option maxRecDepth 100000 in
theorem fits_no_2 (k : Int) (w : World) (h : Other k) : Calls Try.prog 11 #[.int .u64 k, .int .i64 2] w fun e w' => e = .returned (.bool false) ∧ Below w.heap.size w w' := by
  go_enter Try.func11, Try.ntmps11
  go_wp2_with fail
  refine (known_no k _ h).mono ?_
  rintro e w' ⟨rfl, rfl⟩
  go_wp2_with fail
  go_ret
  exact ⟨rfl, Below.refl _ _⟩
set_option maxHeartbeats 1000000 in
set_option maxRecDepth 100000 in
theorem fits_no_x (k : Int) (l : Int) (hl : l ≠ 0 ∧ l ≠ 1 ∧ l ≠ 2) (w : World) (h : Other k) : Calls Try.prog 11 #[.int .u64 k, .int .i64 l] w fun e w' => e = .returned (.bool false) ∧ Below w.heap.size w w' := by
  have l0 : (l == 0) = false := by simp; omega
  have l1 : (l == 1) = false := by simp; omega
  have l2 : (l == 2) = false := by simp; omega
  clear hl
  go_enter Try.func11, Try.ntmps11
  go_wp2_with fail
  go_ret
  exact ⟨rfl, Below.refl _ _⟩

end Go.Proofs.Ytbigbnfllkacoaa
