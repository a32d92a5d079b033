/-
  A frame's fields: set, a number of the reader, the kind; a ResetStream that is right.
-/
import Derived.Test.YtbigbnfllkacoaaDoorVref
import Derived.Test.YtbigbnfllkacoaaDoorFawk
namespace Go.Proofs.YtbigbnfllkacoaaDoor
open Go.RowKit
set_option linter.unusedVariables false
set_option linter.unusedSimpArgs false


set_option maxHeartbeats 4000000 in
set_option maxRecDepth 100000 in
theorem numbers4 (w : World) : Calls Tryd.prog 24 #[.int .u64 4] w fun e w' => e = .returned (.tuple #[.string ⟨#[105, 99, 111]⟩, .bool false, .bool true]) ∧ w = w' := by
  go_enter Tryd.func24, Tryd.ntmps24
  go_wp2_with fail
  go_ret3
  exact ⟨rfl, rfl⟩
set_option maxHeartbeats 4000000 in
set_option maxRecDepth 100000 in
theorem kind4 (w : World) : Calls Tryd.prog 35 #[.int .u64 4] w fun e w' => e = .returned (.tuple #[.int .u64 4, .int .u64 0, .bool true]) ∧ w = w' := by
  go_enter Tryd.func35, Tryd.ntmps35
  go_wp2_with fail
  go_ret3
  exact ⟨rfl, rfl⟩
set_option maxHeartbeats 4000000 in
set_option maxRecDepth 100000 in
theorem setI (k i o n c x : Int) (w : World) : Calls Tryd.prog 47 #[.agg #[.int .u64 k, .int .u64 i, .int .u64 o, .int .u64 n, .int .u64 c, .bool false, .slice none 0 0, .slice none 0 0, .slice none 0 0], .int .u8 105, .int .u64 x] w fun e w' => e = .returned (.agg #[.int .u64 k, .int .u64 x, .int .u64 o, .int .u64 n, .int .u64 c, .bool false, .slice none 0 0, .slice none 0 0, .slice none 0 0]) ∧ Below w.heap.size w w' := by
  go_enter Tryd.func47, Tryd.ntmps47
  go_wp2_with fail
  refine bodyPost_ret (v := .agg #[.int .u64 k, .int .u64 x, .int .u64 o, .int .u64 n, .int .u64 c, .bool false, .slice none 0 0, .slice none 0 0, .slice none 0 0]) (by simp [results, Tryd.results47, go_sem]) rfl ?_
  exact ⟨rfl, ((Below.refl _ _).alloc (Nat.le_refl _) _).alloc (by simp) _⟩
set_option maxHeartbeats 4000000 in
set_option maxRecDepth 100000 in
theorem setC (k i o n c x : Int) (w : World) : Calls Tryd.prog 47 #[.agg #[.int .u64 k, .int .u64 i, .int .u64 o, .int .u64 n, .int .u64 c, .bool false, .slice none 0 0, .slice none 0 0, .slice none 0 0], .int .u8 99, .int .u64 x] w fun e w' => e = .returned (.agg #[.int .u64 k, .int .u64 i, .int .u64 o, .int .u64 n, .int .u64 x, .bool false, .slice none 0 0, .slice none 0 0, .slice none 0 0]) ∧ Below w.heap.size w w' := by
  go_enter Tryd.func47, Tryd.ntmps47
  go_wp2_with fail
  refine bodyPost_ret (v := .agg #[.int .u64 k, .int .u64 i, .int .u64 o, .int .u64 n, .int .u64 x, .bool false, .slice none 0 0, .slice none 0 0, .slice none 0 0]) (by simp [results, Tryd.results47, go_sem]) rfl ?_
  exact ⟨rfl, ((Below.refl _ _).alloc (Nat.le_refl _) _).alloc (by simp) _⟩
set_option maxHeartbeats 4000000 in
set_option maxRecDepth 100000 in
theorem setO (k i o n c x : Int) (w : World) : Calls Tryd.prog 47 #[.agg #[.int .u64 k, .int .u64 i, .int .u64 o, .int .u64 n, .int .u64 c, .bool false, .slice none 0 0, .slice none 0 0, .slice none 0 0], .int .u8 111, .int .u64 x] w fun e w' => e = .returned (.agg #[.int .u64 k, .int .u64 i, .int .u64 x, .int .u64 n, .int .u64 c, .bool false, .slice none 0 0, .slice none 0 0, .slice none 0 0]) ∧ Below w.heap.size w w' := by
  go_enter Tryd.func47, Tryd.ntmps47
  go_wp2_with fail
  refine bodyPost_ret (v := .agg #[.int .u64 k, .int .u64 i, .int .u64 x, .int .u64 n, .int .u64 c, .bool false, .slice none 0 0, .slice none 0 0, .slice none 0 0]) (by simp [results, Tryd.results47, go_sem]) rfl ?_
  exact ⟨rfl, ((Below.refl _ _).alloc (Nat.le_refl _) _).alloc (by simp) _⟩

end Go.Proofs.YtbigbnfllkacoaaDoor
