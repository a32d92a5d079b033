/-
  The document's examples: a Stream, an Ack.
-/
import Derived.Test.YtbigbnfllkacoaaDoorFnum
import Derived.Test.YtbigbnfllkacoaaDoorRegion
namespace Go.Proofs.YtbigbnfllkacoaaDoor
open Go.RowKit
set_option linter.unusedVariables false
set_option linter.unusedSimpArgs false


theorem numbers8 (w : World) : Calls Tryd.prog 24 #[.int .u64 8] w fun e w' => e = .returned (.tuple #[.string ⟨#[]⟩, .bool false, .bool false]) ∧ w = w' := by
  go_enter Tryd.func24, Tryd.ntmps24
  go_wp2_with fail
  go_ret3
  exact ⟨rfl, rfl⟩

theorem numbers2 (w : World) : Calls Tryd.prog 24 #[.int .u64 2] w fun e w' => e = .returned (.tuple #[.string ⟨#[]⟩, .bool false, .bool false]) ∧ w = w' := by
  go_enter Tryd.func24, Tryd.ntmps24
  go_wp2_with fail
  go_ret3
  exact ⟨rfl, rfl⟩

set_option maxHeartbeats 2000000 in
set_option maxRecDepth 100000 in
theorem clear8 (Ad : Option Addr) (cd : Nat) (w : World) : Calls Tryd.prog 39 #[.agg #[.int .u64 8, .int .u64 4, .int .u64 0, .int .u64 0, .int .u64 0, .bool true, .slice Ad 2 cd, .slice none 0 0, .slice none 0 0]] w fun e w' => e = .returned (.bool true) ∧ Below w.heap.size w w' := by
  go_enter Tryd.func39, Tryd.ntmps39
  go_wp2_with fail
  refine (numbers8 _).mono ?_
  rintro e w1 ⟨rfl, rfl⟩
  go_wp2_with fail
  refine wp_loop_rounds 1 ?_
  rw [rounds_succ]
  go_wp2_with fail
  go_ret
  exact ⟨rfl, (Below.refl _ _).alloc (Nat.le_refl _) _⟩

set_option maxHeartbeats 2000000 in
set_option maxRecDepth 100000 in
theorem clear2 (g : Nat) (w : World) : Calls Tryd.prog 39 #[.agg #[.int .u64 2, .int .u64 0, .int .u64 0, .int .u64 0, .int .u64 0, .bool false, .slice none 0 0, .slice none 0 0, .slice (some ⟨g, 0, none⟩) 2 2]] w fun e w' => e = .returned (.bool true) ∧ Below w.heap.size w w' := by
  go_enter Tryd.func39, Tryd.ntmps39
  go_wp2_with fail
  refine (numbers2 _).mono ?_
  rintro e w1 ⟨rfl, rfl⟩
  go_wp2_with fail
  refine wp_loop_rounds 1 ?_
  rw [rounds_succ]
  go_wp2_with fail
  go_ret
  exact ⟨rfl, (Below.refl _ _).alloc (Nat.le_refl _) _⟩

set_option maxHeartbeats 2000000 in
set_option maxRecDepth 100000 in
theorem falling2 (g : Nat) (w : World) (hg : Blk w g 56 #[.int .u64 7, .int .u64 9, .int .u64 4, .int .u64 4]) : Calls Tryd.prog 40 #[.slice (some ⟨g, 0, none⟩) 2 2] w fun e w' => e = .returned (.bool true) ∧ Below w.heap.size w w' := by
  have c0 : w.cell? ⟨g, 0, none⟩ = some (.int .u64 7) := hg.cell 0
  have c1 : w.cell? ⟨g, 1, none⟩ = some (.int .u64 9) := hg.cell 1
  have c2 : w.cell? ⟨g, 2, none⟩ = some (.int .u64 4) := hg.cell 2
  have c3 : w.cell? ⟨g, 3, none⟩ = some (.int .u64 4) := hg.cell 3
  have hlt := hg.lt
  go_enter Tryd.func40, Tryd.ntmps40
  go_wp2_with fail
  refine wp_loop_rounds 3 ?_
  rw [rounds_succ]
  go_wp2_with fail
  go_quiet (fail)
  go_wp2_with fail
  rw [rounds_succ]
  go_wp2_with fail
  go_quiet (fail)
  go_wp2_with fail
  rw [rounds_succ]
  go_wp2_with fail
  go_ret
  refine ⟨rfl, ?_⟩
  repeat (first | with_reducible exact Below.refl _ _ | refine below_drewN ?_ _ | refine (Below.alloc ?_ ?_ _))
  all_goals simp

set_option maxHeartbeats 2000000 in
set_option maxRecDepth 100000 in
theorem right8 (Ad : Option Addr) (cd : Nat) (w : World)  : Calls Tryd.prog 22 #[.agg #[.int .u64 8, .int .u64 4, .int .u64 0, .int .u64 0, .int .u64 0, .bool true, .slice Ad 2 cd, .slice none 0 0, .slice none 0 0]] w fun e w' => e = .returned (.bool true) ∧ Below w.heap.size w w' := by
  have hO := Blk.new w 26 #[.int .u64 8, .int .u64 4, .int .u64 0, .int .u64 0, .int .u64 0, .bool true, .slice Ad 2 cd, .slice none 0 0, .slice none 0 0]
  have hB := (Below.refl w.heap.size w).alloc (Nat.le_refl _) (.cells #[.int .u64 8, .int .u64 4, .int .u64 0, .int .u64 0, .int .u64 0, .bool true, .slice Ad 2 cd, .slice none 0 0, .slice none 0 0] 26)
  go_enter Tryd.func22, Tryd.ntmps22
  go_wp2_with fail
  refine (clear8 Ad cd _).mono ?_
  rintro e w1 ⟨rfl, hb1⟩
  have hO1 := hO.same hb1
  have hB1 := hB.trans (hb1.mono hB.size)
  have hmx : ∀ w, (Builtin.max_ #[22, 22, 22, 22] 22 #[.int .u64 4, .int .u64 0, .int .u64 0, .int .u64 0]).run Tryd.prog w = .ok (.int .u64 4) w := fun _ => by kernel_rfl
  skip
  clear hO hB hb1
  have c0 : World.cell? w1 ⟨w.heap.size, 0, none⟩ = some (.int .u64 8) := hO1.cell 0
  have c1 : World.cell? w1 ⟨w.heap.size, 1, none⟩ = some (.int .u64 4) := hO1.cell 1
  have c2 : World.cell? w1 ⟨w.heap.size, 2, none⟩ = some (.int .u64 0) := hO1.cell 2
  have c3 : World.cell? w1 ⟨w.heap.size, 3, none⟩ = some (.int .u64 0) := hO1.cell 3
  have c4 : World.cell? w1 ⟨w.heap.size, 4, none⟩ = some (.int .u64 0) := hO1.cell 4
  have c5 : World.cell? w1 ⟨w.heap.size, 5, none⟩ = some (.bool true) := hO1.cell 5
  have c6 : World.cell? w1 ⟨w.heap.size, 6, none⟩ = some (.slice Ad 2 cd) := hO1.cell 6
  have c7 : World.cell? w1 ⟨w.heap.size, 7, none⟩ = some (.slice none 0 0) := hO1.cell 7
  have c8 : World.cell? w1 ⟨w.heap.size, 8, none⟩ = some (.slice none 0 0) := hO1.cell 8
  go_wp2_with fail
  go_ret
  exact ⟨rfl, hB1⟩

set_option maxHeartbeats 2000000 in
set_option maxRecDepth 100000 in
theorem right2 (g : Nat) (w : World) (hg : Blk w g 56 #[.int .u64 7, .int .u64 9, .int .u64 4, .int .u64 4]) : Calls Tryd.prog 22 #[.agg #[.int .u64 2, .int .u64 0, .int .u64 0, .int .u64 0, .int .u64 0, .bool false, .slice none 0 0, .slice none 0 0, .slice (some ⟨g, 0, none⟩) 2 2]] w fun e w' => e = .returned (.bool true) ∧ Below w.heap.size w w' := by
  have hO := Blk.new w 26 #[.int .u64 2, .int .u64 0, .int .u64 0, .int .u64 0, .int .u64 0, .bool false, .slice none 0 0, .slice none 0 0, .slice (some ⟨g, 0, none⟩) 2 2]
  have hg0 := hg.alloc (.cells #[.int .u64 2, .int .u64 0, .int .u64 0, .int .u64 0, .int .u64 0, .bool false, .slice none 0 0, .slice none 0 0, .slice (some ⟨g, 0, none⟩) 2 2] 26)
  have hB := (Below.refl w.heap.size w).alloc (Nat.le_refl _) (.cells #[.int .u64 2, .int .u64 0, .int .u64 0, .int .u64 0, .int .u64 0, .bool false, .slice none 0 0, .slice none 0 0, .slice (some ⟨g, 0, none⟩) 2 2] 26)
  go_enter Tryd.func22, Tryd.ntmps22
  go_wp2_with fail
  refine (clear2 g _).mono ?_
  rintro e w1 ⟨rfl, hb1⟩
  have hO1 := hO.same hb1
  have hB1 := hB.trans (hb1.mono hB.size)
  have hmx : ∀ w, (Builtin.max_ #[22, 22, 22, 22] 22 #[.int .u64 0, .int .u64 0, .int .u64 0, .int .u64 0]).run Tryd.prog w = .ok (.int .u64 0) w := fun _ => by kernel_rfl
  have hg1 := hg0.same hb1
  clear hO hB hb1 hg0 hg
  have c0 : World.cell? w1 ⟨w.heap.size, 0, none⟩ = some (.int .u64 2) := hO1.cell 0
  have c1 : World.cell? w1 ⟨w.heap.size, 1, none⟩ = some (.int .u64 0) := hO1.cell 1
  have c2 : World.cell? w1 ⟨w.heap.size, 2, none⟩ = some (.int .u64 0) := hO1.cell 2
  have c3 : World.cell? w1 ⟨w.heap.size, 3, none⟩ = some (.int .u64 0) := hO1.cell 3
  have c4 : World.cell? w1 ⟨w.heap.size, 4, none⟩ = some (.int .u64 0) := hO1.cell 4
  have c5 : World.cell? w1 ⟨w.heap.size, 5, none⟩ = some (.bool false) := hO1.cell 5
  have c6 : World.cell? w1 ⟨w.heap.size, 6, none⟩ = some (.slice none 0 0) := hO1.cell 6
  have c7 : World.cell? w1 ⟨w.heap.size, 7, none⟩ = some (.slice none 0 0) := hO1.cell 7
  have c8 : World.cell? w1 ⟨w.heap.size, 8, none⟩ = some (.slice (some ⟨g, 0, none⟩) 2 2) := hO1.cell 8
  go_wp2_with fail
  refine (falling2 g _ hg1).mono ?_
  rintro e w2 ⟨rfl, hb2⟩
  have hB2 := hB1.trans (hb2.mono hB1.size)
  go_wp2_with fail
  go_ret
  exact ⟨rfl, hB2⟩

end Go.Proofs.YtbigbnfllkacoaaDoor
