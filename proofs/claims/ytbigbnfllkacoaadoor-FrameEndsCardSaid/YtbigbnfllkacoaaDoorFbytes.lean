/-
  Bytes of the two examples.
-/
import Derived.Test.YtbigbnfllkacoaaDoorFack
namespace Go.Proofs.YtbigbnfllkacoaaDoor
open Go.RowKit
set_option linter.unusedVariables false
set_option linter.unusedSimpArgs false


set_option maxHeartbeats 2000000 in
set_option maxRecDepth 100000 in
theorem bytes8 (Ad : Option Addr) (cd : Nat) (w : World) (hr : Rd w .u8 (.slice Ad 2 cd) [97, 98]) : Calls Tryd.prog 10 #[.agg #[.int .u64 8, .int .u64 4, .int .u64 0, .int .u64 0, .int .u64 0, .bool true, .slice Ad 2 cd, .slice none 0 0, .slice none 0 0]] w fun e w' => ∃ v, e = .returned (.tuple #[v, .int .i64 0]) ∧ Rd w' .u8 v [11, 4, 2, 97, 98] ∧ Below w.heap.size w w' := by
  obtain ⟨i0, hi, hz0, hz1, hz2⟩ := info_parts infoB
  have hO := Blk.new w 26 #[.int .u64 8, .int .u64 4, .int .u64 0, .int .u64 0, .int .u64 0, .bool true, .slice Ad 2 cd, .slice none 0 0, .slice none 0 0]
  have hr := hr.alloc (.cells #[.int .u64 8, .int .u64 4, .int .u64 0, .int .u64 0, .int .u64 0, .bool true, .slice Ad 2 cd, .slice none 0 0, .slice none 0 0] 26)
  have hB := (Below.refl w.heap.size w).alloc (Nat.le_refl _) (.cells #[.int .u64 8, .int .u64 4, .int .u64 0, .int .u64 0, .int .u64 0, .bool true, .slice Ad 2 cd, .slice none 0 0, .slice none 0 0] 26)
  have c0 : World.cell? _ ⟨w.heap.size, 0, none⟩ = some (.int .u64 8) := hO.cell 0
  have c1 : World.cell? _ ⟨w.heap.size, 1, none⟩ = some (.int .u64 4) := hO.cell 1
  have c2 : World.cell? _ ⟨w.heap.size, 2, none⟩ = some (.int .u64 0) := hO.cell 2
  have c3 : World.cell? _ ⟨w.heap.size, 3, none⟩ = some (.int .u64 0) := hO.cell 3
  have c4 : World.cell? _ ⟨w.heap.size, 4, none⟩ = some (.int .u64 0) := hO.cell 4
  have c5 : World.cell? _ ⟨w.heap.size, 5, none⟩ = some (.bool true) := hO.cell 5
  have c6 : World.cell? _ ⟨w.heap.size, 6, none⟩ = some (.slice Ad 2 cd) := hO.cell 6
  have c7 : World.cell? _ ⟨w.heap.size, 7, none⟩ = some (.slice none 0 0) := hO.cell 7
  have c8 : World.cell? _ ⟨w.heap.size, 8, none⟩ = some (.slice none 0 0) := hO.cell 8
  go_enter Tryd.func10, Tryd.ntmps10
  go_wp2_with fail
  refine (right8 Ad cd _).mono ?_
  rintro e w1 ⟨rfl, hb⟩
  have hO := hO.same hb
  have hr := hr.below hb
  have hB := hB.trans (hb.mono hB.size)
  clear hb c0 c1 c2 c3 c4 c5 c6 c7 c8
  have c0 : World.cell? w1 ⟨w.heap.size, 0, none⟩ = some (.int .u64 8) := hO.cell 0
  have c1 : World.cell? w1 ⟨w.heap.size, 1, none⟩ = some (.int .u64 4) := hO.cell 1
  have c2 : World.cell? w1 ⟨w.heap.size, 2, none⟩ = some (.int .u64 0) := hO.cell 2
  have c3 : World.cell? w1 ⟨w.heap.size, 3, none⟩ = some (.int .u64 0) := hO.cell 3
  have c4 : World.cell? w1 ⟨w.heap.size, 4, none⟩ = some (.int .u64 0) := hO.cell 4
  have c5 : World.cell? w1 ⟨w.heap.size, 5, none⟩ = some (.bool true) := hO.cell 5
  have c6 : World.cell? w1 ⟨w.heap.size, 6, none⟩ = some (.slice Ad 2 cd) := hO.cell 6
  have c7 : World.cell? w1 ⟨w.heap.size, 7, none⟩ = some (.slice none 0 0) := hO.cell 7
  have c8 : World.cell? w1 ⟨w.heap.size, 8, none⟩ = some (.slice none 0 0) := hO.cell 8
  have hL := show Rd (w1.alloc (.cells #[.int .u64 8] 22)) .u64 (.slice (some ⟨w1.heap.size, 0, none⟩) 1 1) [8] from rd_lit_at rfl [8] (by simp)
  have hO1 := hO.alloc (.cells #[.int .u64 8] 22)
  have hr1 := hr.alloc (.cells #[.int .u64 8] 22)
  have hB1 := hB.alloc hB.size (.cells #[.int .u64 8] 22)
  go_wp2_with fail
  refine (join_lit [8] [8] 1 _ rfl (by decide) (by decide) (by decide) j8 _ hL).mono ?_
  rintro e w2 ⟨v2, rfl, ho, hb⟩
  have hO := hO1.same hb
  have hr := hr1.below hb
  have hB := hB1.trans (hb.mono hB1.size)
  have ho := own_base ho hB1.size
  clear hb hL hO1 hr1 hB1 c0 c1 c2 c3 c4 c5 c6 c7 c8
  have c0 : World.cell? w2 ⟨w.heap.size, 0, none⟩ = some (.int .u64 8) := hO.cell 0
  have c1 : World.cell? w2 ⟨w.heap.size, 1, none⟩ = some (.int .u64 4) := hO.cell 1
  have c2 : World.cell? w2 ⟨w.heap.size, 2, none⟩ = some (.int .u64 0) := hO.cell 2
  have c3 : World.cell? w2 ⟨w.heap.size, 3, none⟩ = some (.int .u64 0) := hO.cell 3
  have c4 : World.cell? w2 ⟨w.heap.size, 4, none⟩ = some (.int .u64 0) := hO.cell 4
  have c5 : World.cell? w2 ⟨w.heap.size, 5, none⟩ = some (.bool true) := hO.cell 5
  have c6 : World.cell? w2 ⟨w.heap.size, 6, none⟩ = some (.slice Ad 2 cd) := hO.cell 6
  have c7 : World.cell? w2 ⟨w.heap.size, 7, none⟩ = some (.slice none 0 0) := hO.cell 7
  have c8 : World.cell? w2 ⟨w.heap.size, 8, none⟩ = some (.slice none 0 0) := hO.cell 8
  go_wp2_with fail
  refine (numbers8 _).mono ?_
  rintro e w3 ⟨rfl, rfl⟩
  go_wp2_with fail
  refine wp_loop_rounds 1 ?_
  rw [rounds_succ]
  go_wp2_with fail
  refine (stream8 Ad cd _ hr).mono ?_
  rintro e w3 ⟨v3, rfl, ho3, hb⟩
  have hB := hB.trans (hb.mono hB.size)
  go_wp2_with fail
  go_ret2
  exact ⟨v3, rfl, rd_of_own (k := .u8) (l := [11, 4, 2, 97, 98]) ho3, hB⟩

set_option maxHeartbeats 2000000 in
set_option maxRecDepth 100000 in
theorem bytes2 (g : Nat) (w : World) (hg : Blk w g 56 #[.int .u64 7, .int .u64 9, .int .u64 4, .int .u64 4]) : Calls Tryd.prog 10 #[.agg #[.int .u64 2, .int .u64 0, .int .u64 0, .int .u64 0, .int .u64 0, .bool false, .slice none 0 0, .slice none 0 0, .slice (some ⟨g, 0, none⟩) 2 2]] w fun e w' => ∃ v, e = .returned (.tuple #[v, .int .i64 0]) ∧ Rd w' .u8 v [2, 9, 0, 1, 2, 1, 0] ∧ Below w.heap.size w w' := by
  obtain ⟨i0, hi, hz0, hz1, hz2⟩ := info_parts infoB
  have hO := Blk.new w 26 #[.int .u64 2, .int .u64 0, .int .u64 0, .int .u64 0, .int .u64 0, .bool false, .slice none 0 0, .slice none 0 0, .slice (some ⟨g, 0, none⟩) 2 2]
  have hg := hg.alloc (.cells #[.int .u64 2, .int .u64 0, .int .u64 0, .int .u64 0, .int .u64 0, .bool false, .slice none 0 0, .slice none 0 0, .slice (some ⟨g, 0, none⟩) 2 2] 26)
  have hB := (Below.refl w.heap.size w).alloc (Nat.le_refl _) (.cells #[.int .u64 2, .int .u64 0, .int .u64 0, .int .u64 0, .int .u64 0, .bool false, .slice none 0 0, .slice none 0 0, .slice (some ⟨g, 0, none⟩) 2 2] 26)
  have c0 : World.cell? _ ⟨w.heap.size, 0, none⟩ = some (.int .u64 2) := hO.cell 0
  have c1 : World.cell? _ ⟨w.heap.size, 1, none⟩ = some (.int .u64 0) := hO.cell 1
  have c2 : World.cell? _ ⟨w.heap.size, 2, none⟩ = some (.int .u64 0) := hO.cell 2
  have c3 : World.cell? _ ⟨w.heap.size, 3, none⟩ = some (.int .u64 0) := hO.cell 3
  have c4 : World.cell? _ ⟨w.heap.size, 4, none⟩ = some (.int .u64 0) := hO.cell 4
  have c5 : World.cell? _ ⟨w.heap.size, 5, none⟩ = some (.bool false) := hO.cell 5
  have c6 : World.cell? _ ⟨w.heap.size, 6, none⟩ = some (.slice none 0 0) := hO.cell 6
  have c7 : World.cell? _ ⟨w.heap.size, 7, none⟩ = some (.slice none 0 0) := hO.cell 7
  have c8 : World.cell? _ ⟨w.heap.size, 8, none⟩ = some (.slice (some ⟨g, 0, none⟩) 2 2) := hO.cell 8
  go_enter Tryd.func10, Tryd.ntmps10
  go_wp2_with fail
  refine (right2 g _ hg).mono ?_
  rintro e w1 ⟨rfl, hb⟩
  have hO := hO.same hb
  have hg := hg.same hb
  have hB := hB.trans (hb.mono hB.size)
  clear hb c0 c1 c2 c3 c4 c5 c6 c7 c8
  have c0 : World.cell? w1 ⟨w.heap.size, 0, none⟩ = some (.int .u64 2) := hO.cell 0
  have c1 : World.cell? w1 ⟨w.heap.size, 1, none⟩ = some (.int .u64 0) := hO.cell 1
  have c2 : World.cell? w1 ⟨w.heap.size, 2, none⟩ = some (.int .u64 0) := hO.cell 2
  have c3 : World.cell? w1 ⟨w.heap.size, 3, none⟩ = some (.int .u64 0) := hO.cell 3
  have c4 : World.cell? w1 ⟨w.heap.size, 4, none⟩ = some (.int .u64 0) := hO.cell 4
  have c5 : World.cell? w1 ⟨w.heap.size, 5, none⟩ = some (.bool false) := hO.cell 5
  have c6 : World.cell? w1 ⟨w.heap.size, 6, none⟩ = some (.slice none 0 0) := hO.cell 6
  have c7 : World.cell? w1 ⟨w.heap.size, 7, none⟩ = some (.slice none 0 0) := hO.cell 7
  have c8 : World.cell? w1 ⟨w.heap.size, 8, none⟩ = some (.slice (some ⟨g, 0, none⟩) 2 2) := hO.cell 8
  have hL := show Rd (w1.alloc (.cells #[.int .u64 2] 22)) .u64 (.slice (some ⟨w1.heap.size, 0, none⟩) 1 1) [2] from rd_lit_at rfl [2] (by simp)
  have hO1 := hO.alloc (.cells #[.int .u64 2] 22)
  have hg1 := hg.alloc (.cells #[.int .u64 2] 22)
  have hB1 := hB.alloc hB.size (.cells #[.int .u64 2] 22)
  go_wp2_with fail
  refine (join_lit [2] [2] 1 _ rfl (by decide) (by decide) (by decide) j2 _ hL).mono ?_
  rintro e w2 ⟨v2, rfl, ho, hb⟩
  have hO := hO1.same hb
  have hg := hg1.same hb
  have hB := hB1.trans (hb.mono hB1.size)
  have ho := own_base ho hB1.size
  clear hb hL hO1 hg1 hB1 c0 c1 c2 c3 c4 c5 c6 c7 c8
  have c0 : World.cell? w2 ⟨w.heap.size, 0, none⟩ = some (.int .u64 2) := hO.cell 0
  have c1 : World.cell? w2 ⟨w.heap.size, 1, none⟩ = some (.int .u64 0) := hO.cell 1
  have c2 : World.cell? w2 ⟨w.heap.size, 2, none⟩ = some (.int .u64 0) := hO.cell 2
  have c3 : World.cell? w2 ⟨w.heap.size, 3, none⟩ = some (.int .u64 0) := hO.cell 3
  have c4 : World.cell? w2 ⟨w.heap.size, 4, none⟩ = some (.int .u64 0) := hO.cell 4
  have c5 : World.cell? w2 ⟨w.heap.size, 5, none⟩ = some (.bool false) := hO.cell 5
  have c6 : World.cell? w2 ⟨w.heap.size, 6, none⟩ = some (.slice none 0 0) := hO.cell 6
  have c7 : World.cell? w2 ⟨w.heap.size, 7, none⟩ = some (.slice none 0 0) := hO.cell 7
  have c8 : World.cell? w2 ⟨w.heap.size, 8, none⟩ = some (.slice (some ⟨g, 0, none⟩) 2 2) := hO.cell 8
  go_wp2_with fail
  refine (numbers2 _).mono ?_
  rintro e w3 ⟨rfl, rfl⟩
  go_wp2_with fail
  refine wp_loop_rounds 1 ?_
  rw [rounds_succ]
  go_wp2_with fail
  refine (ranges2 g _ hg).mono ?_
  rintro e w3 ⟨v3, rfl, hr3, hb⟩
  have ho := own_same ho hb
  have hB := hB.trans (hb.mono hB.size)
  clear hb
  go_wp2_with fail
  refine (join_lit [9, 0, 1, 2, 1, 0] [9, 0, 1, 2, 1, 0] 6 _ rfl (by decide) (by decide) (by decide) jr _ hr3).mono ?_
  rintro e w4 ⟨v4, rfl, ho4, hb⟩
  have ho := own_same ho hb
  have hB := hB.trans (hb.mono hB.size)
  have r4 := (rd_of_own (k := .u8) (l := [9, 0, 1, 2, 1, 0]) ho4)
  obtain ⟨A4, k4, rfl⟩ := r4.form
  clear hb ho4 c0 c1 c2 c3 c4 c5 c6 c7 c8
  go_wp2_with (at_builtin; refine wpList_append_any _ rfl _ _ 23 rfl w.heap.size 5 i0 _ 1 1 Tryd.underlying23 hi hz0 hz1 hz2 rfl (by decide) v2 1 [.int .u8 2] rfl ho A4 6 k4 _ rfl r4.rdv.2.2.2.2 (oneInts .u8 [9, 0, 1, 2, 1, 0]) (by decide) (by decide) hB.size r4.rdv.2.1 ?_; intro v9 w9 hown9 hgrow9 hat9)
  go_ret2
  exact ⟨v9, rfl, rd_of_own (k := .u8) (l := [2, 9, 0, 1, 2, 1, 0]) hown9, hB.grown hgrow9 hB.size (fun b hb => (ho.lt b hb).1)⟩

end Go.Proofs.YtbigbnfllkacoaaDoor
