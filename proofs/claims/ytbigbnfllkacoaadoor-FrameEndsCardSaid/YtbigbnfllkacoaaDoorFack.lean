/-
  The Ack example: its bytes.
-/
import Derived.Test.YtbigbnfllkacoaaDoorFawake
import Derived.Test.YtbigbnfllkacoaaDoorFstream
namespace Go.Proofs.YtbigbnfllkacoaaDoor
open Go.RowKit
set_option linter.unusedVariables false
set_option linter.unusedSimpArgs false


theorem infoN : (Tryd.prog.info? 22).map (fun i => (i.zero, i.size, i.bytes)) = some (some (.int .u64 0), 1, 8) := by kernel_rfl
set_option maxHeartbeats 2000000 in
set_option maxRecDepth 100000 in
theorem ranges2 (g : Nat) (w : World) (hg : Blk w g 56 #[.int .u64 7, .int .u64 9, .int .u64 4, .int .u64 4]) : Calls Tryd.prog 27 #[.agg #[.int .u64 2, .int .u64 0, .int .u64 0, .int .u64 0, .int .u64 0, .bool false, .slice none 0 0, .slice none 0 0, .slice (some ⟨g, 0, none⟩) 2 2]] w fun e w' => ∃ v, e = .returned v ∧ Rd w' .u64 v [9, 0, 1, 2, 1, 0] ∧ Below w.heap.size w w' := by
  obtain ⟨i0, hi, hz0, hz1, hz2⟩ := info_parts infoN
  have hO := Blk.new w 26 #[.int .u64 2, .int .u64 0, .int .u64 0, .int .u64 0, .int .u64 0, .bool false, .slice none 0 0, .slice none 0 0, .slice (some ⟨g, 0, none⟩) 2 2]
  have hg := hg.alloc (.cells #[.int .u64 2, .int .u64 0, .int .u64 0, .int .u64 0, .int .u64 0, .bool false, .slice none 0 0, .slice none 0 0, .slice (some ⟨g, 0, none⟩) 2 2] 26)
  have hB := (Below.refl w.heap.size w).alloc (Nat.le_refl _) (.cells #[.int .u64 2, .int .u64 0, .int .u64 0, .int .u64 0, .int .u64 0, .bool false, .slice none 0 0, .slice none 0 0, .slice (some ⟨g, 0, none⟩) 2 2] 26)
  have e0 : IntKind.u64.wrap 0 = 0 := by decide
  have e1 : IntKind.u64.wrap 1 = 1 := by decide
  have e2 : IntKind.u64.wrap 2 = 2 := by decide
  have e3 : IntKind.u64.wrap 3 = 3 := by decide
  have f1 : IntKind.i64.wrap 1 = 1 := by decide
  go_enter Tryd.func27, Tryd.ntmps27
  go_wp2_with fail
  refine wp_world (fun wz => Blk wz w.heap.size 26 #[.int .u64 2, .int .u64 0, .int .u64 0, .int .u64 0, .int .u64 0, .bool false, .slice none 0 0, .slice none 0 0, .slice (some ⟨g, 0, none⟩) 2 2] ∧ Below w.heap.size w wz ∧ Blk wz g 56 #[.int .u64 7, .int .u64 9, .int .u64 4, .int .u64 4]) ⟨hO, hB, hg⟩ ?_
  clear hO hB hg
  rintro w1 ⟨hO, hB, hg⟩
  have a0 : w1.cell? ⟨g, 0, none⟩ = some (.int .u64 7) := hg.cell 0
  have a1 : w1.cell? ⟨g, 1, none⟩ = some (.int .u64 9) := hg.cell 1
  have a2 : w1.cell? ⟨g, 2, none⟩ = some (.int .u64 4) := hg.cell 2
  have a3 : w1.cell? ⟨g, 3, none⟩ = some (.int .u64 4) := hg.cell 3
  have b3 : w1.cell? ⟨w.heap.size, 3, none⟩ = some (.int .u64 0) := hO.cell 3
  have hgl := hg.lt
  go_region_held3 (fun w' => w'.cell? ⟨g, 0, none⟩ = some (.int .u64 7) ∧ w'.cell? ⟨g, 1, none⟩ = some (.int .u64 9) ∧ w'.cell? ⟨w.heap.size, 3, none⟩ = some (.int .u64 0)) ((refine ⟨?_, ?_, ?_⟩ <;> (first | with_reducible refine keepB_cell a0 _ ?_ | with_reducible refine keepB_cell a1 _ ?_ | with_reducible refine keepB_cell b3 _ ?_) <;> (repeat (first | with_reducible exact Below.refl _ _ | with_reducible assumption | with_reducible refine keepB_drew ?_ | with_reducible refine keepB_drewN ?_ _ | with_reducible refine keepB_alloc ?_ _))))
    (fail)
  all_goals go_wp2_with fail
  refine wp_world (fun wz => wz.ownsRow w.heap.size 22 1 (.slice (some ⟨w1.heap.size, 0, none⟩) 4 4) 4 [.int .u64 9, .int .u64 0, .int .u64 1, .int .u64 2] ∧ Below w.heap.size w wz ∧ Blk wz g 56 #[.int .u64 7, .int .u64 9, .int .u64 4, .int .u64 4]) ⟨own_drewN (World.ownsRow_lit (e := 22) (size := 1) w1 #[.int .u64 9, .int .u64 0, .int .u64 1, .int .u64 2] 4 hB.size (by decide) rfl) 1, (hB.alloc hB.size _).drew, (hg.alloc _).drew⟩ ?_
  clear hO hB hg a0 a1 a2 a3 b3
  rintro w2 ⟨hw, hB, hg⟩
  have a0 : w2.cell? ⟨g, 0, none⟩ = some (.int .u64 7) := hg.cell 0
  have a2 : w2.cell? ⟨g, 2, none⟩ = some (.int .u64 4) := hg.cell 2
  have a3 : w2.cell? ⟨g, 3, none⟩ = some (.int .u64 4) := hg.cell 3
  refine wp_loop_rounds 2 ?_
  rw [rounds_succ]
  go_wp2_with fail
  refine wp_world (fun wz => wz.ownsRow w.heap.size 22 1 (.slice (some ⟨w1.heap.size, 0, none⟩) 4 4) 4 [.int .u64 9, .int .u64 0, .int .u64 1, .int .u64 2] ∧ Below w.heap.size w wz ∧ Blk wz g 56 #[.int .u64 7, .int .u64 9, .int .u64 4, .int .u64 4] ∧ Blk wz w2.heap.size 56 #[.int .u64 4, .int .u64 4]) ⟨own_same hw ((Below.refl _ _).alloc (Nat.le_refl _) _), hB.alloc hB.size _, hg.alloc _, Blk.new _ _ _⟩ ?_
  clear hw hB hg a0 a2 a3
  rintro w3 ⟨hw, hB, hg, hx⟩
  have a0 : w3.cell? ⟨g, 0, none⟩ = some (.int .u64 7) := hg.cell 0
  have x0 : w3.cell? ⟨w2.heap.size, 0, none⟩ = some (.int .u64 4) := hx.cell 0
  have x1 : w3.cell? ⟨w2.heap.size, 1, none⟩ = some (.int .u64 4) := hx.cell 1
  go_region_held3 (fun w' => w'.cell? ⟨g, 0, none⟩ = some (.int .u64 7) ∧ w'.cell? ⟨w2.heap.size, 0, none⟩ = some (.int .u64 4) ∧ w'.cell? ⟨w2.heap.size, 1, none⟩ = some (.int .u64 4))
    (first | exact p0 | (refine ⟨?_, ?_, ?_⟩ <;> (first | with_reducible refine keepB_cell a0 _ ?_ | with_reducible refine keepB_cell x0 _ ?_ | with_reducible refine keepB_cell x1 _ ?_) <;> (repeat (first | with_reducible exact Below.refl _ _ | with_reducible assumption | with_reducible refine keepB_drew ?_ | with_reducible refine keepB_drewN ?_ _ | with_reducible refine keepB_alloc ?_ _))))
    (first
    | (refine step_append_any _ (by rfl) _ _ 63 (by rfl) w.heap.size 22 i0 _ 1 8 Tryd.underlying63 hi hz0 hz1 hz2 (by rfl) (by decide) (.slice (some ⟨w1.heap.size, 0, none⟩) 4 4) 4 [.int .u64 9, .int .u64 0, .int .u64 1, .int .u64 2] (by rfl) (own_same hw (by (repeat (first | with_reducible exact Below.refl _ _ | with_reducible assumption | with_reducible refine keepB_drew ?_ | with_reducible refine keepB_drewN ?_ _ | with_reducible refine keepB_alloc ?_ _)))) (some ⟨w3.heap.size, 0, none⟩) 2 2 [.int .u64 1, .int .u64 0] (by rfl) ((show Rd (w3.alloc (.cells #[.int .u64 1, .int .u64 0] 22)) .u64 (.slice (some ⟨w3.heap.size, 0, none⟩) 2 2) [1, 0] from rd_lit_at rfl [1, 0] (by simp)).drew.rdv.2.2.2.2) (oneInts .u64 [1, 0]) (by decide) (by decide) (Nat.le_trans hB.size (szB (by (repeat (first | with_reducible exact Below.refl _ _ | with_reducible assumption | with_reducible refine keepB_drew ?_ | with_reducible refine keepB_drewN ?_ _ | with_reducible refine keepB_alloc ?_ _))))) (fun h => by cases h) ?_; intro v9 w9 hown9 hgrow9 hat9;
       have hB9 := fin_grown hB (by (repeat (first | with_reducible exact Below.refl _ _ | with_reducible assumption | with_reducible refine keepB_drew ?_ | with_reducible refine keepB_drewN ?_ _ | with_reducible refine keepB_alloc ?_ _))) hgrow9 (fun b hb => ((own_same hw (by (repeat (first | with_reducible exact Below.refl _ _ | with_reducible assumption | with_reducible refine keepB_drew ?_ | with_reducible refine keepB_drewN ?_ _ | with_reducible refine keepB_alloc ?_ _)))).lt b hb).1);
       have hg9 := Blk.grown (hg.same (by (repeat (first | with_reducible exact Below.refl _ _ | with_reducible assumption | with_reducible refine keepB_drew ?_ | with_reducible refine keepB_drewN ?_ _ | with_reducible refine keepB_alloc ?_ _)))) hgrow9 (Ne.symm (own_blk_ne (own_same hw (by (repeat (first | with_reducible exact Below.refl _ _ | with_reducible assumption | with_reducible refine keepB_drew ?_ | with_reducible refine keepB_drewN ?_ _ | with_reducible refine keepB_alloc ?_ _)))) (hg.same (by (repeat (first | with_reducible exact Below.refl _ _ | with_reducible assumption | with_reducible refine keepB_drew ?_ | with_reducible refine keepB_drewN ?_ _ | with_reducible refine keepB_alloc ?_ _)))) (by decide)));
       have hx9 := Blk.grown (hx.same (by (repeat (first | with_reducible exact Below.refl _ _ | with_reducible assumption | with_reducible refine keepB_drew ?_ | with_reducible refine keepB_drewN ?_ _ | with_reducible refine keepB_alloc ?_ _)))) hgrow9 (Ne.symm (own_blk_ne (own_same hw (by (repeat (first | with_reducible exact Below.refl _ _ | with_reducible assumption | with_reducible refine keepB_drew ?_ | with_reducible refine keepB_drewN ?_ _ | with_reducible refine keepB_alloc ?_ _)))) (hx.same (by (repeat (first | with_reducible exact Below.refl _ _ | with_reducible assumption | with_reducible refine keepB_drew ?_ | with_reducible refine keepB_drewN ?_ _ | with_reducible refine keepB_alloc ?_ _)))) (by decide)));
       have p0 : w9.cell? ⟨g, 0, none⟩ = some (.int .u64 7) ∧ w9.cell? ⟨w2.heap.size, 0, none⟩ = some (.int .u64 4) ∧ w9.cell? ⟨w2.heap.size, 1, none⟩ = some (.int .u64 4) := ⟨hg9.cell 0, hx9.cell 0, hx9.cell 1⟩))
  all_goals clear a0 x0 x1
  go_wp2_with fail
  rw [rounds_succ]
  go_wp2_with fail
  go_ret
  exact ⟨v9, rfl, rd_of_own (k := .u64) (l := [9, 0, 1, 2, 1, 0]) hown9, hB9⟩

end Go.Proofs.YtbigbnfllkacoaaDoor
