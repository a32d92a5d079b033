/-
  What Read of a message gives: the message. No condition.
-/
import Derived.Test.YtjijmbpgfabgcaaDoorZWreadc
import Derived.Test.YtjijmbpgfabgcaaDoorZB
import Derived.Deep.DeepCutAuto
namespace Go.Proofs.YtjijmbpgfabgcaaDoor
open Go.RowKit
set_option linter.unusedVariables false
set_option linter.unusedSimpArgs false

set_option maxHeartbeats 4000000 in
set_option maxRecDepth 100000 in
theorem read_form (v : Value) (l q : List Int) (k a b : Int) (w : World) (hG : Glob w) (hr : RdT w v l) (hk : BytesOk l) (hl : l.length ≤ 90000) (ht : vtake l = some (k, a :: b :: q)) (ha : 0 ≤ a ∧ a ≤ 255) (hb : 0 ≤ b ∧ b ≤ 255) (hp : (prt k).2 = true) (hsh : a * 256 + b ≤ (q.length : Int)) (hw : wholeR k (q.take (a * 256 + b).toNat) = none) :
    Calls Tryd.prog 16 #[v] w fun e w' => RdOut (none, [], 4) e w' ∧ Below w.heap.size w w' := by
  have hO0 := Blk.new w 31 #[.int .u64 0, .int .u64 0, .int .u64 0, .slice none 0 0, .int .u8 0, .int .u8 0, .int .u64 0, .int .u64 0, .int .u64 0, .int .u64 0, .bool false, .int .u64 0, .slice none 0 0, .int .u64 0, .int .u64 0, .slice none 0 0]
  have hB0 : Below w.heap.size w (w.alloc (.cells #[.int .u64 0, .int .u64 0, .int .u64 0, .slice none 0 0, .int .u8 0, .int .u8 0, .int .u64 0, .int .u64 0, .int .u64 0, .int .u64 0, .bool false, .int .u64 0, .slice none 0 0, .int .u64 0, .int .u64 0, .slice none 0 0] 31)) := (Below.refl _ _).alloc (Nat.le_refl _) _
  have hr0 := (hr.below hB0).1
  have hl2 : l.length ≤ 1099511627776 := by omega
  go_enter Tryd.func16, Tryd.ntmps16
  go_wp2_with fail
  (with_reducible refine (take_some v l k (a :: b :: q) _ hr0 hk hl2 ht).mono ?_)
  rintro e w1 ⟨v1, rfl, ho1, hb1⟩
  have hO1 := hO0.same hb1
  have hB1 := hB0.trans (hb1.mono hB0.size)
  have hG1 := hG.same hB1
  have hr1 := rdt_of_own ho1
  obtain ⟨A1, c1, rfl⟩ := hr1.form
  clear hO0 hB0 hb1 hr0
  go_wp2_with fail
  (with_reducible refine (parts_all k _ hG1).mono ?_)
  rintro e w2 ⟨rfl, hb2⟩
  have hO2 := hO1.same hb2
  have hB2 := hB1.trans (hb2.mono hB1.size)
  have hG2 := hG1.same hb2
  have hr2 := hr1.below hb2
  clear hO1 hB1 hb2 hr1 ho1 hG1
  rw [hp]
  simp only []
  obtain ⟨g, off, rfl, _, d0⟩ := hr2.1.at_ 0 (by simp)
  obtain ⟨g', off', e', _, d1⟩ := hr2.1.at_ 1 (by simp)
  simp only [Option.some.injEq, Addr.mk.injEq, and_true] at e'
  obtain ⟨rfl, rfl⟩ := e'
  simp only [Nat.add_zero, List.getD_cons_zero, List.getD_cons_succ] at d0 d1
  obtain ⟨N, hN⟩ := Int.eq_ofNat_of_zero_le (show 0 ≤ a * 256 + b by omega)
  have h2i : decide ((q.length : Int) + 1 + 1 < 2) = false := decide_eq_false (by omega)
  have hor : bits .or .i64 (a * 256) b = (N : Int) := (or_i64 a b ha hb).trans hN
  have hdn : decide ((q.length : Int) + 1 + 1 < 2 + (N : Int)) = false := decide_eq_false (by omega)
  have HG := Lib.hid hG
  clear hG
  go_wp2_with fail
  have Cd0 := Cls.cells d0 (World.block_lt_of_cell? _ _ d0)
  have Cd1 := Cls.cells d1 (World.block_lt_of_cell? _ _ d1)
  refine wp_region_cls (by kernel_rfl) (by kernel_rfl) ?_
  repeat (go_big_quiet_step (fail))
  refine wpQuiet_nil ?_
  intro w3 hb3
  have d0 := keepB_cell d0 w3 hb3
  have d1 := keepB_cell d1 w3 hb3
  clear Cd0 Cd1
  have hO3 := hO2.same hb3
  have hB3 := hB2.trans (hb3.mono hB2.size)
  have hr3 := hr2.below hb3
  clear hO2 hB2 hb3 hr2
  go_wp2_with fail
  have Cd0 := Cls.cells d0 (World.block_lt_of_cell? _ _ d0)
  have Cd1 := Cls.cells d1 (World.block_lt_of_cell? _ _ d1)
  refine wp_region_cls (by kernel_rfl) (by kernel_rfl) ?_
  repeat (go_big_quiet_step (fail))
  refine wpQuiet_nil ?_
  intro w4 hb4
  have d0 := keepB_cell d0 w4 hb4
  have d1 := keepB_cell d1 w4 hb4
  clear Cd0 Cd1
  have hO4 := hO3.same hb4
  have hB4 := hB3.trans (hb4.mono hB3.size)
  have hr4 := hr3.below hb4
  have hG4 := HG.out.same hB4
  clear hO3 hB3 hb4 hr3 d0 d1
  have hNq : N ≤ q.length := by omega
  obtain ⟨SA, SC, hS, hsl⟩ := cut_slice hr4 2 (2 + N) (by omega) (by simp; omega)
  rw [show 2 + N - 2 = N by omega] at hS hsl
  rw [show (a :: b :: q).drop 2 = q from rfl] at hS
  rw [show ((2 + N : Nat) : Int) = 2 + (N : Int) by omega] at hsl
  have hsl' : ∀ W, (Instr.slice 23 (.slice (some ⟨g, off, none⟩) (q.length + 1 + 1) c1) (some (.int .i64 2)) (some (.int .i64 (2 + (N : Int)))) none).run Tryd.prog W = .ok (.slice SA N SC) W := hsl
  clear hsl
  have hkq : BytesOk (q.take N) := ((vtake_rest hk ht).1.drop 2).take N
  have hlq : (q.take N).length ≤ 90000 := by have h1 := (vtake_rest hk ht).2.1; simp only [List.length_cons] at h1; rw [List.length_take]; omega
  have hwh := whole_all k (.slice SA N SC) (q.take N) w4 hG4 hp hS hkq hlq
  go_wp2_with fail
  (with_reducible refine hwh.mono ?_)
  clear hwh
  rw [hN, Int.toNat_natCast] at hw
  rw [hw]
  rintro e w5 ⟨rfl, hb5⟩
  go_upto_region 12 with fail
  refine wp_world (fun wz => Below w.heap.size w wz ∧ Blk wz w.heap.size 31 #[.int .u64 0, .int .u64 0, .int .u64 0, .slice none 0 0, .int .u8 0, .int .u8 0, .int .u64 0, .int .u64 0, .int .u64 0, .int .u64 0, .bool false, .int .u64 0, .slice none 0 0, .int .u64 0, .int .u64 0, .slice none 0 0]) ⟨keepB_alloc (hB4.trans (hb5.mono hB4.size)) _, (hO4.same hb5).alloc _⟩ ?_
  clear hO4 hB4 hG4 hr4
  rintro w6 ⟨hB6, hO6⟩
  have y0 : w6.cell? ⟨w.heap.size, 0, none⟩ = some (.int .u64 0) := hO6.cell 0
  have y1 : w6.cell? ⟨w.heap.size, 1, none⟩ = some (.int .u64 0) := hO6.cell 1
  have y2 : w6.cell? ⟨w.heap.size, 2, none⟩ = some (.int .u64 0) := hO6.cell 2
  have y3 : w6.cell? ⟨w.heap.size, 3, none⟩ = some (.slice none 0 0) := hO6.cell 3
  have y4 : w6.cell? ⟨w.heap.size, 4, none⟩ = some (.int .u8 0) := hO6.cell 4
  have y5 : w6.cell? ⟨w.heap.size, 5, none⟩ = some (.int .u8 0) := hO6.cell 5
  have y6 : w6.cell? ⟨w.heap.size, 6, none⟩ = some (.int .u64 0) := hO6.cell 6
  have y7 : w6.cell? ⟨w.heap.size, 7, none⟩ = some (.int .u64 0) := hO6.cell 7
  have y8 : w6.cell? ⟨w.heap.size, 8, none⟩ = some (.int .u64 0) := hO6.cell 8
  have y9 : w6.cell? ⟨w.heap.size, 9, none⟩ = some (.int .u64 0) := hO6.cell 9
  have y10 : w6.cell? ⟨w.heap.size, 10, none⟩ = some (.bool false) := hO6.cell 10
  have y11 : w6.cell? ⟨w.heap.size, 11, none⟩ = some (.int .u64 0) := hO6.cell 11
  have y12 : w6.cell? ⟨w.heap.size, 12, none⟩ = some (.slice none 0 0) := hO6.cell 12
  have y13 : w6.cell? ⟨w.heap.size, 13, none⟩ = some (.int .u64 0) := hO6.cell 13
  have y14 : w6.cell? ⟨w.heap.size, 14, none⟩ = some (.int .u64 0) := hO6.cell 14
  have y15 : w6.cell? ⟨w.heap.size, 15, none⟩ = some (.slice none 0 0) := hO6.cell 15
  have f0 := hO6.frozen 0
  have f1 := hO6.frozen 1
  have f2 := hO6.frozen 2
  have f3 := hO6.frozen 3
  have f4 := hO6.frozen 4
  have f5 := hO6.frozen 5
  have f6 := hO6.frozen 6
  have f7 := hO6.frozen 7
  have f8 := hO6.frozen 8
  have f9 := hO6.frozen 9
  have f10 := hO6.frozen 10
  have f11 := hO6.frozen 11
  have f12 := hO6.frozen 12
  have f13 := hO6.frozen 13
  have f14 := hO6.frozen 14
  have f15 := hO6.frozen 15
  go_wp2_with fail
  have hOf := hO6.set16 (.int .u64 0) (.int .u64 0) (.int .u64 0) (.slice none 0 0) (.int .u8 0) (.int .u8 0) (.int .u64 0) (.int .u64 0) (.int .u64 0) (.int .u64 0) (.bool false) (.int .u64 0) (.slice none 0 0) (.int .u64 0) (.int .u64 0) (.slice none 0 0)
  have hBf := below16 hB6 (Nat.le_refl w.heap.size) (.int .u64 0) (.int .u64 0) (.int .u64 0) (.slice none 0 0) (.int .u8 0) (.int .u8 0) (.int .u64 0) (.int .u64 0) (.int .u64 0) (.int .u64 0) (.bool false) (.int .u64 0) (.slice none 0 0) (.int .u64 0) (.int .u64 0) (.slice none 0 0)
  replace y0 : World.cell? _ ⟨w.heap.size, 0, none⟩ = some (.int .u64 0) := hOf.cell 0
  replace y1 : World.cell? _ ⟨w.heap.size, 1, none⟩ = some (.int .u64 0) := hOf.cell 1
  replace y2 : World.cell? _ ⟨w.heap.size, 2, none⟩ = some (.int .u64 0) := hOf.cell 2
  replace y3 : World.cell? _ ⟨w.heap.size, 3, none⟩ = some (.slice none 0 0) := hOf.cell 3
  replace y4 : World.cell? _ ⟨w.heap.size, 4, none⟩ = some (.int .u8 0) := hOf.cell 4
  replace y5 : World.cell? _ ⟨w.heap.size, 5, none⟩ = some (.int .u8 0) := hOf.cell 5
  replace y6 : World.cell? _ ⟨w.heap.size, 6, none⟩ = some (.int .u64 0) := hOf.cell 6
  replace y7 : World.cell? _ ⟨w.heap.size, 7, none⟩ = some (.int .u64 0) := hOf.cell 7
  replace y8 : World.cell? _ ⟨w.heap.size, 8, none⟩ = some (.int .u64 0) := hOf.cell 8
  replace y9 : World.cell? _ ⟨w.heap.size, 9, none⟩ = some (.int .u64 0) := hOf.cell 9
  replace y10 : World.cell? _ ⟨w.heap.size, 10, none⟩ = some (.bool false) := hOf.cell 10
  replace y11 : World.cell? _ ⟨w.heap.size, 11, none⟩ = some (.int .u64 0) := hOf.cell 11
  replace y12 : World.cell? _ ⟨w.heap.size, 12, none⟩ = some (.slice none 0 0) := hOf.cell 12
  replace y13 : World.cell? _ ⟨w.heap.size, 13, none⟩ = some (.int .u64 0) := hOf.cell 13
  replace y14 : World.cell? _ ⟨w.heap.size, 14, none⟩ = some (.int .u64 0) := hOf.cell 14
  replace y15 : World.cell? _ ⟨w.heap.size, 15, none⟩ = some (.slice none 0 0) := hOf.cell 15
  refine bodyPost_ret (v := .tuple #[.agg #[.int .u64 0, .int .u64 0, .int .u64 0, .slice none 0 0, .int .u8 0, .int .u8 0, .int .u64 0, .int .u64 0, .int .u64 0, .int .u64 0, .bool false, .int .u64 0, .slice none 0 0, .int .u64 0, .int .u64 0, .slice none 0 0], .slice none 0 0, .int .i64 4]) (by simp [results, Tryd.results16, go_sem, y0, y1, y2, y3, y4, y5, y6, y7, y8, y9, y10, y11, y12, y13, y14, y15]) rfl ?_
  exact ⟨⟨.slice none 0 0, .slice none 0 0, .slice none 0 0, .slice none 0 0, rfl, Rd.nil _ _, Rd.nil _ _, Rd.nil _ _, Rd.nil _ _⟩, hBf⟩

end Go.Proofs.YtjijmbpgfabgcaaDoor
