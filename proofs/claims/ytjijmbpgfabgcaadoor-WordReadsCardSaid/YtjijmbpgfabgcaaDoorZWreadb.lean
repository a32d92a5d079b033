/-
  What Read of a message gives, further. No condition.
-/
import Derived.Test.YtjijmbpgfabgcaaDoorZWread
namespace Go.Proofs.YtjijmbpgfabgcaaDoor
open Go.RowKit
set_option linter.unusedVariables false
set_option linter.unusedSimpArgs false

set_option maxHeartbeats 4000000 in
set_option maxRecDepth 100000 in
theorem read_two (v : Value) (l r : List Int) (k : Int) (w : World) (hG : Glob w) (hr : RdT w v l) (hk : BytesOk l) (hl : l.length ≤ 90000) (ht : vtake l = some (k, r)) (hp : (prt k).2 = true) (h2 : r.length < 2) :
    Calls Tryd.prog 16 #[v] w fun e w' => RdOut (none, [], 2) e w' ∧ Below w.heap.size w w' := by
  have hO0 := Blk.new w 31 #[.int .u64 0, .int .u64 0, .int .u64 0, .slice none 0 0, .int .u8 0, .int .u8 0, .int .u64 0, .int .u64 0, .int .u64 0, .int .u64 0, .bool false, .int .u64 0, .slice none 0 0, .int .u64 0, .int .u64 0, .slice none 0 0]
  have hB0 : Below w.heap.size w (w.alloc (.cells #[.int .u64 0, .int .u64 0, .int .u64 0, .slice none 0 0, .int .u8 0, .int .u8 0, .int .u64 0, .int .u64 0, .int .u64 0, .int .u64 0, .bool false, .int .u64 0, .slice none 0 0, .int .u64 0, .int .u64 0, .slice none 0 0] 31)) := (Below.refl _ _).alloc (Nat.le_refl _) _
  have hr0 := (hr.below hB0).1
  have hl2 : l.length ≤ 1099511627776 := by omega
  go_enter Tryd.func16, Tryd.ntmps16
  go_wp2_with fail
  (with_reducible refine (take_some v l k r _ hr0 hk hl2 ht).mono ?_)
  rintro e w1 ⟨v1, rfl, ho1, hb1⟩
  have hO1 := hO0.same hb1
  have hB1 := hB0.trans (hb1.mono hB0.size)
  have hG1 := hG.same hB1
  have hr1 := rdt_of_own ho1
  obtain ⟨A1, c1, rfl⟩ := hr1.form
  clear hO0 hB0 hb1 hr0
  go_wp2_with fail
  (with_reducible refine (parts_all k _ hG1).mono ?_)
  rintro e w2 ⟨rfl, hb2⟩
  have hO2 := hO1.same hb2
  have hB2 := hB1.trans (hb2.mono hB1.size)
  have hG2 := hG1.same hb2
  have hr2 := hr1.below hb2
  clear hO1 hB1 hb2 hr1 ho1 hG1
  rw [hp]
  simp only []
  have h2i : (r.length : Int) < 2 := by omega
  have HG := Lib.hid hG
  clear hG h2
  go_wp2_with fail
  refine wp_region_cls (by kernel_rfl) (by kernel_rfl) ?_
  repeat (go_big_quiet_step (fail))
  refine wpQuiet_nil ?_
  intro w3 hb3
  have hO3 := hO2.same hb3
  have hB3 := hB2.trans (hb3.mono hB2.size)
  clear hO2 hB2 hb3 hr2 HG hG2
  have y0 : w3.cell? ⟨w.heap.size, 0, none⟩ = some (.int .u64 0) := hO3.cell 0
  have y1 : w3.cell? ⟨w.heap.size, 1, none⟩ = some (.int .u64 0) := hO3.cell 1
  have y2 : w3.cell? ⟨w.heap.size, 2, none⟩ = some (.int .u64 0) := hO3.cell 2
  have y3 : w3.cell? ⟨w.heap.size, 3, none⟩ = some (.slice none 0 0) := hO3.cell 3
  have y4 : w3.cell? ⟨w.heap.size, 4, none⟩ = some (.int .u8 0) := hO3.cell 4
  have y5 : w3.cell? ⟨w.heap.size, 5, none⟩ = some (.int .u8 0) := hO3.cell 5
  have y6 : w3.cell? ⟨w.heap.size, 6, none⟩ = some (.int .u64 0) := hO3.cell 6
  have y7 : w3.cell? ⟨w.heap.size, 7, none⟩ = some (.int .u64 0) := hO3.cell 7
  have y8 : w3.cell? ⟨w.heap.size, 8, none⟩ = some (.int .u64 0) := hO3.cell 8
  have y9 : w3.cell? ⟨w.heap.size, 9, none⟩ = some (.int .u64 0) := hO3.cell 9
  have y10 : w3.cell? ⟨w.heap.size, 10, none⟩ = some (.bool false) := hO3.cell 10
  have y11 : w3.cell? ⟨w.heap.size, 11, none⟩ = some (.int .u64 0) := hO3.cell 11
  have y12 : w3.cell? ⟨w.heap.size, 12, none⟩ = some (.slice none 0 0) := hO3.cell 12
  have y13 : w3.cell? ⟨w.heap.size, 13, none⟩ = some (.int .u64 0) := hO3.cell 13
  have y14 : w3.cell? ⟨w.heap.size, 14, none⟩ = some (.int .u64 0) := hO3.cell 14
  have y15 : w3.cell? ⟨w.heap.size, 15, none⟩ = some (.slice none 0 0) := hO3.cell 15
  have f0 := hO3.frozen 0
  have f1 := hO3.frozen 1
  have f2 := hO3.frozen 2
  have f3 := hO3.frozen 3
  have f4 := hO3.frozen 4
  have f5 := hO3.frozen 5
  have f6 := hO3.frozen 6
  have f7 := hO3.frozen 7
  have f8 := hO3.frozen 8
  have f9 := hO3.frozen 9
  have f10 := hO3.frozen 10
  have f11 := hO3.frozen 11
  have f12 := hO3.frozen 12
  have f13 := hO3.frozen 13
  have f14 := hO3.frozen 14
  have f15 := hO3.frozen 15
  go_wp2_with fail
  have hOf := hO3.set16 (.int .u64 0) (.int .u64 0) (.int .u64 0) (.slice none 0 0) (.int .u8 0) (.int .u8 0) (.int .u64 0) (.int .u64 0) (.int .u64 0) (.int .u64 0) (.bool false) (.int .u64 0) (.slice none 0 0) (.int .u64 0) (.int .u64 0) (.slice none 0 0)
  have hBf := below16 hB3 (Nat.le_refl w.heap.size) (.int .u64 0) (.int .u64 0) (.int .u64 0) (.slice none 0 0) (.int .u8 0) (.int .u8 0) (.int .u64 0) (.int .u64 0) (.int .u64 0) (.int .u64 0) (.bool false) (.int .u64 0) (.slice none 0 0) (.int .u64 0) (.int .u64 0) (.slice none 0 0)
  replace y0 : World.cell? _ ⟨w.heap.size, 0, none⟩ = some (.int .u64 0) := hOf.cell 0
  replace y1 : World.cell? _ ⟨w.heap.size, 1, none⟩ = some (.int .u64 0) := hOf.cell 1
  replace y2 : World.cell? _ ⟨w.heap.size, 2, none⟩ = some (.int .u64 0) := hOf.cell 2
  replace y3 : World.cell? _ ⟨w.heap.size, 3, none⟩ = some (.slice none 0 0) := hOf.cell 3
  replace y4 : World.cell? _ ⟨w.heap.size, 4, none⟩ = some (.int .u8 0) := hOf.cell 4
  replace y5 : World.cell? _ ⟨w.heap.size, 5, none⟩ = some (.int .u8 0) := hOf.cell 5
  replace y6 : World.cell? _ ⟨w.heap.size, 6, none⟩ = some (.int .u64 0) := hOf.cell 6
  replace y7 : World.cell? _ ⟨w.heap.size, 7, none⟩ = some (.int .u64 0) := hOf.cell 7
  replace y8 : World.cell? _ ⟨w.heap.size, 8, none⟩ = some (.int .u64 0) := hOf.cell 8
  replace y9 : World.cell? _ ⟨w.heap.size, 9, none⟩ = some (.int .u64 0) := hOf.cell 9
  replace y10 : World.cell? _ ⟨w.heap.size, 10, none⟩ = some (.bool false) := hOf.cell 10
  replace y11 : World.cell? _ ⟨w.heap.size, 11, none⟩ = some (.int .u64 0) := hOf.cell 11
  replace y12 : World.cell? _ ⟨w.heap.size, 12, none⟩ = some (.slice none 0 0) := hOf.cell 12
  replace y13 : World.cell? _ ⟨w.heap.size, 13, none⟩ = some (.int .u64 0) := hOf.cell 13
  replace y14 : World.cell? _ ⟨w.heap.size, 14, none⟩ = some (.int .u64 0) := hOf.cell 14
  replace y15 : World.cell? _ ⟨w.heap.size, 15, none⟩ = some (.slice none 0 0) := hOf.cell 15
  refine bodyPost_ret (v := .tuple #[.agg #[.int .u64 0, .int .u64 0, .int .u64 0, .slice none 0 0, .int .u8 0, .int .u8 0, .int .u64 0, .int .u64 0, .int .u64 0, .int .u64 0, .bool false, .int .u64 0, .slice none 0 0, .int .u64 0, .int .u64 0, .slice none 0 0], .slice none 0 0, .int .i64 2]) (by simp [results, Tryd.results16, go_sem, y0, y1, y2, y3, y4, y5, y6, y7, y8, y9, y10, y11, y12, y13, y14, y15]) rfl ?_
  exact ⟨⟨.slice none 0 0, .slice none 0 0, .slice none 0 0, .slice none 0 0, rfl, Rd.nil _ _, Rd.nil _ _, Rd.nil _ _, Rd.nil _ _⟩, hBf⟩

end Go.Proofs.YtjijmbpgfabgcaaDoor
