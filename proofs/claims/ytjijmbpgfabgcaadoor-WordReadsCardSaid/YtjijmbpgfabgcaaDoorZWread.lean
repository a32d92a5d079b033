/-
  What Read of a message gives. No condition.
-/
import Derived.Test.YtjijmbpgfabgcaaDoorZM
import Derived.Deep.CutBlock
import Derived.Test.YtjijmbpgfabgcaaDoorZA
namespace Go.Proofs.YtjijmbpgfabgcaaDoor
open Go.RowKit
set_option linter.unusedVariables false
set_option linter.unusedSimpArgs false

/-- What stands in front: the message, what is behind it, the error. -/
def readR (l : List Int) : Option M × List Int × Int := match vtake l with
  | none => (none, [], 2)
  | some (k, r) => if (prt k).2 = false then (none, [], 4) else match r with
    | a :: b :: q => if (q.length : Int) < 256 * a + b then (none, [], 2) else match wholeR k (q.take (256 * a + b).toNat) with
      | none => (none, [], 4)
      | some y => (some y, q.drop (256 * a + b).toNat, 0)
    | _ => (none, [], 2)
/-- How Read ends. -/
def RdOut (o : Option M × List Int × Int) (e : Ending) (w' : World) : Prop := ∃ nv rv vv bv, e = .returned (.tuple #[.agg ((o.1.getD (M.nil 0)).cells nv rv vv), bv, .int .i64 o.2.2]) ∧ Rd w' .u8 nv (o.1.getD (M.nil 0)).nm ∧ Rd w' .u8 rv (o.1.getD (M.nil 0)).rs ∧ Rd w' .u64 vv (o.1.getD (M.nil 0)).vs ∧ Rd w' .u8 bv o.2.1
set_option maxHeartbeats 4000000 in
set_option maxRecDepth 100000 in
theorem read_none (v : Value) (l : List Int) (w : World) (hr : RdT w v l) (hk : BytesOk l) (ht : vtake l = none) :
    Calls Tryd.prog 16 #[v] w fun e w' => RdOut (none, [], 2) e w' ∧ Below w.heap.size w w' := by
  have hO0 := Blk.new w 31 #[.int .u64 0, .int .u64 0, .int .u64 0, .slice none 0 0, .int .u8 0, .int .u8 0, .int .u64 0, .int .u64 0, .int .u64 0, .int .u64 0, .bool false, .int .u64 0, .slice none 0 0, .int .u64 0, .int .u64 0, .slice none 0 0]
  have hB0 : Below w.heap.size w (w.alloc (.cells #[.int .u64 0, .int .u64 0, .int .u64 0, .slice none 0 0, .int .u8 0, .int .u8 0, .int .u64 0, .int .u64 0, .int .u64 0, .int .u64 0, .bool false, .int .u64 0, .slice none 0 0, .int .u64 0, .int .u64 0, .slice none 0 0] 31)) := (Below.refl _ _).alloc (Nat.le_refl _) _
  have hr0 := (hr.below hB0).1
  go_enter Tryd.func16, Tryd.ntmps16
  go_wp2_with fail
  (with_reducible refine (take_none v l _ hr0 hk ht).mono ?_)
  rintro e w1 ⟨rfl, hb1⟩
  have hO1 := hO0.same hb1
  have hB1 := hB0.trans (hb1.mono hB0.size)
  clear hO0 hB0 hb1
  have y0 : w1.cell? ⟨w.heap.size, 0, none⟩ = some (.int .u64 0) := hO1.cell 0
  have y1 : w1.cell? ⟨w.heap.size, 1, none⟩ = some (.int .u64 0) := hO1.cell 1
  have y2 : w1.cell? ⟨w.heap.size, 2, none⟩ = some (.int .u64 0) := hO1.cell 2
  have y3 : w1.cell? ⟨w.heap.size, 3, none⟩ = some (.slice none 0 0) := hO1.cell 3
  have y4 : w1.cell? ⟨w.heap.size, 4, none⟩ = some (.int .u8 0) := hO1.cell 4
  have y5 : w1.cell? ⟨w.heap.size, 5, none⟩ = some (.int .u8 0) := hO1.cell 5
  have y6 : w1.cell? ⟨w.heap.size, 6, none⟩ = some (.int .u64 0) := hO1.cell 6
  have y7 : w1.cell? ⟨w.heap.size, 7, none⟩ = some (.int .u64 0) := hO1.cell 7
  have y8 : w1.cell? ⟨w.heap.size, 8, none⟩ = some (.int .u64 0) := hO1.cell 8
  have y9 : w1.cell? ⟨w.heap.size, 9, none⟩ = some (.int .u64 0) := hO1.cell 9
  have y10 : w1.cell? ⟨w.heap.size, 10, none⟩ = some (.bool false) := hO1.cell 10
  have y11 : w1.cell? ⟨w.heap.size, 11, none⟩ = some (.int .u64 0) := hO1.cell 11
  have y12 : w1.cell? ⟨w.heap.size, 12, none⟩ = some (.slice none 0 0) := hO1.cell 12
  have y13 : w1.cell? ⟨w.heap.size, 13, none⟩ = some (.int .u64 0) := hO1.cell 13
  have y14 : w1.cell? ⟨w.heap.size, 14, none⟩ = some (.int .u64 0) := hO1.cell 14
  have y15 : w1.cell? ⟨w.heap.size, 15, none⟩ = some (.slice none 0 0) := hO1.cell 15
  have f0 := hO1.frozen 0
  have f1 := hO1.frozen 1
  have f2 := hO1.frozen 2
  have f3 := hO1.frozen 3
  have f4 := hO1.frozen 4
  have f5 := hO1.frozen 5
  have f6 := hO1.frozen 6
  have f7 := hO1.frozen 7
  have f8 := hO1.frozen 8
  have f9 := hO1.frozen 9
  have f10 := hO1.frozen 10
  have f11 := hO1.frozen 11
  have f12 := hO1.frozen 12
  have f13 := hO1.frozen 13
  have f14 := hO1.frozen 14
  have f15 := hO1.frozen 15
  go_wp2_with fail
  have hOf := hO1.set16 (.int .u64 0) (.int .u64 0) (.int .u64 0) (.slice none 0 0) (.int .u8 0) (.int .u8 0) (.int .u64 0) (.int .u64 0) (.int .u64 0) (.int .u64 0) (.bool false) (.int .u64 0) (.slice none 0 0) (.int .u64 0) (.int .u64 0) (.slice none 0 0)
  have hBf := below16 hB1 (Nat.le_refl w.heap.size) (.int .u64 0) (.int .u64 0) (.int .u64 0) (.slice none 0 0) (.int .u8 0) (.int .u8 0) (.int .u64 0) (.int .u64 0) (.int .u64 0) (.int .u64 0) (.bool false) (.int .u64 0) (.slice none 0 0) (.int .u64 0) (.int .u64 0) (.slice none 0 0)
  replace y0 : World.cell? _ ⟨w.heap.size, 0, none⟩ = some (.int .u64 0) := hOf.cell 0
  replace y1 : World.cell? _ ⟨w.heap.size, 1, none⟩ = some (.int .u64 0) := hOf.cell 1
  replace y2 : World.cell? _ ⟨w.heap.size, 2, none⟩ = some (.int .u64 0) := hOf.cell 2
  replace y3 : World.cell? _ ⟨w.heap.size, 3, none⟩ = some (.slice none 0 0) := hOf.cell 3
  replace y4 : World.cell? _ ⟨w.heap.size, 4, none⟩ = some (.int .u8 0) := hOf.cell 4
  replace y5 : World.cell? _ ⟨w.heap.size, 5, none⟩ = some (.int .u8 0) := hOf.cell 5
  replace y6 : World.cell? _ ⟨w.heap.size, 6, none⟩ = some (.int .u64 0) := hOf.cell 6
  replace y7 : World.cell? _ ⟨w.heap.size, 7, none⟩ = some (.int .u64 0) := hOf.cell 7
  replace y8 : World.cell? _ ⟨w.heap.size, 8, none⟩ = some (.int .u64 0) := hOf.cell 8
  replace y9 : World.cell? _ ⟨w.heap.size, 9, none⟩ = some (.int .u64 0) := hOf.cell 9
  replace y10 : World.cell? _ ⟨w.heap.size, 10, none⟩ = some (.bool false) := hOf.cell 10
  replace y11 : World.cell? _ ⟨w.heap.size, 11, none⟩ = some (.int .u64 0) := hOf.cell 11
  replace y12 : World.cell? _ ⟨w.heap.size, 12, none⟩ = some (.slice none 0 0) := hOf.cell 12
  replace y13 : World.cell? _ ⟨w.heap.size, 13, none⟩ = some (.int .u64 0) := hOf.cell 13
  replace y14 : World.cell? _ ⟨w.heap.size, 14, none⟩ = some (.int .u64 0) := hOf.cell 14
  replace y15 : World.cell? _ ⟨w.heap.size, 15, none⟩ = some (.slice none 0 0) := hOf.cell 15
  refine bodyPost_ret (v := .tuple #[.agg #[.int .u64 0, .int .u64 0, .int .u64 0, .slice none 0 0, .int .u8 0, .int .u8 0, .int .u64 0, .int .u64 0, .int .u64 0, .int .u64 0, .bool false, .int .u64 0, .slice none 0 0, .int .u64 0, .int .u64 0, .slice none 0 0], .slice none 0 0, .int .i64 2]) (by simp [results, Tryd.results16, go_sem, y0, y1, y2, y3, y4, y5, y6, y7, y8, y9, y10, y11, y12, y13, y14, y15]) rfl ?_
  exact ⟨⟨.slice none 0 0, .slice none 0 0, .slice none 0 0, .slice none 0 0, rfl, Rd.nil _ _, Rd.nil _ _, Rd.nil _ _, Rd.nil _ _⟩, hBf⟩
set_option maxHeartbeats 4000000 in
set_option maxRecDepth 100000 in
theorem read_kind (v : Value) (l r : List Int) (k : Int) (w : World) (hG : Glob w) (hr : RdT w v l) (hk : BytesOk l) (hl : l.length ≤ 90000) (ht : vtake l = some (k, r)) (hp : (prt k).2 = false) :
    Calls Tryd.prog 16 #[v] w fun e w' => RdOut (none, [], 4) e w' ∧ Below w.heap.size w w' := by
  have hO0 := Blk.new w 31 #[.int .u64 0, .int .u64 0, .int .u64 0, .slice none 0 0, .int .u8 0, .int .u8 0, .int .u64 0, .int .u64 0, .int .u64 0, .int .u64 0, .bool false, .int .u64 0, .slice none 0 0, .int .u64 0, .int .u64 0, .slice none 0 0]
  have hB0 : Below w.heap.size w (w.alloc (.cells #[.int .u64 0, .int .u64 0, .int .u64 0, .slice none 0 0, .int .u8 0, .int .u8 0, .int .u64 0, .int .u64 0, .int .u64 0, .int .u64 0, .bool false, .int .u64 0, .slice none 0 0, .int .u64 0, .int .u64 0, .slice none 0 0] 31)) := (Below.refl _ _).alloc (Nat.le_refl _) _
  have hr0 := (hr.below hB0).1
  have hl2 : l.length ≤ 1099511627776 := by omega
  go_enter Tryd.func16, Tryd.ntmps16
  go_wp2_with fail
  (with_reducible refine (take_some v l k r _ hr0 hk hl2 ht).mono ?_)
  rintro e w1 ⟨v1, rfl, ho1, hb1⟩
  have hO1 := hO0.same hb1
  have hB1 := hB0.trans (hb1.mono hB0.size)
  have hG1 := hG.same hB1
  have hr1 := rdt_of_own ho1
  obtain ⟨A1, c1, rfl⟩ := hr1.form
  clear hO0 hB0 hb1 hr0
  go_wp2_with fail
  (with_reducible refine (parts_all k _ hG1).mono ?_)
  rintro e w2 ⟨rfl, hb2⟩
  have hO2 := hO1.same hb2
  have hB2 := hB1.trans (hb2.mono hB1.size)
  have hG2 := hG1.same hb2
  have hr2 := hr1.below hb2
  clear hO1 hB1 hb2 hr1 ho1 hG1
  rw [hp]
  simp only []
  have y0 : w2.cell? ⟨w.heap.size, 0, none⟩ = some (.int .u64 0) := hO2.cell 0
  have y1 : w2.cell? ⟨w.heap.size, 1, none⟩ = some (.int .u64 0) := hO2.cell 1
  have y2 : w2.cell? ⟨w.heap.size, 2, none⟩ = some (.int .u64 0) := hO2.cell 2
  have y3 : w2.cell? ⟨w.heap.size, 3, none⟩ = some (.slice none 0 0) := hO2.cell 3
  have y4 : w2.cell? ⟨w.heap.size, 4, none⟩ = some (.int .u8 0) := hO2.cell 4
  have y5 : w2.cell? ⟨w.heap.size, 5, none⟩ = some (.int .u8 0) := hO2.cell 5
  have y6 : w2.cell? ⟨w.heap.size, 6, none⟩ = some (.int .u64 0) := hO2.cell 6
  have y7 : w2.cell? ⟨w.heap.size, 7, none⟩ = some (.int .u64 0) := hO2.cell 7
  have y8 : w2.cell? ⟨w.heap.size, 8, none⟩ = some (.int .u64 0) := hO2.cell 8
  have y9 : w2.cell? ⟨w.heap.size, 9, none⟩ = some (.int .u64 0) := hO2.cell 9
  have y10 : w2.cell? ⟨w.heap.size, 10, none⟩ = some (.bool false) := hO2.cell 10
  have y11 : w2.cell? ⟨w.heap.size, 11, none⟩ = some (.int .u64 0) := hO2.cell 11
  have y12 : w2.cell? ⟨w.heap.size, 12, none⟩ = some (.slice none 0 0) := hO2.cell 12
  have y13 : w2.cell? ⟨w.heap.size, 13, none⟩ = some (.int .u64 0) := hO2.cell 13
  have y14 : w2.cell? ⟨w.heap.size, 14, none⟩ = some (.int .u64 0) := hO2.cell 14
  have y15 : w2.cell? ⟨w.heap.size, 15, none⟩ = some (.slice none 0 0) := hO2.cell 15
  have f0 := hO2.frozen 0
  have f1 := hO2.frozen 1
  have f2 := hO2.frozen 2
  have f3 := hO2.frozen 3
  have f4 := hO2.frozen 4
  have f5 := hO2.frozen 5
  have f6 := hO2.frozen 6
  have f7 := hO2.frozen 7
  have f8 := hO2.frozen 8
  have f9 := hO2.frozen 9
  have f10 := hO2.frozen 10
  have f11 := hO2.frozen 11
  have f12 := hO2.frozen 12
  have f13 := hO2.frozen 13
  have f14 := hO2.frozen 14
  have f15 := hO2.frozen 15
  go_wp2_with fail
  have hOf := hO2.set16 (.int .u64 0) (.int .u64 0) (.int .u64 0) (.slice none 0 0) (.int .u8 0) (.int .u8 0) (.int .u64 0) (.int .u64 0) (.int .u64 0) (.int .u64 0) (.bool false) (.int .u64 0) (.slice none 0 0) (.int .u64 0) (.int .u64 0) (.slice none 0 0)
  have hBf := below16 hB2 (Nat.le_refl w.heap.size) (.int .u64 0) (.int .u64 0) (.int .u64 0) (.slice none 0 0) (.int .u8 0) (.int .u8 0) (.int .u64 0) (.int .u64 0) (.int .u64 0) (.int .u64 0) (.bool false) (.int .u64 0) (.slice none 0 0) (.int .u64 0) (.int .u64 0) (.slice none 0 0)
  replace y0 : World.cell? _ ⟨w.heap.size, 0, none⟩ = some (.int .u64 0) := hOf.cell 0
  replace y1 : World.cell? _ ⟨w.heap.size, 1, none⟩ = some (.int .u64 0) := hOf.cell 1
  replace y2 : World.cell? _ ⟨w.heap.size, 2, none⟩ = some (.int .u64 0) := hOf.cell 2
  replace y3 : World.cell? _ ⟨w.heap.size, 3, none⟩ = some (.slice none 0 0) := hOf.cell 3
  replace y4 : World.cell? _ ⟨w.heap.size, 4, none⟩ = some (.int .u8 0) := hOf.cell 4
  replace y5 : World.cell? _ ⟨w.heap.size, 5, none⟩ = some (.int .u8 0) := hOf.cell 5
  replace y6 : World.cell? _ ⟨w.heap.size, 6, none⟩ = some (.int .u64 0) := hOf.cell 6
  replace y7 : World.cell? _ ⟨w.heap.size, 7, none⟩ = some (.int .u64 0) := hOf.cell 7
  replace y8 : World.cell? _ ⟨w.heap.size, 8, none⟩ = some (.int .u64 0) := hOf.cell 8
  replace y9 : World.cell? _ ⟨w.heap.size, 9, none⟩ = some (.int .u64 0) := hOf.cell 9
  replace y10 : World.cell? _ ⟨w.heap.size, 10, none⟩ = some (.bool false) := hOf.cell 10
  replace y11 : World.cell? _ ⟨w.heap.size, 11, none⟩ = some (.int .u64 0) := hOf.cell 11
  replace y12 : World.cell? _ ⟨w.heap.size, 12, none⟩ = some (.slice none 0 0) := hOf.cell 12
  replace y13 : World.cell? _ ⟨w.heap.size, 13, none⟩ = some (.int .u64 0) := hOf.cell 13
  replace y14 : World.cell? _ ⟨w.heap.size, 14, none⟩ = some (.int .u64 0) := hOf.cell 14
  replace y15 : World.cell? _ ⟨w.heap.size, 15, none⟩ = some (.slice none 0 0) := hOf.cell 15
  refine bodyPost_ret (v := .tuple #[.agg #[.int .u64 0, .int .u64 0, .int .u64 0, .slice none 0 0, .int .u8 0, .int .u8 0, .int .u64 0, .int .u64 0, .int .u64 0, .int .u64 0, .bool false, .int .u64 0, .slice none 0 0, .int .u64 0, .int .u64 0, .slice none 0 0], .slice none 0 0, .int .i64 4]) (by simp [results, Tryd.results16, go_sem, y0, y1, y2, y3, y4, y5, y6, y7, y8, y9, y10, y11, y12, y13, y14, y15]) rfl ?_
  exact ⟨⟨.slice none 0 0, .slice none 0 0, .slice none 0 0, .slice none 0 0, rfl, Rd.nil _ _, Rd.nil _ _, Rd.nil _ _, Rd.nil _ _⟩, hBf⟩

end Go.Proofs.YtjijmbpgfabgcaaDoor
