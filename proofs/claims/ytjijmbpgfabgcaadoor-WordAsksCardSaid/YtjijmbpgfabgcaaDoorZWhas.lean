/-
  Has, of the program and of the reference. No condition.
-/
import Derived.Test.YtjijmbpgfabgcaaDoorZI
namespace Go.Proofs.YtjijmbpgfabgcaaDoor
open Go.RowKit
set_option linter.unusedVariables false
set_option linter.unusedSimpArgs false

def hasR (m : M) (g o : Int) : Bool := if m.kd = 3 then !(ltP g o m.sg m.so) && (decide (m.eg = 0) || decide (g ≤ m.eg)) else if m.kd = 22 then !(ltP g o m.sg m.so) && !(ltP m.eg m.eo g o) else false
set_option maxHeartbeats 4000000 in
set_option maxRecDepth 100000 in
theorem has_any (m : M) (nv rv vv : Value) (g o : Int) (w : World) : Calls Tryd.prog 21 #[.agg (m.cells nv rv vv), .agg #[.int .u64 g, .int .u64 o]] w fun e w' => e = .returned (.bool (hasR m g o)) ∧ Below w.heap.size w w' := by
  have hO0 := Blk.new w 31 (m.cells nv rv vv)
  have hP0 := Blk.new (w.alloc (.cells (m.cells nv rv vv) 31)) 25 #[.int .u64 g, .int .u64 o]
  rw [show (w.alloc (.cells (m.cells nv rv vv) 31)).heap.size = w.heap.size + 1 by simp] at hP0
  have hO1 := hO0.alloc (.cells #[.int .u64 g, .int .u64 o] 25)
  have hB1 : Below w.heap.size w ((w.alloc (.cells (m.cells nv rv vv) 31)).alloc (.cells #[.int .u64 g, .int .u64 o] 25)) := ((Below.refl w.heap.size w).alloc (Nat.le_refl _) _).alloc (by simp) _
  have hL1 := fun W => less_all g o m.sg m.so W
  have hL2 := fun W => less_all m.eg m.eo g o W
  obtain ⟨L1, h1⟩ : ∃ L, L = ltP g o m.sg m.so := ⟨_, rfl⟩
  obtain ⟨L2, h2⟩ : ∃ L, L = ltP m.eg m.eo g o := ⟨_, rfl⟩
  have hH : hasR m g o = if m.kd = 3 then !L1 && (decide (m.eg = 0) || decide (g ≤ m.eg)) else if m.kd = 22 then !L1 && !L2 else false := by rw [h1, h2]; rfl
  rw [← h1] at hL1
  rw [← h2] at hL2
  have HH := Lib.hid hH
  clear h1 h2 hH hO0
  have c0 : World.cell? ((w.alloc (.cells (m.cells nv rv vv) 31)).alloc (.cells #[.int .u64 g, .int .u64 o] 25)) ⟨w.heap.size, 0, none⟩ = some (.int .u64 m.kd) := hO1.cell 0
  have c6 : World.cell? ((w.alloc (.cells (m.cells nv rv vv) 31)).alloc (.cells #[.int .u64 g, .int .u64 o] 25)) ⟨w.heap.size, 6, none⟩ = some (.int .u64 m.sg) := hO1.cell 6
  have c7 : World.cell? ((w.alloc (.cells (m.cells nv rv vv) 31)).alloc (.cells #[.int .u64 g, .int .u64 o] 25)) ⟨w.heap.size, 7, none⟩ = some (.int .u64 m.so) := hO1.cell 7
  have c8 : World.cell? ((w.alloc (.cells (m.cells nv rv vv) 31)).alloc (.cells #[.int .u64 g, .int .u64 o] 25)) ⟨w.heap.size, 8, none⟩ = some (.int .u64 m.eg) := hO1.cell 8
  have c9 : World.cell? ((w.alloc (.cells (m.cells nv rv vv) 31)).alloc (.cells #[.int .u64 g, .int .u64 o] 25)) ⟨w.heap.size, 9, none⟩ = some (.int .u64 m.eo) := hO1.cell 9
  have cp0 : World.cell? ((w.alloc (.cells (m.cells nv rv vv) 31)).alloc (.cells #[.int .u64 g, .int .u64 o] 25)) ⟨w.heap.size + 1, 0, none⟩ = some (.int .u64 g) := hP0.cell 0
  have cp1 : World.cell? ((w.alloc (.cells (m.cells nv rv vv) 31)).alloc (.cells #[.int .u64 g, .int .u64 o] 25)) ⟨w.heap.size + 1, 1, none⟩ = some (.int .u64 o) := hP0.cell 1
  by_cases k3 : m.kd = 3
  · cases L1
    · by_cases k4 : m.eg = 0
      · go_enter Tryd.func21, Tryd.ntmps21
        go_wp2_with (first | (go_at_call 23; (with_reducible refine (hL2 _).mono ?_); rintro e w3 ⟨rfl, hb3⟩; have hB3 := HB2.trans (hb3.mono HB2.size)) | (go_at_call 23; (with_reducible refine (hL1 _).mono ?_); rintro e w2 ⟨rfl, hb2⟩; have hO2 := hO1.same hb2; have hP2 := hP0.same hb2; have hB2 := hB1.trans (hb2.mono hB1.size); have HB2 := hB2; have d0 : World.cell? w2 ⟨w.heap.size, 0, none⟩ = some (.int .u64 m.kd) := hO2.cell 0; have d6 : World.cell? w2 ⟨w.heap.size, 6, none⟩ = some (.int .u64 m.sg) := hO2.cell 6; have d7 : World.cell? w2 ⟨w.heap.size, 7, none⟩ = some (.int .u64 m.so) := hO2.cell 7; have d8 : World.cell? w2 ⟨w.heap.size, 8, none⟩ = some (.int .u64 m.eg) := hO2.cell 8; have d9 : World.cell? w2 ⟨w.heap.size, 9, none⟩ = some (.int .u64 m.eo) := hO2.cell 9; have dp0 : World.cell? w2 ⟨w.heap.size + 1, 0, none⟩ = some (.int .u64 g) := hP2.cell 0; have dp1 : World.cell? w2 ⟨w.heap.size + 1, 1, none⟩ = some (.int .u64 o) := hP2.cell 1))
        all_goals go_ret
        all_goals refine ⟨?_, by first | exact hB1 | exact hB2 | exact hB3⟩
        all_goals rw [HH.out]
        all_goals simp [*]
      · by_cases k5 : g ≤ m.eg
        · go_enter Tryd.func21, Tryd.ntmps21
          go_wp2_with (first | (go_at_call 23; (with_reducible refine (hL2 _).mono ?_); rintro e w3 ⟨rfl, hb3⟩; have hB3 := HB2.trans (hb3.mono HB2.size)) | (go_at_call 23; (with_reducible refine (hL1 _).mono ?_); rintro e w2 ⟨rfl, hb2⟩; have hO2 := hO1.same hb2; have hP2 := hP0.same hb2; have hB2 := hB1.trans (hb2.mono hB1.size); have HB2 := hB2; have d0 : World.cell? w2 ⟨w.heap.size, 0, none⟩ = some (.int .u64 m.kd) := hO2.cell 0; have d6 : World.cell? w2 ⟨w.heap.size, 6, none⟩ = some (.int .u64 m.sg) := hO2.cell 6; have d7 : World.cell? w2 ⟨w.heap.size, 7, none⟩ = some (.int .u64 m.so) := hO2.cell 7; have d8 : World.cell? w2 ⟨w.heap.size, 8, none⟩ = some (.int .u64 m.eg) := hO2.cell 8; have d9 : World.cell? w2 ⟨w.heap.size, 9, none⟩ = some (.int .u64 m.eo) := hO2.cell 9; have dp0 : World.cell? w2 ⟨w.heap.size + 1, 0, none⟩ = some (.int .u64 g) := hP2.cell 0; have dp1 : World.cell? w2 ⟨w.heap.size + 1, 1, none⟩ = some (.int .u64 o) := hP2.cell 1))
          all_goals go_ret
          all_goals refine ⟨?_, by first | exact hB1 | exact hB2 | exact hB3⟩
          all_goals rw [HH.out]
          all_goals simp [*]
        · go_enter Tryd.func21, Tryd.ntmps21
          go_wp2_with (first | (go_at_call 23; (with_reducible refine (hL2 _).mono ?_); rintro e w3 ⟨rfl, hb3⟩; have hB3 := HB2.trans (hb3.mono HB2.size)) | (go_at_call 23; (with_reducible refine (hL1 _).mono ?_); rintro e w2 ⟨rfl, hb2⟩; have hO2 := hO1.same hb2; have hP2 := hP0.same hb2; have hB2 := hB1.trans (hb2.mono hB1.size); have HB2 := hB2; have d0 : World.cell? w2 ⟨w.heap.size, 0, none⟩ = some (.int .u64 m.kd) := hO2.cell 0; have d6 : World.cell? w2 ⟨w.heap.size, 6, none⟩ = some (.int .u64 m.sg) := hO2.cell 6; have d7 : World.cell? w2 ⟨w.heap.size, 7, none⟩ = some (.int .u64 m.so) := hO2.cell 7; have d8 : World.cell? w2 ⟨w.heap.size, 8, none⟩ = some (.int .u64 m.eg) := hO2.cell 8; have d9 : World.cell? w2 ⟨w.heap.size, 9, none⟩ = some (.int .u64 m.eo) := hO2.cell 9; have dp0 : World.cell? w2 ⟨w.heap.size + 1, 0, none⟩ = some (.int .u64 g) := hP2.cell 0; have dp1 : World.cell? w2 ⟨w.heap.size + 1, 1, none⟩ = some (.int .u64 o) := hP2.cell 1))
          all_goals go_ret
          all_goals refine ⟨?_, by first | exact hB1 | exact hB2 | exact hB3⟩
          all_goals rw [HH.out]
          all_goals simp [*]
    · go_enter Tryd.func21, Tryd.ntmps21
      go_wp2_with (first | (go_at_call 23; (with_reducible refine (hL2 _).mono ?_); rintro e w3 ⟨rfl, hb3⟩; have hB3 := HB2.trans (hb3.mono HB2.size)) | (go_at_call 23; (with_reducible refine (hL1 _).mono ?_); rintro e w2 ⟨rfl, hb2⟩; have hO2 := hO1.same hb2; have hP2 := hP0.same hb2; have hB2 := hB1.trans (hb2.mono hB1.size); have HB2 := hB2; have d0 : World.cell? w2 ⟨w.heap.size, 0, none⟩ = some (.int .u64 m.kd) := hO2.cell 0; have d6 : World.cell? w2 ⟨w.heap.size, 6, none⟩ = some (.int .u64 m.sg) := hO2.cell 6; have d7 : World.cell? w2 ⟨w.heap.size, 7, none⟩ = some (.int .u64 m.so) := hO2.cell 7; have d8 : World.cell? w2 ⟨w.heap.size, 8, none⟩ = some (.int .u64 m.eg) := hO2.cell 8; have d9 : World.cell? w2 ⟨w.heap.size, 9, none⟩ = some (.int .u64 m.eo) := hO2.cell 9; have dp0 : World.cell? w2 ⟨w.heap.size + 1, 0, none⟩ = some (.int .u64 g) := hP2.cell 0; have dp1 : World.cell? w2 ⟨w.heap.size + 1, 1, none⟩ = some (.int .u64 o) := hP2.cell 1))
      all_goals go_ret
      all_goals refine ⟨?_, by first | exact hB1 | exact hB2 | exact hB3⟩
      all_goals rw [HH.out]
      all_goals simp [*]
  · by_cases k6 : m.kd = 22
    · cases L1
      · cases L2
        · go_enter Tryd.func21, Tryd.ntmps21
          go_wp2_with (first | (go_at_call 23; (with_reducible refine (hL2 _).mono ?_); rintro e w3 ⟨rfl, hb3⟩; have hB3 := HB2.trans (hb3.mono HB2.size)) | (go_at_call 23; (with_reducible refine (hL1 _).mono ?_); rintro e w2 ⟨rfl, hb2⟩; have hO2 := hO1.same hb2; have hP2 := hP0.same hb2; have hB2 := hB1.trans (hb2.mono hB1.size); have HB2 := hB2; have d0 : World.cell? w2 ⟨w.heap.size, 0, none⟩ = some (.int .u64 m.kd) := hO2.cell 0; have d6 : World.cell? w2 ⟨w.heap.size, 6, none⟩ = some (.int .u64 m.sg) := hO2.cell 6; have d7 : World.cell? w2 ⟨w.heap.size, 7, none⟩ = some (.int .u64 m.so) := hO2.cell 7; have d8 : World.cell? w2 ⟨w.heap.size, 8, none⟩ = some (.int .u64 m.eg) := hO2.cell 8; have d9 : World.cell? w2 ⟨w.heap.size, 9, none⟩ = some (.int .u64 m.eo) := hO2.cell 9; have dp0 : World.cell? w2 ⟨w.heap.size + 1, 0, none⟩ = some (.int .u64 g) := hP2.cell 0; have dp1 : World.cell? w2 ⟨w.heap.size + 1, 1, none⟩ = some (.int .u64 o) := hP2.cell 1))
          all_goals go_ret
          all_goals refine ⟨?_, by first | exact hB1 | exact hB2 | exact hB3⟩
          all_goals rw [HH.out]
          all_goals simp [*]
        · go_enter Tryd.func21, Tryd.ntmps21
          go_wp2_with (first | (go_at_call 23; (with_reducible refine (hL2 _).mono ?_); rintro e w3 ⟨rfl, hb3⟩; have hB3 := HB2.trans (hb3.mono HB2.size)) | (go_at_call 23; (with_reducible refine (hL1 _).mono ?_); rintro e w2 ⟨rfl, hb2⟩; have hO2 := hO1.same hb2; have hP2 := hP0.same hb2; have hB2 := hB1.trans (hb2.mono hB1.size); have HB2 := hB2; have d0 : World.cell? w2 ⟨w.heap.size, 0, none⟩ = some (.int .u64 m.kd) := hO2.cell 0; have d6 : World.cell? w2 ⟨w.heap.size, 6, none⟩ = some (.int .u64 m.sg) := hO2.cell 6; have d7 : World.cell? w2 ⟨w.heap.size, 7, none⟩ = some (.int .u64 m.so) := hO2.cell 7; have d8 : World.cell? w2 ⟨w.heap.size, 8, none⟩ = some (.int .u64 m.eg) := hO2.cell 8; have d9 : World.cell? w2 ⟨w.heap.size, 9, none⟩ = some (.int .u64 m.eo) := hO2.cell 9; have dp0 : World.cell? w2 ⟨w.heap.size + 1, 0, none⟩ = some (.int .u64 g) := hP2.cell 0; have dp1 : World.cell? w2 ⟨w.heap.size + 1, 1, none⟩ = some (.int .u64 o) := hP2.cell 1))
          all_goals go_ret
          all_goals refine ⟨?_, by first | exact hB1 | exact hB2 | exact hB3⟩
          all_goals rw [HH.out]
          all_goals simp [*]
      · go_enter Tryd.func21, Tryd.ntmps21
        go_wp2_with (first | (go_at_call 23; (with_reducible refine (hL2 _).mono ?_); rintro e w3 ⟨rfl, hb3⟩; have hB3 := HB2.trans (hb3.mono HB2.size)) | (go_at_call 23; (with_reducible refine (hL1 _).mono ?_); rintro e w2 ⟨rfl, hb2⟩; have hO2 := hO1.same hb2; have hP2 := hP0.same hb2; have hB2 := hB1.trans (hb2.mono hB1.size); have HB2 := hB2; have d0 : World.cell? w2 ⟨w.heap.size, 0, none⟩ = some (.int .u64 m.kd) := hO2.cell 0; have d6 : World.cell? w2 ⟨w.heap.size, 6, none⟩ = some (.int .u64 m.sg) := hO2.cell 6; have d7 : World.cell? w2 ⟨w.heap.size, 7, none⟩ = some (.int .u64 m.so) := hO2.cell 7; have d8 : World.cell? w2 ⟨w.heap.size, 8, none⟩ = some (.int .u64 m.eg) := hO2.cell 8; have d9 : World.cell? w2 ⟨w.heap.size, 9, none⟩ = some (.int .u64 m.eo) := hO2.cell 9; have dp0 : World.cell? w2 ⟨w.heap.size + 1, 0, none⟩ = some (.int .u64 g) := hP2.cell 0; have dp1 : World.cell? w2 ⟨w.heap.size + 1, 1, none⟩ = some (.int .u64 o) := hP2.cell 1))
        all_goals go_ret
        all_goals refine ⟨?_, by first | exact hB1 | exact hB2 | exact hB3⟩
        all_goals rw [HH.out]
        all_goals simp [*]
    · go_enter Tryd.func21, Tryd.ntmps21
      go_wp2_with (first | (go_at_call 23; (with_reducible refine (hL2 _).mono ?_); rintro e w3 ⟨rfl, hb3⟩; have hB3 := HB2.trans (hb3.mono HB2.size)) | (go_at_call 23; (with_reducible refine (hL1 _).mono ?_); rintro e w2 ⟨rfl, hb2⟩; have hO2 := hO1.same hb2; have hP2 := hP0.same hb2; have hB2 := hB1.trans (hb2.mono hB1.size); have HB2 := hB2; have d0 : World.cell? w2 ⟨w.heap.size, 0, none⟩ = some (.int .u64 m.kd) := hO2.cell 0; have d6 : World.cell? w2 ⟨w.heap.size, 6, none⟩ = some (.int .u64 m.sg) := hO2.cell 6; have d7 : World.cell? w2 ⟨w.heap.size, 7, none⟩ = some (.int .u64 m.so) := hO2.cell 7; have d8 : World.cell? w2 ⟨w.heap.size, 8, none⟩ = some (.int .u64 m.eg) := hO2.cell 8; have d9 : World.cell? w2 ⟨w.heap.size, 9, none⟩ = some (.int .u64 m.eo) := hO2.cell 9; have dp0 : World.cell? w2 ⟨w.heap.size + 1, 0, none⟩ = some (.int .u64 g) := hP2.cell 0; have dp1 : World.cell? w2 ⟨w.heap.size + 1, 1, none⟩ = some (.int .u64 o) := hP2.cell 1))
      all_goals go_ret
      all_goals refine ⟨?_, by first | exact hB1 | exact hB2 | exact hB3⟩
      all_goals rw [HH.out]
      all_goals simp [*]
set_option maxHeartbeats 4000000 in
set_option maxRecDepth 100000 in
theorem rhas_any (m : M) (nv rv vv : Value) (g o : Int) (w : World) : Calls Tryd.prog 22 #[.agg (m.cells nv rv vv), .agg #[.int .u64 g, .int .u64 o]] w fun e w' => e = .returned (.bool (hasR m g o)) ∧ Below w.heap.size w w' := by
  have hO0 := Blk.new w 28 (m.cells nv rv vv)
  have hP0 := Blk.new (w.alloc (.cells (m.cells nv rv vv) 28)) 25 #[.int .u64 g, .int .u64 o]
  rw [show (w.alloc (.cells (m.cells nv rv vv) 28)).heap.size = w.heap.size + 1 by simp] at hP0
  have hO1 := hO0.alloc (.cells #[.int .u64 g, .int .u64 o] 25)
  have hB1 : Below w.heap.size w ((w.alloc (.cells (m.cells nv rv vv) 28)).alloc (.cells #[.int .u64 g, .int .u64 o] 25)) := ((Below.refl w.heap.size w).alloc (Nat.le_refl _) _).alloc (by simp) _
  have hL1 := fun W => rless_all g o m.sg m.so W
  have hL2 := fun W => rless_all m.eg m.eo g o W
  obtain ⟨L1, h1⟩ : ∃ L, L = ltP g o m.sg m.so := ⟨_, rfl⟩
  obtain ⟨L2, h2⟩ : ∃ L, L = ltP m.eg m.eo g o := ⟨_, rfl⟩
  have hH : hasR m g o = if m.kd = 3 then !L1 && (decide (m.eg = 0) || decide (g ≤ m.eg)) else if m.kd = 22 then !L1 && !L2 else false := by rw [h1, h2]; rfl
  rw [← h1] at hL1
  rw [← h2] at hL2
  have HH := Lib.hid hH
  clear h1 h2 hH hO0
  have c0 : World.cell? ((w.alloc (.cells (m.cells nv rv vv) 28)).alloc (.cells #[.int .u64 g, .int .u64 o] 25)) ⟨w.heap.size, 0, none⟩ = some (.int .u64 m.kd) := hO1.cell 0
  have c6 : World.cell? ((w.alloc (.cells (m.cells nv rv vv) 28)).alloc (.cells #[.int .u64 g, .int .u64 o] 25)) ⟨w.heap.size, 6, none⟩ = some (.int .u64 m.sg) := hO1.cell 6
  have c7 : World.cell? ((w.alloc (.cells (m.cells nv rv vv) 28)).alloc (.cells #[.int .u64 g, .int .u64 o] 25)) ⟨w.heap.size, 7, none⟩ = some (.int .u64 m.so) := hO1.cell 7
  have c8 : World.cell? ((w.alloc (.cells (m.cells nv rv vv) 28)).alloc (.cells #[.int .u64 g, .int .u64 o] 25)) ⟨w.heap.size, 8, none⟩ = some (.int .u64 m.eg) := hO1.cell 8
  have c9 : World.cell? ((w.alloc (.cells (m.cells nv rv vv) 28)).alloc (.cells #[.int .u64 g, .int .u64 o] 25)) ⟨w.heap.size, 9, none⟩ = some (.int .u64 m.eo) := hO1.cell 9
  have cp0 : World.cell? ((w.alloc (.cells (m.cells nv rv vv) 28)).alloc (.cells #[.int .u64 g, .int .u64 o] 25)) ⟨w.heap.size + 1, 0, none⟩ = some (.int .u64 g) := hP0.cell 0
  have cp1 : World.cell? ((w.alloc (.cells (m.cells nv rv vv) 28)).alloc (.cells #[.int .u64 g, .int .u64 o] 25)) ⟨w.heap.size + 1, 1, none⟩ = some (.int .u64 o) := hP0.cell 1
  by_cases k3 : m.kd = 3
  · cases L1
    · by_cases k4 : m.eg = 0
      · go_enter Tryd.func22, Tryd.ntmps22
        go_wp2_with (first | (go_at_call 24; (with_reducible refine (hL2 _).mono ?_); rintro e w3 ⟨rfl, hb3⟩; have hB3 := HB2.trans (hb3.mono HB2.size)) | (go_at_call 24; (with_reducible refine (hL1 _).mono ?_); rintro e w2 ⟨rfl, hb2⟩; have hO2 := hO1.same hb2; have hP2 := hP0.same hb2; have hB2 := hB1.trans (hb2.mono hB1.size); have HB2 := hB2; have d0 : World.cell? w2 ⟨w.heap.size, 0, none⟩ = some (.int .u64 m.kd) := hO2.cell 0; have d6 : World.cell? w2 ⟨w.heap.size, 6, none⟩ = some (.int .u64 m.sg) := hO2.cell 6; have d7 : World.cell? w2 ⟨w.heap.size, 7, none⟩ = some (.int .u64 m.so) := hO2.cell 7; have d8 : World.cell? w2 ⟨w.heap.size, 8, none⟩ = some (.int .u64 m.eg) := hO2.cell 8; have d9 : World.cell? w2 ⟨w.heap.size, 9, none⟩ = some (.int .u64 m.eo) := hO2.cell 9; have dp0 : World.cell? w2 ⟨w.heap.size + 1, 0, none⟩ = some (.int .u64 g) := hP2.cell 0; have dp1 : World.cell? w2 ⟨w.heap.size + 1, 1, none⟩ = some (.int .u64 o) := hP2.cell 1))
        all_goals go_ret
        all_goals refine ⟨?_, by first | exact hB1 | exact hB2 | exact hB3⟩
        all_goals rw [HH.out]
        all_goals simp [*]
      · by_cases k5 : g ≤ m.eg
        · go_enter Tryd.func22, Tryd.ntmps22
          go_wp2_with (first | (go_at_call 24; (with_reducible refine (hL2 _).mono ?_); rintro e w3 ⟨rfl, hb3⟩; have hB3 := HB2.trans (hb3.mono HB2.size)) | (go_at_call 24; (with_reducible refine (hL1 _).mono ?_); rintro e w2 ⟨rfl, hb2⟩; have hO2 := hO1.same hb2; have hP2 := hP0.same hb2; have hB2 := hB1.trans (hb2.mono hB1.size); have HB2 := hB2; have d0 : World.cell? w2 ⟨w.heap.size, 0, none⟩ = some (.int .u64 m.kd) := hO2.cell 0; have d6 : World.cell? w2 ⟨w.heap.size, 6, none⟩ = some (.int .u64 m.sg) := hO2.cell 6; have d7 : World.cell? w2 ⟨w.heap.size, 7, none⟩ = some (.int .u64 m.so) := hO2.cell 7; have d8 : World.cell? w2 ⟨w.heap.size, 8, none⟩ = some (.int .u64 m.eg) := hO2.cell 8; have d9 : World.cell? w2 ⟨w.heap.size, 9, none⟩ = some (.int .u64 m.eo) := hO2.cell 9; have dp0 : World.cell? w2 ⟨w.heap.size + 1, 0, none⟩ = some (.int .u64 g) := hP2.cell 0; have dp1 : World.cell? w2 ⟨w.heap.size + 1, 1, none⟩ = some (.int .u64 o) := hP2.cell 1))
          all_goals go_ret
          all_goals refine ⟨?_, by first | exact hB1 | exact hB2 | exact hB3⟩
          all_goals rw [HH.out]
          all_goals simp [*]
        · go_enter Tryd.func22, Tryd.ntmps22
          go_wp2_with (first | (go_at_call 24; (with_reducible refine (hL2 _).mono ?_); rintro e w3 ⟨rfl, hb3⟩; have hB3 := HB2.trans (hb3.mono HB2.size)) | (go_at_call 24; (with_reducible refine (hL1 _).mono ?_); rintro e w2 ⟨rfl, hb2⟩; have hO2 := hO1.same hb2; have hP2 := hP0.same hb2; have hB2 := hB1.trans (hb2.mono hB1.size); have HB2 := hB2; have d0 : World.cell? w2 ⟨w.heap.size, 0, none⟩ = some (.int .u64 m.kd) := hO2.cell 0; have d6 : World.cell? w2 ⟨w.heap.size, 6, none⟩ = some (.int .u64 m.sg) := hO2.cell 6; have d7 : World.cell? w2 ⟨w.heap.size, 7, none⟩ = some (.int .u64 m.so) := hO2.cell 7; have d8 : World.cell? w2 ⟨w.heap.size, 8, none⟩ = some (.int .u64 m.eg) := hO2.cell 8; have d9 : World.cell? w2 ⟨w.heap.size, 9, none⟩ = some (.int .u64 m.eo) := hO2.cell 9; have dp0 : World.cell? w2 ⟨w.heap.size + 1, 0, none⟩ = some (.int .u64 g) := hP2.cell 0; have dp1 : World.cell? w2 ⟨w.heap.size + 1, 1, none⟩ = some (.int .u64 o) := hP2.cell 1))
          all_goals go_ret
          all_goals refine ⟨?_, by first | exact hB1 | exact hB2 | exact hB3⟩
          all_goals rw [HH.out]
          all_goals simp [*]
    · go_enter Tryd.func22, Tryd.ntmps22
      go_wp2_with (first | (go_at_call 24; (with_reducible refine (hL2 _).mono ?_); rintro e w3 ⟨rfl, hb3⟩; have hB3 := HB2.trans (hb3.mono HB2.size)) | (go_at_call 24; (with_reducible refine (hL1 _).mono ?_); rintro e w2 ⟨rfl, hb2⟩; have hO2 := hO1.same hb2; have hP2 := hP0.same hb2; have hB2 := hB1.trans (hb2.mono hB1.size); have HB2 := hB2; have d0 : World.cell? w2 ⟨w.heap.size, 0, none⟩ = some (.int .u64 m.kd) := hO2.cell 0; have d6 : World.cell? w2 ⟨w.heap.size, 6, none⟩ = some (.int .u64 m.sg) := hO2.cell 6; have d7 : World.cell? w2 ⟨w.heap.size, 7, none⟩ = some (.int .u64 m.so) := hO2.cell 7; have d8 : World.cell? w2 ⟨w.heap.size, 8, none⟩ = some (.int .u64 m.eg) := hO2.cell 8; have d9 : World.cell? w2 ⟨w.heap.size, 9, none⟩ = some (.int .u64 m.eo) := hO2.cell 9; have dp0 : World.cell? w2 ⟨w.heap.size + 1, 0, none⟩ = some (.int .u64 g) := hP2.cell 0; have dp1 : World.cell? w2 ⟨w.heap.size + 1, 1, none⟩ = some (.int .u64 o) := hP2.cell 1))
      all_goals go_ret
      all_goals refine ⟨?_, by first | exact hB1 | exact hB2 | exact hB3⟩
      all_goals rw [HH.out]
      all_goals simp [*]
  · by_cases k6 : m.kd = 22
    · cases L1
      · cases L2
        · go_enter Tryd.func22, Tryd.ntmps22
          go_wp2_with (first | (go_at_call 24; (with_reducible refine (hL2 _).mono ?_); rintro e w3 ⟨rfl, hb3⟩; have hB3 := HB2.trans (hb3.mono HB2.size)) | (go_at_call 24; (with_reducible refine (hL1 _).mono ?_); rintro e w2 ⟨rfl, hb2⟩; have hO2 := hO1.same hb2; have hP2 := hP0.same hb2; have hB2 := hB1.trans (hb2.mono hB1.size); have HB2 := hB2; have d0 : World.cell? w2 ⟨w.heap.size, 0, none⟩ = some (.int .u64 m.kd) := hO2.cell 0; have d6 : World.cell? w2 ⟨w.heap.size, 6, none⟩ = some (.int .u64 m.sg) := hO2.cell 6; have d7 : World.cell? w2 ⟨w.heap.size, 7, none⟩ = some (.int .u64 m.so) := hO2.cell 7; have d8 : World.cell? w2 ⟨w.heap.size, 8, none⟩ = some (.int .u64 m.eg) := hO2.cell 8; have d9 : World.cell? w2 ⟨w.heap.size, 9, none⟩ = some (.int .u64 m.eo) := hO2.cell 9; have dp0 : World.cell? w2 ⟨w.heap.size + 1, 0, none⟩ = some (.int .u64 g) := hP2.cell 0; have dp1 : World.cell? w2 ⟨w.heap.size + 1, 1, none⟩ = some (.int .u64 o) := hP2.cell 1))
          all_goals go_ret
          all_goals refine ⟨?_, by first | exact hB1 | exact hB2 | exact hB3⟩
          all_goals rw [HH.out]
          all_goals simp [*]
        · go_enter Tryd.func22, Tryd.ntmps22
          go_wp2_with (first | (go_at_call 24; (with_reducible refine (hL2 _).mono ?_); rintro e w3 ⟨rfl, hb3⟩; have hB3 := HB2.trans (hb3.mono HB2.size)) | (go_at_call 24; (with_reducible refine (hL1 _).mono ?_); rintro e w2 ⟨rfl, hb2⟩; have hO2 := hO1.same hb2; have hP2 := hP0.same hb2; have hB2 := hB1.trans (hb2.mono hB1.size); have HB2 := hB2; have d0 : World.cell? w2 ⟨w.heap.size, 0, none⟩ = some (.int .u64 m.kd) := hO2.cell 0; have d6 : World.cell? w2 ⟨w.heap.size, 6, none⟩ = some (.int .u64 m.sg) := hO2.cell 6; have d7 : World.cell? w2 ⟨w.heap.size, 7, none⟩ = some (.int .u64 m.so) := hO2.cell 7; have d8 : World.cell? w2 ⟨w.heap.size, 8, none⟩ = some (.int .u64 m.eg) := hO2.cell 8; have d9 : World.cell? w2 ⟨w.heap.size, 9, none⟩ = some (.int .u64 m.eo) := hO2.cell 9; have dp0 : World.cell? w2 ⟨w.heap.size + 1, 0, none⟩ = some (.int .u64 g) := hP2.cell 0; have dp1 : World.cell? w2 ⟨w.heap.size + 1, 1, none⟩ = some (.int .u64 o) := hP2.cell 1))
          all_goals go_ret
          all_goals refine ⟨?_, by first | exact hB1 | exact hB2 | exact hB3⟩
          all_goals rw [HH.out]
          all_goals simp [*]
      · go_enter Tryd.func22, Tryd.ntmps22
        go_wp2_with (first | (go_at_call 24; (with_reducible refine (hL2 _).mono ?_); rintro e w3 ⟨rfl, hb3⟩; have hB3 := HB2.trans (hb3.mono HB2.size)) | (go_at_call 24; (with_reducible refine (hL1 _).mono ?_); rintro e w2 ⟨rfl, hb2⟩; have hO2 := hO1.same hb2; have hP2 := hP0.same hb2; have hB2 := hB1.trans (hb2.mono hB1.size); have HB2 := hB2; have d0 : World.cell? w2 ⟨w.heap.size, 0, none⟩ = some (.int .u64 m.kd) := hO2.cell 0; have d6 : World.cell? w2 ⟨w.heap.size, 6, none⟩ = some (.int .u64 m.sg) := hO2.cell 6; have d7 : World.cell? w2 ⟨w.heap.size, 7, none⟩ = some (.int .u64 m.so) := hO2.cell 7; have d8 : World.cell? w2 ⟨w.heap.size, 8, none⟩ = some (.int .u64 m.eg) := hO2.cell 8; have d9 : World.cell? w2 ⟨w.heap.size, 9, none⟩ = some (.int .u64 m.eo) := hO2.cell 9; have dp0 : World.cell? w2 ⟨w.heap.size + 1, 0, none⟩ = some (.int .u64 g) := hP2.cell 0; have dp1 : World.cell? w2 ⟨w.heap.size + 1, 1, none⟩ = some (.int .u64 o) := hP2.cell 1))
        all_goals go_ret
        all_goals refine ⟨?_, by first | exact hB1 | exact hB2 | exact hB3⟩
        all_goals rw [HH.out]
        all_goals simp [*]
    · go_enter Tryd.func22, Tryd.ntmps22
      go_wp2_with (first | (go_at_call 24; (with_reducible refine (hL2 _).mono ?_); rintro e w3 ⟨rfl, hb3⟩; have hB3 := HB2.trans (hb3.mono HB2.size)) | (go_at_call 24; (with_reducible refine (hL1 _).mono ?_); rintro e w2 ⟨rfl, hb2⟩; have hO2 := hO1.same hb2; have hP2 := hP0.same hb2; have hB2 := hB1.trans (hb2.mono hB1.size); have HB2 := hB2; have d0 : World.cell? w2 ⟨w.heap.size, 0, none⟩ = some (.int .u64 m.kd) := hO2.cell 0; have d6 : World.cell? w2 ⟨w.heap.size, 6, none⟩ = some (.int .u64 m.sg) := hO2.cell 6; have d7 : World.cell? w2 ⟨w.heap.size, 7, none⟩ = some (.int .u64 m.so) := hO2.cell 7; have d8 : World.cell? w2 ⟨w.heap.size, 8, none⟩ = some (.int .u64 m.eg) := hO2.cell 8; have d9 : World.cell? w2 ⟨w.heap.size, 9, none⟩ = some (.int .u64 m.eo) := hO2.cell 9; have dp0 : World.cell? w2 ⟨w.heap.size + 1, 0, none⟩ = some (.int .u64 g) := hP2.cell 0; have dp1 : World.cell? w2 ⟨w.heap.size + 1, 1, none⟩ = some (.int .u64 o) := hP2.cell 1))
      all_goals go_ret
      all_goals refine ⟨?_, by first | exact hB1 | exact hB2 | exact hB3⟩
      all_goals rw [HH.out]
      all_goals simp [*]

end Go.Proofs.YtjijmbpgfabgcaaDoor
