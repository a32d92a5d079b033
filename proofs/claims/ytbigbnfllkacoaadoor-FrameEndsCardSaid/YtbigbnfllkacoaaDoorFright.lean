/-
  A ResetStream is right.
-/
import Derived.Test.YtbigbnfllkacoaaDoorFset
namespace Go.Proofs.YtbigbnfllkacoaaDoor
open Go.RowKit
set_option linter.unusedVariables false
set_option linter.unusedSimpArgs false

theorem Blk.set9 {w : World} {g : Nat} {t : TypeId} {a0 a1 a2 a3 a4 a5 a6 a7 a8 : Value} (h : Blk w g t #[a0, a1, a2, a3, a4, a5, a6, a7, a8]) (b0 b1 b2 b3 b4 b5 b6 b7 b8 : Value) :
    Blk (((((((((w.setCell ⟨g, 0, none⟩ b0).setCell ⟨g, 1, none⟩ b1).setCell ⟨g, 2, none⟩ b2).setCell ⟨g, 3, none⟩ b3).setCell ⟨g, 4, none⟩ b4).setCell ⟨g, 5, none⟩ b5).setCell ⟨g, 6, none⟩ b6).setCell ⟨g, 7, none⟩ b7).setCell ⟨g, 8, none⟩ b8) g t #[b0, b1, b2, b3, b4, b5, b6, b7, b8] := by
  have h1 := ((((((((h.set_ 0 b0).set_ 1 b1).set_ 2 b2).set_ 3 b3).set_ 4 b4).set_ 5 b5).set_ 6 b6).set_ 7 b7).set_ 8 b8
  simpa using h1

set_option maxHeartbeats 4000000 in
set_option maxRecDepth 100000 in
theorem clear4 (i o c : Int) (w : World) : Calls Tryd.prog 39 #[.agg #[.int .u64 4, .int .u64 i, .int .u64 o, .int .u64 0, .int .u64 c, .bool false, .slice none 0 0, .slice none 0 0, .slice none 0 0]] w fun e w' => e = .returned (.bool true) ∧ Below w.heap.size w w' := by
  have hO := Blk.new w 26 #[.int .u64 4, .int .u64 i, .int .u64 o, .int .u64 0, .int .u64 c, .bool false, .slice none 0 0, .slice none 0 0, .slice none 0 0]
  have hB := (Below.refl w.heap.size w).alloc (Nat.le_refl _) (.cells #[.int .u64 4, .int .u64 i, .int .u64 o, .int .u64 0, .int .u64 c, .bool false, .slice none 0 0, .slice none 0 0, .slice none 0 0] 26)
  go_enter Tryd.func39, Tryd.ntmps39
  go_wp2_with fail
  (with_reducible refine (numbers4 _).mono ?_)
  rintro e w0 ⟨rfl, rfl⟩
  go_wp2_with fail
  go_loopw [16] (fun s16 wr => ((s16 = .int .i64 0 ∧ Blk wr w.heap.size 26 #[.int .u64 4, .int .u64 i, .int .u64 o, .int .u64 0, .int .u64 c, .bool false, .slice none 0 0, .slice none 0 0, .slice none 0 0]) ∨ (s16 = .int .i64 1 ∧ Blk wr w.heap.size 26 #[.int .u64 4, .int .u64 0, .int .u64 o, .int .u64 0, .int .u64 c, .bool false, .slice none 0 0, .slice none 0 0, .slice none 0 0]) ∨ (s16 = .int .i64 2 ∧ Blk wr w.heap.size 26 #[.int .u64 4, .int .u64 0, .int .u64 o, .int .u64 0, .int .u64 0, .bool false, .slice none 0 0, .slice none 0 0, .slice none 0 0]) ∨ (s16 = .int .i64 3 ∧ Blk wr w.heap.size 26 #[.int .u64 4, .int .u64 0, .int .u64 0, .int .u64 0, .int .u64 0, .bool false, .slice none 0 0, .slice none 0 0, .slice none 0 0])) ∧ Below w.heap.size w wr) (fun s16 _ => 3 - (intOf s16).toNat)
  case atStart => exact ⟨.inl ⟨rfl, hO⟩, hB⟩
  case round =>
    clear hO hB
    obtain ⟨⟨rfl, hO⟩ | ⟨rfl, hO⟩ | ⟨rfl, hO⟩ | ⟨rfl, hO⟩, hB⟩ := hrel
    · have c0 : World.cell? wr ⟨w.heap.size, 0, none⟩ = some (.int .u64 4) := hO.cell 0
      have c1 : World.cell? wr ⟨w.heap.size, 1, none⟩ = some (.int .u64 i) := hO.cell 1
      have c2 : World.cell? wr ⟨w.heap.size, 2, none⟩ = some (.int .u64 o) := hO.cell 2
      have c3 : World.cell? wr ⟨w.heap.size, 3, none⟩ = some (.int .u64 0) := hO.cell 3
      have c4 : World.cell? wr ⟨w.heap.size, 4, none⟩ = some (.int .u64 c) := hO.cell 4
      have c5 : World.cell? wr ⟨w.heap.size, 5, none⟩ = some (.bool false) := hO.cell 5
      have c6 : World.cell? wr ⟨w.heap.size, 6, none⟩ = some (.slice none 0 0) := hO.cell 6
      have c7 : World.cell? wr ⟨w.heap.size, 7, none⟩ = some (.slice none 0 0) := hO.cell 7
      have c8 : World.cell? wr ⟨w.heap.size, 8, none⟩ = some (.slice none 0 0) := hO.cell 8
      go_wp2_with fail
      go_region_law (go_simp; go_at_call 47; ((refine (setI 4 i o 0 c 0 _).mono ?_); rintro e wD ⟨rfl, hbD⟩; have hO1 : Blk wD w.heap.size 26 #[.int .u64 4, .int .u64 i, .int .u64 o, .int .u64 0, .int .u64 c, .bool false, .slice none 0 0, .slice none 0 0, .slice none 0 0] := hO.drew.same hbD; have hB1 : Below w.heap.size w wD := hB.trans ((below_drewN (Below.refl _ _) 1).trans (hbD.mono hB.size)); have f0 := hO1.frozen 0; have f1 := hO1.frozen 1; have f2 := hO1.frozen 2; have f3 := hO1.frozen 3; have f4 := hO1.frozen 4; have f5 := hO1.frozen 5; have f6 := hO1.frozen 6; have f7 := hO1.frozen 7; have f8 := hO1.frozen 8; have a0 : World.cell? wD ⟨w.heap.size, 0, none⟩ = some (.int .u64 4) := hO1.cell 0; have a1 : World.cell? wD ⟨w.heap.size, 1, none⟩ = some (.int .u64 i) := hO1.cell 1; have a2 : World.cell? wD ⟨w.heap.size, 2, none⟩ = some (.int .u64 o) := hO1.cell 2; have a3 : World.cell? wD ⟨w.heap.size, 3, none⟩ = some (.int .u64 0) := hO1.cell 3; have a4 : World.cell? wD ⟨w.heap.size, 4, none⟩ = some (.int .u64 c) := hO1.cell 4; have a5 : World.cell? wD ⟨w.heap.size, 5, none⟩ = some (.bool false) := hO1.cell 5; have a6 : World.cell? wD ⟨w.heap.size, 6, none⟩ = some (.slice none 0 0) := hO1.cell 6; have a7 : World.cell? wD ⟨w.heap.size, 7, none⟩ = some (.slice none 0 0) := hO1.cell 7; have a8 : World.cell? wD ⟨w.heap.size, 8, none⟩ = some (.slice none 0 0) := hO1.cell 8))
      all_goals go_wp2_with fail
      all_goals go_roundw
      all_goals first
        | exact ⟨.inr (.inl ⟨rfl, hO1.set9 _ _ _ _ _ _ _ _ _⟩), by (repeat (first | with_reducible exact hB1 | with_reducible refine Below.setCell ?_ (by simp) _))⟩
        | decide
    · have c0 : World.cell? wr ⟨w.heap.size, 0, none⟩ = some (.int .u64 4) := hO.cell 0
      have c1 : World.cell? wr ⟨w.heap.size, 1, none⟩ = some (.int .u64 0) := hO.cell 1
      have c2 : World.cell? wr ⟨w.heap.size, 2, none⟩ = some (.int .u64 o) := hO.cell 2
      have c3 : World.cell? wr ⟨w.heap.size, 3, none⟩ = some (.int .u64 0) := hO.cell 3
      have c4 : World.cell? wr ⟨w.heap.size, 4, none⟩ = some (.int .u64 c) := hO.cell 4
      have c5 : World.cell? wr ⟨w.heap.size, 5, none⟩ = some (.bool false) := hO.cell 5
      have c6 : World.cell? wr ⟨w.heap.size, 6, none⟩ = some (.slice none 0 0) := hO.cell 6
      have c7 : World.cell? wr ⟨w.heap.size, 7, none⟩ = some (.slice none 0 0) := hO.cell 7
      have c8 : World.cell? wr ⟨w.heap.size, 8, none⟩ = some (.slice none 0 0) := hO.cell 8
      go_wp2_with fail
      go_region_law (go_simp; go_at_call 47; ((refine (setC 4 0 o 0 c 0 _).mono ?_); rintro e wD ⟨rfl, hbD⟩; have hO1 : Blk wD w.heap.size 26 #[.int .u64 4, .int .u64 0, .int .u64 o, .int .u64 0, .int .u64 c, .bool false, .slice none 0 0, .slice none 0 0, .slice none 0 0] := hO.drew.same hbD; have hB1 : Below w.heap.size w wD := hB.trans ((below_drewN (Below.refl _ _) 1).trans (hbD.mono hB.size)); have f0 := hO1.frozen 0; have f1 := hO1.frozen 1; have f2 := hO1.frozen 2; have f3 := hO1.frozen 3; have f4 := hO1.frozen 4; have f5 := hO1.frozen 5; have f6 := hO1.frozen 6; have f7 := hO1.frozen 7; have f8 := hO1.frozen 8; have a0 : World.cell? wD ⟨w.heap.size, 0, none⟩ = some (.int .u64 4) := hO1.cell 0; have a1 : World.cell? wD ⟨w.heap.size, 1, none⟩ = some (.int .u64 0) := hO1.cell 1; have a2 : World.cell? wD ⟨w.heap.size, 2, none⟩ = some (.int .u64 o) := hO1.cell 2; have a3 : World.cell? wD ⟨w.heap.size, 3, none⟩ = some (.int .u64 0) := hO1.cell 3; have a4 : World.cell? wD ⟨w.heap.size, 4, none⟩ = some (.int .u64 c) := hO1.cell 4; have a5 : World.cell? wD ⟨w.heap.size, 5, none⟩ = some (.bool false) := hO1.cell 5; have a6 : World.cell? wD ⟨w.heap.size, 6, none⟩ = some (.slice none 0 0) := hO1.cell 6; have a7 : World.cell? wD ⟨w.heap.size, 7, none⟩ = some (.slice none 0 0) := hO1.cell 7; have a8 : World.cell? wD ⟨w.heap.size, 8, none⟩ = some (.slice none 0 0) := hO1.cell 8))
      all_goals go_wp2_with fail
      all_goals go_roundw
      all_goals first
        | exact ⟨.inr (.inr (.inl ⟨rfl, hO1.set9 _ _ _ _ _ _ _ _ _⟩)), by (repeat (first | with_reducible exact hB1 | with_reducible refine Below.setCell ?_ (by simp) _))⟩
        | decide
    · have c0 : World.cell? wr ⟨w.heap.size, 0, none⟩ = some (.int .u64 4) := hO.cell 0
      have c1 : World.cell? wr ⟨w.heap.size, 1, none⟩ = some (.int .u64 0) := hO.cell 1
      have c2 : World.cell? wr ⟨w.heap.size, 2, none⟩ = some (.int .u64 o) := hO.cell 2
      have c3 : World.cell? wr ⟨w.heap.size, 3, none⟩ = some (.int .u64 0) := hO.cell 3
      have c4 : World.cell? wr ⟨w.heap.size, 4, none⟩ = some (.int .u64 0) := hO.cell 4
      have c5 : World.cell? wr ⟨w.heap.size, 5, none⟩ = some (.bool false) := hO.cell 5
      have c6 : World.cell? wr ⟨w.heap.size, 6, none⟩ = some (.slice none 0 0) := hO.cell 6
      have c7 : World.cell? wr ⟨w.heap.size, 7, none⟩ = some (.slice none 0 0) := hO.cell 7
      have c8 : World.cell? wr ⟨w.heap.size, 8, none⟩ = some (.slice none 0 0) := hO.cell 8
      go_wp2_with fail
      go_region_law (go_simp; go_at_call 47; ((refine (setO 4 0 o 0 0 0 _).mono ?_); rintro e wD ⟨rfl, hbD⟩; have hO1 : Blk wD w.heap.size 26 #[.int .u64 4, .int .u64 0, .int .u64 o, .int .u64 0, .int .u64 0, .bool false, .slice none 0 0, .slice none 0 0, .slice none 0 0] := hO.drew.same hbD; have hB1 : Below w.heap.size w wD := hB.trans ((below_drewN (Below.refl _ _) 1).trans (hbD.mono hB.size)); have f0 := hO1.frozen 0; have f1 := hO1.frozen 1; have f2 := hO1.frozen 2; have f3 := hO1.frozen 3; have f4 := hO1.frozen 4; have f5 := hO1.frozen 5; have f6 := hO1.frozen 6; have f7 := hO1.frozen 7; have f8 := hO1.frozen 8; have a0 : World.cell? wD ⟨w.heap.size, 0, none⟩ = some (.int .u64 4) := hO1.cell 0; have a1 : World.cell? wD ⟨w.heap.size, 1, none⟩ = some (.int .u64 0) := hO1.cell 1; have a2 : World.cell? wD ⟨w.heap.size, 2, none⟩ = some (.int .u64 o) := hO1.cell 2; have a3 : World.cell? wD ⟨w.heap.size, 3, none⟩ = some (.int .u64 0) := hO1.cell 3; have a4 : World.cell? wD ⟨w.heap.size, 4, none⟩ = some (.int .u64 0) := hO1.cell 4; have a5 : World.cell? wD ⟨w.heap.size, 5, none⟩ = some (.bool false) := hO1.cell 5; have a6 : World.cell? wD ⟨w.heap.size, 6, none⟩ = some (.slice none 0 0) := hO1.cell 6; have a7 : World.cell? wD ⟨w.heap.size, 7, none⟩ = some (.slice none 0 0) := hO1.cell 7; have a8 : World.cell? wD ⟨w.heap.size, 8, none⟩ = some (.slice none 0 0) := hO1.cell 8))
      all_goals go_wp2_with fail
      all_goals go_roundw
      all_goals first
        | exact ⟨.inr (.inr (.inr (⟨rfl, hO1.set9 _ _ _ _ _ _ _ _ _⟩))), by (repeat (first | with_reducible exact hB1 | with_reducible refine Below.setCell ?_ (by simp) _))⟩
        | decide
    · have c0 : World.cell? wr ⟨w.heap.size, 0, none⟩ = some (.int .u64 4) := hO.cell 0
      have c1 : World.cell? wr ⟨w.heap.size, 1, none⟩ = some (.int .u64 0) := hO.cell 1
      have c2 : World.cell? wr ⟨w.heap.size, 2, none⟩ = some (.int .u64 0) := hO.cell 2
      have c3 : World.cell? wr ⟨w.heap.size, 3, none⟩ = some (.int .u64 0) := hO.cell 3
      have c4 : World.cell? wr ⟨w.heap.size, 4, none⟩ = some (.int .u64 0) := hO.cell 4
      have c5 : World.cell? wr ⟨w.heap.size, 5, none⟩ = some (.bool false) := hO.cell 5
      have c6 : World.cell? wr ⟨w.heap.size, 6, none⟩ = some (.slice none 0 0) := hO.cell 6
      have c7 : World.cell? wr ⟨w.heap.size, 7, none⟩ = some (.slice none 0 0) := hO.cell 7
      have c8 : World.cell? wr ⟨w.heap.size, 8, none⟩ = some (.slice none 0 0) := hO.cell 8
      have f0 := hO.frozen 0
      have f1 := hO.frozen 1
      have f2 := hO.frozen 2
      have f3 := hO.frozen 3
      have f4 := hO.frozen 4
      have f5 := hO.frozen 5
      have f6 := hO.frozen 6
      have f7 := hO.frozen 7
      have f8 := hO.frozen 8
      go_wp2_with fail
      go_ret
      exact ⟨rfl, hB⟩
theorem max4 (P : Program) (i o z c : Int) : ∃ m : Int, (m = i ∨ m = o ∨ m = z ∨ m = c) ∧ ∀ W : World, (Builtin.max_ #[22, 22, 22, 22] 22 #[.int .u64 i, .int .u64 o, .int .u64 z, .int .u64 c] : Sem _).run P W = .ok (.int .u64 m) W := by
  refine ⟨if (if (if o > i then o else i) < z then z else (if o > i then o else i)) < c then c else (if (if o > i then o else i) < z then z else (if o > i then o else i)), ?_, fun W => ?_⟩
  · split <;> split <;> split <;> simp_all
  · simp [Builtin.max_, Builtin.max2]

set_option maxHeartbeats 4000000 in
set_option maxRecDepth 100000 in
theorem right4 (i o c : Int) (w : World) (hi : 0 ≤ i ∧ i ≤ 4611686018427387903) (ho : 0 ≤ o ∧ o ≤ 4611686018427387903) (hc : 0 ≤ c ∧ c ≤ 4611686018427387903) : Calls Tryd.prog 22 #[.agg #[.int .u64 4, .int .u64 i, .int .u64 o, .int .u64 0, .int .u64 c, .bool false, .slice none 0 0, .slice none 0 0, .slice none 0 0]] w fun e w' => e = .returned (.bool true) ∧ Below w.heap.size w w' := by
  have hO := Blk.new w 26 #[.int .u64 4, .int .u64 i, .int .u64 o, .int .u64 0, .int .u64 c, .bool false, .slice none 0 0, .slice none 0 0, .slice none 0 0]
  have hB := (Below.refl w.heap.size w).alloc (Nat.le_refl _) (.cells #[.int .u64 4, .int .u64 i, .int .u64 o, .int .u64 0, .int .u64 c, .bool false, .slice none 0 0, .slice none 0 0, .slice none 0 0] 26)
  have c0 : World.cell? _ ⟨w.heap.size, 0, none⟩ = some (.int .u64 4) := hO.cell 0
  have c1 : World.cell? _ ⟨w.heap.size, 1, none⟩ = some (.int .u64 i) := hO.cell 1
  have c2 : World.cell? _ ⟨w.heap.size, 2, none⟩ = some (.int .u64 o) := hO.cell 2
  have c3 : World.cell? _ ⟨w.heap.size, 3, none⟩ = some (.int .u64 0) := hO.cell 3
  have c4 : World.cell? _ ⟨w.heap.size, 4, none⟩ = some (.int .u64 c) := hO.cell 4
  have c5 : World.cell? _ ⟨w.heap.size, 5, none⟩ = some (.bool false) := hO.cell 5
  have c6 : World.cell? _ ⟨w.heap.size, 6, none⟩ = some (.slice none 0 0) := hO.cell 6
  have c7 : World.cell? _ ⟨w.heap.size, 7, none⟩ = some (.slice none 0 0) := hO.cell 7
  have c8 : World.cell? _ ⟨w.heap.size, 8, none⟩ = some (.slice none 0 0) := hO.cell 8
  obtain ⟨m, hm, hmx⟩ := max4 Tryd.prog i o 0 c
  have hmle : ¬ (4611686018427387903 : Int) < m := by omega
  clear hm
  go_enter Tryd.func22, Tryd.ntmps22
  go_wp2_with fail
  (with_reducible refine (clear4 i o c _).mono ?_)
  rintro e w1 ⟨rfl, hb1⟩
  have hO1 := hO.same hb1
  have hB1 := hB.trans (hb1.mono hB.size)
  have a0 : World.cell? w1 ⟨w.heap.size, 0, none⟩ = some (.int .u64 4) := hO1.cell 0
  have a1 : World.cell? w1 ⟨w.heap.size, 1, none⟩ = some (.int .u64 i) := hO1.cell 1
  have a2 : World.cell? w1 ⟨w.heap.size, 2, none⟩ = some (.int .u64 o) := hO1.cell 2
  have a3 : World.cell? w1 ⟨w.heap.size, 3, none⟩ = some (.int .u64 0) := hO1.cell 3
  have a4 : World.cell? w1 ⟨w.heap.size, 4, none⟩ = some (.int .u64 c) := hO1.cell 4
  have a5 : World.cell? w1 ⟨w.heap.size, 5, none⟩ = some (.bool false) := hO1.cell 5
  have a6 : World.cell? w1 ⟨w.heap.size, 6, none⟩ = some (.slice none 0 0) := hO1.cell 6
  have a7 : World.cell? w1 ⟨w.heap.size, 7, none⟩ = some (.slice none 0 0) := hO1.cell 7
  have a8 : World.cell? w1 ⟨w.heap.size, 8, none⟩ = some (.slice none 0 0) := hO1.cell 8
  go_wp2_with fail
  go_ret
  exact ⟨rfl, hB1⟩

end Go.Proofs.YtbigbnfllkacoaaDoor
