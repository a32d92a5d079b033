/-
  A ResetStream is read.
-/
import Derived.Test.YtbigbnfllkacoaaDoorFread
namespace Go.Proofs.YtbigbnfllkacoaaDoor
open Go.RowKit
set_option linter.unusedVariables false
set_option linter.unusedSimpArgs false


set_option maxHeartbeats 4000000 in
set_option maxRecDepth 100000 in
theorem read4 (v : Value) (l l1 l2 : List Int) (n1 n2 n3 : Int) (w : World) (hr : RdT w v (4 :: l)) (hk : BytesOk (4 :: l))
    (hk0 : BytesOk l) (hk1 : BytesOk l1) (hk2 : BytesOk l2) (hl0 : l.length ≤ 1000) (hl1 : l1.length ≤ 1000) (hl2 : l2.length ≤ 1000) (ht0 : vtake (4 :: l) = some (4, l)) (ht1 : vtake l = some (n1, l1)) (ht2 : vtake l1 = some (n2, l2)) (ht3 : vtake l2 = some (n3, []))
    (hi : 0 ≤ n1 ∧ n1 ≤ 4611686018427387903) (hc : 0 ≤ n2 ∧ n2 ≤ 4611686018427387903) (ho : 0 ≤ n3 ∧ n3 ≤ 4611686018427387903) :
    Calls Tryd.prog 15 #[v] w fun e w' => ∃ rv, e = .returned (.tuple #[.agg #[.int .u64 4, .int .u64 n1, .int .u64 n3, .int .u64 0, .int .u64 n2, .bool false, .slice none 0 0, .slice none 0 0, .slice none 0 0], rv, .int .i64 0]) ∧ Rd w' .u8 rv [] ∧ Below w.heap.size w w' := by
  have hll : (4 :: l : List Int).length ≤ 1000000 := by simp; omega
  obtain ⟨Av, cv, rfl⟩ := hr.form
  obtain ⟨N, hN⟩ : ∃ N, N = (4 :: l : List Int).length := ⟨_, rfl⟩
  rw [← hN] at hr
  have HN := Lib.hid hN
  have hNl : N ≤ 1000000 := by omega
  have hRC := (Blk.new w 26 #[.int .u64 0, .int .u64 0, .int .u64 0, .int .u64 0, .int .u64 0, .bool false, .slice none 0 0, .slice none 0 0, .slice none 0 0]).alloc (.cells #[.slice Av N cv, .int .i64 0] 70)
  have hRB := Blk.new (w.alloc (.cells #[.int .u64 0, .int .u64 0, .int .u64 0, .int .u64 0, .int .u64 0, .bool false, .slice none 0 0, .slice none 0 0, .slice none 0 0] 26)) 70 #[.slice Av N cv, .int .i64 0]
  rw [World.size_alloc] at hRB
  have hB := ((Below.refl w.heap.size w).alloc (Nat.le_refl _) (.cells #[.int .u64 0, .int .u64 0, .int .u64 0, .int .u64 0, .int .u64 0, .bool false, .slice none 0 0, .slice none 0 0, .slice none 0 0] 26)).alloc (by simp) (.cells #[.slice Av N cv, .int .i64 0] 70)
  have hr1 := hr.below hB
  rw [← hN]
  clear hN
  go_enter Tryd.func15, Tryd.ntmps15
  go_wp2_with fail
  (with_reducible refine (rnum_yes (w.heap.size + 1) _ (4 :: l) 4 l _ hRB hr1 hk hll ht0).mono ?_)
  rintro e w1 ⟨rfl, pv, hR1, hp1, hg1⟩
  have hC1 := hRC.grown hg1 (by simp)
  have hB1 := hB.grown hg1 hB.size (fun m hm => by simp only [Option.some.injEq] at hm; omega)
  have hv1 := hr.below hB1
  have e1 : w1.cell? ⟨w.heap.size + 1, 1, none⟩ = some (.int .i64 0) := hR1.cell 1
  have hv11 := hv1.1
  have hs1 := hB1.size
  clear hRC hRB hB hr1 hg1
  go_wp2_with fail
  (with_reducible refine (kind4 _).mono ?_)
  rintro e w2 ⟨rfl, rfl⟩
  have hle := least_any _ (4 :: l) 4 l true w1 hv11 hk (by omega) ht0 (by simp [vsz])
  go_wp2_with fail
  (with_reducible refine hle.mono ?_)
  rintro e w2 ⟨rfl, hb2⟩
  have hR2 := hR1.same hb2
  have hC2 := hC1.same hb2
  have hp2 := hp1.below hb2
  have hB2 := hB1.trans (hb2.mono hs1)
  have hs2 := hB2.size
  have hO2 := Blk.new w2 26 #[.int .u64 4, .int .u64 0, .int .u64 0, .int .u64 0, .int .u64 0, .bool false, .slice none 0 0, .slice none 0 0, .slice none 0 0]
  have hb3 : Below w2.heap.size w2 (w2.alloc (.cells #[.int .u64 4, .int .u64 0, .int .u64 0, .int .u64 0, .int .u64 0, .bool false, .slice none 0 0, .slice none 0 0, .slice none 0 0] 26)) := (Below.refl _ _).alloc (Nat.le_refl _) _
  have hB3 := hB2.trans (hb3.mono hs2)
  have hlt := hR2.lt
  have hfi := fill4 (w.heap.size + 1) w2.heap.size (w.heap.size + 1) pv l l1 l2 [] n1 n2 n3 _ hO2 (hR2.same hb3) (hp2.below hb3) (by omega) (by omega) (by omega) (Nat.le_trans (by omega) hb3.size) hk0 hk1 hk2 hl0 hl1 hl2 ht1 ht2 ht3
  have hC3 := hC2.same hb3
  clear hle hb2 hb3 hp1 hp2 hR1 hR2 hC1 hC2 hB1 hO2 hlt hv1 hv11 e1
  go_wp2_with fail
  (with_reducible refine hfi.mono ?_)
  rintro e w4 ⟨rfl, hO4, ⟨qv, hR4, hq4⟩, hb4, hs4⟩
  have hC4 := hC3.below hb4 (by omega)
  have hB4 := hB3.trans (hb4.mono (by omega))
  have e4 : w4.cell? ⟨w.heap.size + 1, 1, none⟩ = some (.int .i64 0) := hR4.cell 1
  have hs4' := hB4.size
  have d0 : World.cell? w4 ⟨w2.heap.size, 0, none⟩ = some (.int .u64 4) := hO4.cell 0
  have d1 : World.cell? w4 ⟨w2.heap.size, 1, none⟩ = some (.int .u64 n1) := hO4.cell 1
  have d2 : World.cell? w4 ⟨w2.heap.size, 2, none⟩ = some (.int .u64 n3) := hO4.cell 2
  have d3 : World.cell? w4 ⟨w2.heap.size, 3, none⟩ = some (.int .u64 0) := hO4.cell 3
  have d4 : World.cell? w4 ⟨w2.heap.size, 4, none⟩ = some (.int .u64 n2) := hO4.cell 4
  have d5 : World.cell? w4 ⟨w2.heap.size, 5, none⟩ = some (.bool false) := hO4.cell 5
  have d6 : World.cell? w4 ⟨w2.heap.size, 6, none⟩ = some (.slice none 0 0) := hO4.cell 6
  have d7 : World.cell? w4 ⟨w2.heap.size, 7, none⟩ = some (.slice none 0 0) := hO4.cell 7
  have d8 : World.cell? w4 ⟨w2.heap.size, 8, none⟩ = some (.slice none 0 0) := hO4.cell 8
  clear hC3 hB3 hb4 hfi
  go_wp2_with fail
  (with_reducible refine (right4 n1 n3 n2 _ hi ho hc).mono ?_)
  rintro e w5 ⟨rfl, hb5⟩
  have hO5 := hO4.same hb5
  have hR5 := hR4.same hb5
  have hC5 := hC4.same hb5
  have hq5 := hq4.below hb5
  have hB5 := hB4.trans (hb5.mono hs4')
  have hs5 := hB5.size
  obtain ⟨Aq, cq, rfl⟩ := hq5.form
  have hq51 := hq5.1
  have e50 : w5.cell? ⟨w.heap.size + 1, 0, none⟩ = some (.slice Aq ([] : List Int).length cq) := hR5.cell 0
  have b0 : World.cell? w5 ⟨w2.heap.size, 0, none⟩ = some (.int .u64 4) := hO5.cell 0
  have b1 : World.cell? w5 ⟨w2.heap.size, 1, none⟩ = some (.int .u64 n1) := hO5.cell 1
  have b2 : World.cell? w5 ⟨w2.heap.size, 2, none⟩ = some (.int .u64 n3) := hO5.cell 2
  have b3 : World.cell? w5 ⟨w2.heap.size, 3, none⟩ = some (.int .u64 0) := hO5.cell 3
  have b4 : World.cell? w5 ⟨w2.heap.size, 4, none⟩ = some (.int .u64 n2) := hO5.cell 4
  have b5 : World.cell? w5 ⟨w2.heap.size, 5, none⟩ = some (.bool false) := hO5.cell 5
  have b6 : World.cell? w5 ⟨w2.heap.size, 6, none⟩ = some (.slice none 0 0) := hO5.cell 6
  have b7 : World.cell? w5 ⟨w2.heap.size, 7, none⟩ = some (.slice none 0 0) := hO5.cell 7
  have b8 : World.cell? w5 ⟨w2.heap.size, 8, none⟩ = some (.slice none 0 0) := hO5.cell 8
  have z0 : World.cell? w5 ⟨w.heap.size, 0, none⟩ = some (.int .u64 0) := hC5.cell 0
  have z1 : World.cell? w5 ⟨w.heap.size, 1, none⟩ = some (.int .u64 0) := hC5.cell 1
  have z2 : World.cell? w5 ⟨w.heap.size, 2, none⟩ = some (.int .u64 0) := hC5.cell 2
  have z3 : World.cell? w5 ⟨w.heap.size, 3, none⟩ = some (.int .u64 0) := hC5.cell 3
  have z4 : World.cell? w5 ⟨w.heap.size, 4, none⟩ = some (.int .u64 0) := hC5.cell 4
  have z5 : World.cell? w5 ⟨w.heap.size, 5, none⟩ = some (.bool false) := hC5.cell 5
  have z6 : World.cell? w5 ⟨w.heap.size, 6, none⟩ = some (.slice none 0 0) := hC5.cell 6
  have z7 : World.cell? w5 ⟨w.heap.size, 7, none⟩ = some (.slice none 0 0) := hC5.cell 7
  have z8 : World.cell? w5 ⟨w.heap.size, 8, none⟩ = some (.slice none 0 0) := hC5.cell 8
  clear hO4 hR4 hC4 hq4 hB4 hb5 hs4' e4 d0 d1 d2 d3 d4 d5 d6 d7 d8
  go_wp2_with fail
  have hqD : Rd w5.drew .u8 (.slice Aq 0 cq) [] := hq51
  go_region_law (go_simp; go_at_call 38; ((with_reducible refine (clone_any _ [] w5.drew hqD (by decide)).mono ?_); rintro e wD ⟨cvv, rfl, hoD, hbD⟩; have hO6 := hO5.drew.same hbD; have hC6 := hC5.drew.same hbD; have hB6 : Below w.heap.size w wD := hB5.trans ((below_drewN (Below.refl _ _) 1).trans (hbD.mono hs5)); have x0 : World.cell? wD ⟨w2.heap.size, 0, none⟩ = some (.int .u64 4) := hO6.cell 0; have x1 : World.cell? wD ⟨w2.heap.size, 1, none⟩ = some (.int .u64 n1) := hO6.cell 1; have x2 : World.cell? wD ⟨w2.heap.size, 2, none⟩ = some (.int .u64 n3) := hO6.cell 2; have x3 : World.cell? wD ⟨w2.heap.size, 3, none⟩ = some (.int .u64 0) := hO6.cell 3; have x4 : World.cell? wD ⟨w2.heap.size, 4, none⟩ = some (.int .u64 n2) := hO6.cell 4; have x5 : World.cell? wD ⟨w2.heap.size, 5, none⟩ = some (.bool false) := hO6.cell 5; have x6 : World.cell? wD ⟨w2.heap.size, 6, none⟩ = some (.slice none 0 0) := hO6.cell 6; have x7 : World.cell? wD ⟨w2.heap.size, 7, none⟩ = some (.slice none 0 0) := hO6.cell 7; have x8 : World.cell? wD ⟨w2.heap.size, 8, none⟩ = some (.slice none 0 0) := hO6.cell 8; have y0 : World.cell? wD ⟨w.heap.size, 0, none⟩ = some (.int .u64 0) := hC6.cell 0; have y1 : World.cell? wD ⟨w.heap.size, 1, none⟩ = some (.int .u64 0) := hC6.cell 1; have y2 : World.cell? wD ⟨w.heap.size, 2, none⟩ = some (.int .u64 0) := hC6.cell 2; have y3 : World.cell? wD ⟨w.heap.size, 3, none⟩ = some (.int .u64 0) := hC6.cell 3; have y4 : World.cell? wD ⟨w.heap.size, 4, none⟩ = some (.int .u64 0) := hC6.cell 4; have y5 : World.cell? wD ⟨w.heap.size, 5, none⟩ = some (.bool false) := hC6.cell 5; have y6 : World.cell? wD ⟨w.heap.size, 6, none⟩ = some (.slice none 0 0) := hC6.cell 6; have y7 : World.cell? wD ⟨w.heap.size, 7, none⟩ = some (.slice none 0 0) := hC6.cell 7; have y8 : World.cell? wD ⟨w.heap.size, 8, none⟩ = some (.slice none 0 0) := hC6.cell 8; have f0 := hC6.frozen 0; have f1 := hC6.frozen 1; have f2 := hC6.frozen 2; have f3 := hC6.frozen 3; have f4 := hC6.frozen 4; have f5 := hC6.frozen 5; have f6 := hC6.frozen 6; have f7 := hC6.frozen 7; have f8 := hC6.frozen 8))
  all_goals go_wp2_with fail
  all_goals try simp only [Act.put, List.setIfInBounds_toArray, List.set_cons_zero, List.set_cons_succ]
  all_goals refine bodyPost_ret (v := .tuple #[.agg #[.int .u64 4, .int .u64 n1, .int .u64 n3, .int .u64 0, .int .u64 n2, .bool false, .slice none 0 0, .slice none 0 0, .slice none 0 0], cvv, .int .i64 0]) (by simp [results, Tryd.results15, go_sem, y0, y1, y2, y3, y4, y5, y6, y7, y8]) rfl ⟨cvv, rfl, ?_, ?_⟩
  all_goals first
    | exact (rdt_grown (rdt_of_own (l := []) hoD) hC6 (by decide) (grown9 _ _ _ _ _ _ _ _ _ _ _)).1
    | exact hB6.grown (grown9 _ _ _ _ _ _ _ _ _ _ _) hB6.size (fun m hm => by simp only [Option.some.injEq] at hm; omega)

end Go.Proofs.YtbigbnfllkacoaaDoor
