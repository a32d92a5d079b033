/-
  WordAsks: the walk. No condition.
-/
import Derived.Test.YtjijmbpgfabgcaaDoorZWfew
import Derived.Test.YtjijmbpgfabgcaaDoorZWawake
import Derived.Test.YtjijmbpgfabgcaaDoorZWhas
namespace Go.Proofs.YtjijmbpgfabgcaaDoor
open Go.RowKit
set_option linter.unusedVariables false
set_option linter.unusedSimpArgs false

set_option maxHeartbeats 40000000 in
set_option maxRecDepth 100000 in
theorem asks_walk (m : M) (nv rv vv : Value) (a b c d : Int) (w : World) (hG : Glob w) (hM : MV w m nv rv vv) :
    Calls Tryd.prog 8 #[.agg (m.cells nv rv vv), .agg #[.int .u64 a, .int .u64 b], .agg #[.int .u64 c, .int .u64 d]] w fun e w' => e = .returned (.bool true) ∧ Below w.heap.size w w' := by
  obtain ⟨nA, nc, rfl⟩ := hM.nm.form
  obtain ⟨rA, rc, rfl⟩ := hM.rs.form
  obtain ⟨vA, vc, rfl⟩ := hM.vs.form
  have hO0 := ((Blk.new w 28 (m.cells (.slice nA m.nm.length nc) (.slice rA m.rs.length rc) (.slice vA m.vs.length vc))).alloc (.cells #[.int .u64 a, .int .u64 b] 25)).alloc (.cells #[.int .u64 c, .int .u64 d] 25)
  have hA0 := (Blk.new (w.alloc (.cells (m.cells (.slice nA m.nm.length nc) (.slice rA m.rs.length rc) (.slice vA m.vs.length vc)) 28)) 25 #[.int .u64 a, .int .u64 b]).alloc (.cells #[.int .u64 c, .int .u64 d] 25)
  have hC0 := Blk.new ((w.alloc (.cells (m.cells (.slice nA m.nm.length nc) (.slice rA m.rs.length rc) (.slice vA m.vs.length vc)) 28)).alloc (.cells #[.int .u64 a, .int .u64 b] 25)) 25 #[.int .u64 c, .int .u64 d]
  rw [show (w.alloc (.cells (m.cells (.slice nA m.nm.length nc) (.slice rA m.rs.length rc) (.slice vA m.vs.length vc)) 28)).heap.size = w.heap.size + 1 by simp] at hA0
  rw [show ((w.alloc (.cells (m.cells (.slice nA m.nm.length nc) (.slice rA m.rs.length rc) (.slice vA m.vs.length vc)) 28)).alloc (.cells #[.int .u64 a, .int .u64 b] 25)).heap.size = w.heap.size + 1 + 1 by simp] at hC0
  have hb0 : Below w.heap.size w (((w.alloc (.cells (m.cells (.slice nA m.nm.length nc) (.slice rA m.rs.length rc) (.slice vA m.vs.length vc)) 28)).alloc (.cells #[.int .u64 a, .int .u64 b] 25)).alloc (.cells #[.int .u64 c, .int .u64 d] 25)) := (((Below.refl w.heap.size w).alloc (Nat.le_refl _) _).alloc (by simp) _).alloc (by simp; omega) _
  have haw := awake_any _ (hG.same hb0)
  go_enter Tryd.func8, Tryd.ntmps8
  go_wp2_with fail
  (with_reducible refine haw.mono ?_)
  clear haw
  rintro e w1 ⟨rfl, hb1⟩
  have hO1 := hO0.same hb1
  have hA1 := hA0.same hb1
  have hC1 := hC0.same hb1
  have hB1 := hb0.trans (hb1.mono hb0.size)
  have hfw := few_any m (.slice nA m.nm.length nc) (.slice rA m.rs.length rc) (.slice vA m.vs.length vc) w1 (hM.below hB1)
  clear hO0 hA0 hC0 hb0 hb1
  have c0 : w1.cell? ⟨w.heap.size, 0, none⟩ = some (.int .u64 m.kd) := hO1.cell 0
  have c1 : w1.cell? ⟨w.heap.size, 1, none⟩ = some (.int .u64 m.id) := hO1.cell 1
  have c2 : w1.cell? ⟨w.heap.size, 2, none⟩ = some (.int .u64 m.al) := hO1.cell 2
  have c3 : w1.cell? ⟨w.heap.size, 3, none⟩ = some (.slice nA m.nm.length nc) := hO1.cell 3
  have c4 : w1.cell? ⟨w.heap.size, 4, none⟩ = some (.int .u8 m.pr) := hO1.cell 4
  have c5 : w1.cell? ⟨w.heap.size, 5, none⟩ = some (.int .u8 m.od) := hO1.cell 5
  have c6 : w1.cell? ⟨w.heap.size, 6, none⟩ = some (.int .u64 m.sg) := hO1.cell 6
  have c7 : w1.cell? ⟨w.heap.size, 7, none⟩ = some (.int .u64 m.so) := hO1.cell 7
  have c8 : w1.cell? ⟨w.heap.size, 8, none⟩ = some (.int .u64 m.eg) := hO1.cell 8
  have c9 : w1.cell? ⟨w.heap.size, 9, none⟩ = some (.int .u64 m.eo) := hO1.cell 9
  have c10 : w1.cell? ⟨w.heap.size, 10, none⟩ = some (.bool m.sm) := hO1.cell 10
  have c11 : w1.cell? ⟨w.heap.size, 11, none⟩ = some (.int .u64 m.cd) := hO1.cell 11
  have c12 : w1.cell? ⟨w.heap.size, 12, none⟩ = some (.slice rA m.rs.length rc) := hO1.cell 12
  have c13 : w1.cell? ⟨w.heap.size, 13, none⟩ = some (.int .u64 m.n) := hO1.cell 13
  have c14 : w1.cell? ⟨w.heap.size, 14, none⟩ = some (.int .u64 m.ve) := hO1.cell 14
  have c15 : w1.cell? ⟨w.heap.size, 15, none⟩ = some (.slice vA m.vs.length vc) := hO1.cell 15
  go_wp2_with fail
  (with_reducible refine hfw.mono ?_)
  clear hfw
  rintro e w2 ⟨nv2, rv2, vv2, rfl, hn2, hr2, hv2, hb2⟩
  have hO2 := hO1.same hb2
  have hA2 := hA1.same hb2
  have hC2 := hC1.same hb2
  have hB2 := hB1.trans (hb2.mono hB1.size)
  obtain ⟨nA2, nc2, rfl⟩ := hn2.form
  obtain ⟨rA2, rc2, rfl⟩ := hr2.form
  obtain ⟨vA2, vc2, rfl, _⟩ := sl_of_own hv2
  clear hO1 hA1 hC1 hB1 hb2 c0 c1 c2 c3 c4 c5 c6 c7 c8 c9 c10 c11 c12 c13 c14 c15
  obtain ⟨x, hx⟩ : ∃ x, x = few m := ⟨_, rfl⟩
  rw [← hx] at hn2 hr2 hv2 ⊢
  clear hx
  have c0 : w2.cell? ⟨w.heap.size, 0, none⟩ = some (.int .u64 m.kd) := hO2.cell 0
  have f0 := hO2.frozen 0
  have c1 : w2.cell? ⟨w.heap.size, 1, none⟩ = some (.int .u64 m.id) := hO2.cell 1
  have f1 := hO2.frozen 1
  have c2 : w2.cell? ⟨w.heap.size, 2, none⟩ = some (.int .u64 m.al) := hO2.cell 2
  have f2 := hO2.frozen 2
  have c3 : w2.cell? ⟨w.heap.size, 3, none⟩ = some (.slice nA m.nm.length nc) := hO2.cell 3
  have f3 := hO2.frozen 3
  have c4 : w2.cell? ⟨w.heap.size, 4, none⟩ = some (.int .u8 m.pr) := hO2.cell 4
  have f4 := hO2.frozen 4
  have c5 : w2.cell? ⟨w.heap.size, 5, none⟩ = some (.int .u8 m.od) := hO2.cell 5
  have f5 := hO2.frozen 5
  have c6 : w2.cell? ⟨w.heap.size, 6, none⟩ = some (.int .u64 m.sg) := hO2.cell 6
  have f6 := hO2.frozen 6
  have c7 : w2.cell? ⟨w.heap.size, 7, none⟩ = some (.int .u64 m.so) := hO2.cell 7
  have f7 := hO2.frozen 7
  have c8 : w2.cell? ⟨w.heap.size, 8, none⟩ = some (.int .u64 m.eg) := hO2.cell 8
  have f8 := hO2.frozen 8
  have c9 : w2.cell? ⟨w.heap.size, 9, none⟩ = some (.int .u64 m.eo) := hO2.cell 9
  have f9 := hO2.frozen 9
  have c10 : w2.cell? ⟨w.heap.size, 10, none⟩ = some (.bool m.sm) := hO2.cell 10
  have f10 := hO2.frozen 10
  have c11 : w2.cell? ⟨w.heap.size, 11, none⟩ = some (.int .u64 m.cd) := hO2.cell 11
  have f11 := hO2.frozen 11
  have c12 : w2.cell? ⟨w.heap.size, 12, none⟩ = some (.slice rA m.rs.length rc) := hO2.cell 12
  have f12 := hO2.frozen 12
  have c13 : w2.cell? ⟨w.heap.size, 13, none⟩ = some (.int .u64 m.n) := hO2.cell 13
  have f13 := hO2.frozen 13
  have c14 : w2.cell? ⟨w.heap.size, 14, none⟩ = some (.int .u64 m.ve) := hO2.cell 14
  have f14 := hO2.frozen 14
  have c15 : w2.cell? ⟨w.heap.size, 15, none⟩ = some (.slice vA m.vs.length vc) := hO2.cell 15
  have f15 := hO2.frozen 15
  go_upto_region 4 with fail
  have hOf := hO2.set16 (.int .u64 x.kd) (.int .u64 x.id) (.int .u64 x.al) (.slice nA2 x.nm.length nc2) (.int .u8 x.pr) (.int .u8 x.od) (.int .u64 x.sg) (.int .u64 x.so) (.int .u64 x.eg) (.int .u64 x.eo) (.bool x.sm) (.int .u64 x.cd) (.slice rA2 x.rs.length rc2) (.int .u64 x.n) (.int .u64 x.ve) (.slice vA2 x.vs.length vc2)
  have hBf := below16 hB2 (Nat.le_refl w.heap.size) (.int .u64 x.kd) (.int .u64 x.id) (.int .u64 x.al) (.slice nA2 x.nm.length nc2) (.int .u8 x.pr) (.int .u8 x.od) (.int .u64 x.sg) (.int .u64 x.so) (.int .u64 x.eg) (.int .u64 x.eo) (.bool x.sm) (.int .u64 x.cd) (.slice rA2 x.rs.length rc2) (.int .u64 x.n) (.int .u64 x.ve) (.slice vA2 x.vs.length vc2)
  refine wp_world (fun wz => Blk wz w.heap.size 28 #[.int .u64 x.kd, .int .u64 x.id, .int .u64 x.al, .slice nA2 x.nm.length nc2, .int .u8 x.pr, .int .u8 x.od, .int .u64 x.sg, .int .u64 x.so, .int .u64 x.eg, .int .u64 x.eo, .bool x.sm, .int .u64 x.cd, .slice rA2 x.rs.length rc2, .int .u64 x.n, .int .u64 x.ve, .slice vA2 x.vs.length vc2] ∧ Blk wz (w.heap.size + 1) 25 #[.int .u64 a, .int .u64 b] ∧ Blk wz (w.heap.size + 1 + 1) 25 #[.int .u64 c, .int .u64 d] ∧ Below w.heap.size w wz) ⟨hOf, far16 hA2 (by omega) (.int .u64 x.kd) (.int .u64 x.id) (.int .u64 x.al) (.slice nA2 x.nm.length nc2) (.int .u8 x.pr) (.int .u8 x.od) (.int .u64 x.sg) (.int .u64 x.so) (.int .u64 x.eg) (.int .u64 x.eo) (.bool x.sm) (.int .u64 x.cd) (.slice rA2 x.rs.length rc2) (.int .u64 x.n) (.int .u64 x.ve) (.slice vA2 x.vs.length vc2), far16 hC2 (by omega) (.int .u64 x.kd) (.int .u64 x.id) (.int .u64 x.al) (.slice nA2 x.nm.length nc2) (.int .u8 x.pr) (.int .u8 x.od) (.int .u64 x.sg) (.int .u64 x.so) (.int .u64 x.eg) (.int .u64 x.eo) (.bool x.sm) (.int .u64 x.cd) (.slice rA2 x.rs.length rc2) (.int .u64 x.n) (.int .u64 x.ve) (.slice vA2 x.vs.length vc2), hBf⟩ ?_
  clear hOf hBf hO2 hA2 hC2 hB2 hn2 hr2 hv2 c0 f0 c1 f1 c2 f2 c3 f3 c4 f4 c5 f5 c6 f6 c7 f7 c8 f8 c9 f9 c10 f10 c11 f11 c12 f12 c13 f13 c14 f14 c15 f15
  rintro w3 ⟨hO3, hA3, hC3, hB3⟩
  have k21 := fun W => has_any x (.slice nA2 x.nm.length nc2) (.slice rA2 x.rs.length rc2) (.slice vA2 x.vs.length vc2) a b W
  have k22 := fun W => rhas_any x (.slice nA2 x.nm.length nc2) (.slice rA2 x.rs.length rc2) (.slice vA2 x.vs.length vc2) a b W
  have k23 := fun W => less_all a b c d W
  have k24 := fun W => rless_all a b c d W
  have k25 := fun W => less_all c d a b W
  have hno : ¬ (ltP a b c d = true ∧ ltP c d a b = true) := by simp only [ltP, decide_eq_true_eq]; omega
  generalize hasR x a b = HH at k21 k22
  generalize ltP a b c d = LL at k23 k24 hno
  generalize ltP c d a b = MM at k25 hno
  have c0 : w3.cell? ⟨w.heap.size, 0, none⟩ = some (.int .u64 x.kd) := hO3.cell 0
  have c1 : w3.cell? ⟨w.heap.size, 1, none⟩ = some (.int .u64 x.id) := hO3.cell 1
  have c2 : w3.cell? ⟨w.heap.size, 2, none⟩ = some (.int .u64 x.al) := hO3.cell 2
  have c3 : w3.cell? ⟨w.heap.size, 3, none⟩ = some (.slice nA2 x.nm.length nc2) := hO3.cell 3
  have c4 : w3.cell? ⟨w.heap.size, 4, none⟩ = some (.int .u8 x.pr) := hO3.cell 4
  have c5 : w3.cell? ⟨w.heap.size, 5, none⟩ = some (.int .u8 x.od) := hO3.cell 5
  have c6 : w3.cell? ⟨w.heap.size, 6, none⟩ = some (.int .u64 x.sg) := hO3.cell 6
  have c7 : w3.cell? ⟨w.heap.size, 7, none⟩ = some (.int .u64 x.so) := hO3.cell 7
  have c8 : w3.cell? ⟨w.heap.size, 8, none⟩ = some (.int .u64 x.eg) := hO3.cell 8
  have c9 : w3.cell? ⟨w.heap.size, 9, none⟩ = some (.int .u64 x.eo) := hO3.cell 9
  have c10 : w3.cell? ⟨w.heap.size, 10, none⟩ = some (.bool x.sm) := hO3.cell 10
  have c11 : w3.cell? ⟨w.heap.size, 11, none⟩ = some (.int .u64 x.cd) := hO3.cell 11
  have c12 : w3.cell? ⟨w.heap.size, 12, none⟩ = some (.slice rA2 x.rs.length rc2) := hO3.cell 12
  have c13 : w3.cell? ⟨w.heap.size, 13, none⟩ = some (.int .u64 x.n) := hO3.cell 13
  have c14 : w3.cell? ⟨w.heap.size, 14, none⟩ = some (.int .u64 x.ve) := hO3.cell 14
  have c15 : w3.cell? ⟨w.heap.size, 15, none⟩ = some (.slice vA2 x.vs.length vc2) := hO3.cell 15
  have a0 : w3.cell? ⟨w.heap.size + 1, 0, none⟩ = some (.int .u64 a) := hA3.cell 0
  have b0 : w3.cell? ⟨w.heap.size + 1 + 1, 0, none⟩ = some (.int .u64 c) := hC3.cell 0
  have a1 : w3.cell? ⟨w.heap.size + 1, 1, none⟩ = some (.int .u64 b) := hA3.cell 1
  have b1 : w3.cell? ⟨w.heap.size + 1 + 1, 1, none⟩ = some (.int .u64 d) := hC3.cell 1
  have HB := Lib.hid hB3
  clear hO3 hA3 hC3 hM hG
  cases HH
  · cases LL
    · cases MM
      · as_aux_lemma =>
          have Cc0 := Cls.cells c0 (World.block_lt_of_cell? _ _ c0)
          have Cc1 := Cls.cells c1 (World.block_lt_of_cell? _ _ c1)
          have Cc2 := Cls.cells c2 (World.block_lt_of_cell? _ _ c2)
          have Cc3 := Cls.cells c3 (World.block_lt_of_cell? _ _ c3)
          have Cc4 := Cls.cells c4 (World.block_lt_of_cell? _ _ c4)
          have Cc5 := Cls.cells c5 (World.block_lt_of_cell? _ _ c5)
          have Cc6 := Cls.cells c6 (World.block_lt_of_cell? _ _ c6)
          have Cc7 := Cls.cells c7 (World.block_lt_of_cell? _ _ c7)
          have Cc8 := Cls.cells c8 (World.block_lt_of_cell? _ _ c8)
          have Cc9 := Cls.cells c9 (World.block_lt_of_cell? _ _ c9)
          have Cc10 := Cls.cells c10 (World.block_lt_of_cell? _ _ c10)
          have Cc11 := Cls.cells c11 (World.block_lt_of_cell? _ _ c11)
          have Cc12 := Cls.cells c12 (World.block_lt_of_cell? _ _ c12)
          have Cc13 := Cls.cells c13 (World.block_lt_of_cell? _ _ c13)
          have Cc14 := Cls.cells c14 (World.block_lt_of_cell? _ _ c14)
          have Cc15 := Cls.cells c15 (World.block_lt_of_cell? _ _ c15)
          have Ca0 := Cls.cells a0 (World.block_lt_of_cell? _ _ a0)
          have Ca1 := Cls.cells a1 (World.block_lt_of_cell? _ _ a1)
          have Cb0 := Cls.cells b0 (World.block_lt_of_cell? _ _ b0)
          have Cb1 := Cls.cells b1 (World.block_lt_of_cell? _ _ b1)
          refine wp_region_cls (by kernel_rfl) (by kernel_rfl) ?_
          repeat (go_big_quiet_step ((first | (go_at_call 21; with_reducible exact Cls.call (Nat.le_refl _) (k21 _)) | (go_at_call 22; with_reducible exact Cls.call (Nat.le_refl _) (k22 _)) | (go_at_call 24; with_reducible exact Cls.call (Nat.le_refl _) (k24 _)) | (go_at_call 23; with_reducible exact Cls.call (Nat.le_refl _) (k23 _)) | (go_at_call 23; with_reducible exact Cls.call (Nat.le_refl _) (k25 _)))))
          refine wpQuiet_nil ?_
          intro w4 hb4
          have c0 := keepB_cell c0 w4 hb4
          have c1 := keepB_cell c1 w4 hb4
          have c2 := keepB_cell c2 w4 hb4
          have c3 := keepB_cell c3 w4 hb4
          have c4 := keepB_cell c4 w4 hb4
          have c5 := keepB_cell c5 w4 hb4
          have c6 := keepB_cell c6 w4 hb4
          have c7 := keepB_cell c7 w4 hb4
          have c8 := keepB_cell c8 w4 hb4
          have c9 := keepB_cell c9 w4 hb4
          have c10 := keepB_cell c10 w4 hb4
          have c11 := keepB_cell c11 w4 hb4
          have c12 := keepB_cell c12 w4 hb4
          have c13 := keepB_cell c13 w4 hb4
          have c14 := keepB_cell c14 w4 hb4
          have c15 := keepB_cell c15 w4 hb4
          have a0 := keepB_cell a0 w4 hb4
          have a1 := keepB_cell a1 w4 hb4
          have b0 := keepB_cell b0 w4 hb4
          have b1 := keepB_cell b1 w4 hb4
          clear Cc0 Cc1 Cc2 Cc3 Cc4 Cc5 Cc6 Cc7 Cc8 Cc9 Cc10 Cc11 Cc12 Cc13 Cc14 Cc15 Ca0 Ca1 Cb0 Cb1
          go_wp2_with fail
          go_ret
          exact ⟨rfl, HB.out.trans (hb4.mono HB.out.size)⟩
      · as_aux_lemma =>
          have Cc0 := Cls.cells c0 (World.block_lt_of_cell? _ _ c0)
          have Cc1 := Cls.cells c1 (World.block_lt_of_cell? _ _ c1)
          have Cc2 := Cls.cells c2 (World.block_lt_of_cell? _ _ c2)
          have Cc3 := Cls.cells c3 (World.block_lt_of_cell? _ _ c3)
          have Cc4 := Cls.cells c4 (World.block_lt_of_cell? _ _ c4)
          have Cc5 := Cls.cells c5 (World.block_lt_of_cell? _ _ c5)
          have Cc6 := Cls.cells c6 (World.block_lt_of_cell? _ _ c6)
          have Cc7 := Cls.cells c7 (World.block_lt_of_cell? _ _ c7)
          have Cc8 := Cls.cells c8 (World.block_lt_of_cell? _ _ c8)
          have Cc9 := Cls.cells c9 (World.block_lt_of_cell? _ _ c9)
          have Cc10 := Cls.cells c10 (World.block_lt_of_cell? _ _ c10)
          have Cc11 := Cls.cells c11 (World.block_lt_of_cell? _ _ c11)
          have Cc12 := Cls.cells c12 (World.block_lt_of_cell? _ _ c12)
          have Cc13 := Cls.cells c13 (World.block_lt_of_cell? _ _ c13)
          have Cc14 := Cls.cells c14 (World.block_lt_of_cell? _ _ c14)
          have Cc15 := Cls.cells c15 (World.block_lt_of_cell? _ _ c15)
          have Ca0 := Cls.cells a0 (World.block_lt_of_cell? _ _ a0)
          have Ca1 := Cls.cells a1 (World.block_lt_of_cell? _ _ a1)
          have Cb0 := Cls.cells b0 (World.block_lt_of_cell? _ _ b0)
          have Cb1 := Cls.cells b1 (World.block_lt_of_cell? _ _ b1)
          refine wp_region_cls (by kernel_rfl) (by kernel_rfl) ?_
          repeat (go_big_quiet_step ((first | (go_at_call 21; with_reducible exact Cls.call (Nat.le_refl _) (k21 _)) | (go_at_call 22; with_reducible exact Cls.call (Nat.le_refl _) (k22 _)) | (go_at_call 24; with_reducible exact Cls.call (Nat.le_refl _) (k24 _)) | (go_at_call 23; with_reducible exact Cls.call (Nat.le_refl _) (k23 _)) | (go_at_call 23; with_reducible exact Cls.call (Nat.le_refl _) (k25 _)))))
          refine wpQuiet_nil ?_
          intro w4 hb4
          have c0 := keepB_cell c0 w4 hb4
          have c1 := keepB_cell c1 w4 hb4
          have c2 := keepB_cell c2 w4 hb4
          have c3 := keepB_cell c3 w4 hb4
          have c4 := keepB_cell c4 w4 hb4
          have c5 := keepB_cell c5 w4 hb4
          have c6 := keepB_cell c6 w4 hb4
          have c7 := keepB_cell c7 w4 hb4
          have c8 := keepB_cell c8 w4 hb4
          have c9 := keepB_cell c9 w4 hb4
          have c10 := keepB_cell c10 w4 hb4
          have c11 := keepB_cell c11 w4 hb4
          have c12 := keepB_cell c12 w4 hb4
          have c13 := keepB_cell c13 w4 hb4
          have c14 := keepB_cell c14 w4 hb4
          have c15 := keepB_cell c15 w4 hb4
          have a0 := keepB_cell a0 w4 hb4
          have a1 := keepB_cell a1 w4 hb4
          have b0 := keepB_cell b0 w4 hb4
          have b1 := keepB_cell b1 w4 hb4
          clear Cc0 Cc1 Cc2 Cc3 Cc4 Cc5 Cc6 Cc7 Cc8 Cc9 Cc10 Cc11 Cc12 Cc13 Cc14 Cc15 Ca0 Ca1 Cb0 Cb1
          go_wp2_with fail
          go_ret
          exact ⟨rfl, HB.out.trans (hb4.mono HB.out.size)⟩
    · cases MM
      · as_aux_lemma =>
          have Cc0 := Cls.cells c0 (World.block_lt_of_cell? _ _ c0)
          have Cc1 := Cls.cells c1 (World.block_lt_of_cell? _ _ c1)
          have Cc2 := Cls.cells c2 (World.block_lt_of_cell? _ _ c2)
          have Cc3 := Cls.cells c3 (World.block_lt_of_cell? _ _ c3)
          have Cc4 := Cls.cells c4 (World.block_lt_of_cell? _ _ c4)
          have Cc5 := Cls.cells c5 (World.block_lt_of_cell? _ _ c5)
          have Cc6 := Cls.cells c6 (World.block_lt_of_cell? _ _ c6)
          have Cc7 := Cls.cells c7 (World.block_lt_of_cell? _ _ c7)
          have Cc8 := Cls.cells c8 (World.block_lt_of_cell? _ _ c8)
          have Cc9 := Cls.cells c9 (World.block_lt_of_cell? _ _ c9)
          have Cc10 := Cls.cells c10 (World.block_lt_of_cell? _ _ c10)
          have Cc11 := Cls.cells c11 (World.block_lt_of_cell? _ _ c11)
          have Cc12 := Cls.cells c12 (World.block_lt_of_cell? _ _ c12)
          have Cc13 := Cls.cells c13 (World.block_lt_of_cell? _ _ c13)
          have Cc14 := Cls.cells c14 (World.block_lt_of_cell? _ _ c14)
          have Cc15 := Cls.cells c15 (World.block_lt_of_cell? _ _ c15)
          have Ca0 := Cls.cells a0 (World.block_lt_of_cell? _ _ a0)
          have Ca1 := Cls.cells a1 (World.block_lt_of_cell? _ _ a1)
          have Cb0 := Cls.cells b0 (World.block_lt_of_cell? _ _ b0)
          have Cb1 := Cls.cells b1 (World.block_lt_of_cell? _ _ b1)
          refine wp_region_cls (by kernel_rfl) (by kernel_rfl) ?_
          repeat (go_big_quiet_step ((first | (go_at_call 21; with_reducible exact Cls.call (Nat.le_refl _) (k21 _)) | (go_at_call 22; with_reducible exact Cls.call (Nat.le_refl _) (k22 _)) | (go_at_call 24; with_reducible exact Cls.call (Nat.le_refl _) (k24 _)) | (go_at_call 23; with_reducible exact Cls.call (Nat.le_refl _) (k23 _)) | (go_at_call 23; with_reducible exact Cls.call (Nat.le_refl _) (k25 _)))))
          refine wpQuiet_nil ?_
          intro w4 hb4
          have c0 := keepB_cell c0 w4 hb4
          have c1 := keepB_cell c1 w4 hb4
          have c2 := keepB_cell c2 w4 hb4
          have c3 := keepB_cell c3 w4 hb4
          have c4 := keepB_cell c4 w4 hb4
          have c5 := keepB_cell c5 w4 hb4
          have c6 := keepB_cell c6 w4 hb4
          have c7 := keepB_cell c7 w4 hb4
          have c8 := keepB_cell c8 w4 hb4
          have c9 := keepB_cell c9 w4 hb4
          have c10 := keepB_cell c10 w4 hb4
          have c11 := keepB_cell c11 w4 hb4
          have c12 := keepB_cell c12 w4 hb4
          have c13 := keepB_cell c13 w4 hb4
          have c14 := keepB_cell c14 w4 hb4
          have c15 := keepB_cell c15 w4 hb4
          have a0 := keepB_cell a0 w4 hb4
          have a1 := keepB_cell a1 w4 hb4
          have b0 := keepB_cell b0 w4 hb4
          have b1 := keepB_cell b1 w4 hb4
          clear Cc0 Cc1 Cc2 Cc3 Cc4 Cc5 Cc6 Cc7 Cc8 Cc9 Cc10 Cc11 Cc12 Cc13 Cc14 Cc15 Ca0 Ca1 Cb0 Cb1
          go_wp2_with fail
          go_ret
          exact ⟨rfl, HB.out.trans (hb4.mono HB.out.size)⟩
      · exact absurd ⟨rfl, rfl⟩ hno
  · cases LL
    · cases MM
      · as_aux_lemma =>
          have Cc0 := Cls.cells c0 (World.block_lt_of_cell? _ _ c0)
          have Cc1 := Cls.cells c1 (World.block_lt_of_cell? _ _ c1)
          have Cc2 := Cls.cells c2 (World.block_lt_of_cell? _ _ c2)
          have Cc3 := Cls.cells c3 (World.block_lt_of_cell? _ _ c3)
          have Cc4 := Cls.cells c4 (World.block_lt_of_cell? _ _ c4)
          have Cc5 := Cls.cells c5 (World.block_lt_of_cell? _ _ c5)
          have Cc6 := Cls.cells c6 (World.block_lt_of_cell? _ _ c6)
          have Cc7 := Cls.cells c7 (World.block_lt_of_cell? _ _ c7)
          have Cc8 := Cls.cells c8 (World.block_lt_of_cell? _ _ c8)
          have Cc9 := Cls.cells c9 (World.block_lt_of_cell? _ _ c9)
          have Cc10 := Cls.cells c10 (World.block_lt_of_cell? _ _ c10)
          have Cc11 := Cls.cells c11 (World.block_lt_of_cell? _ _ c11)
          have Cc12 := Cls.cells c12 (World.block_lt_of_cell? _ _ c12)
          have Cc13 := Cls.cells c13 (World.block_lt_of_cell? _ _ c13)
          have Cc14 := Cls.cells c14 (World.block_lt_of_cell? _ _ c14)
          have Cc15 := Cls.cells c15 (World.block_lt_of_cell? _ _ c15)
          have Ca0 := Cls.cells a0 (World.block_lt_of_cell? _ _ a0)
          have Ca1 := Cls.cells a1 (World.block_lt_of_cell? _ _ a1)
          have Cb0 := Cls.cells b0 (World.block_lt_of_cell? _ _ b0)
          have Cb1 := Cls.cells b1 (World.block_lt_of_cell? _ _ b1)
          refine wp_region_cls (by kernel_rfl) (by kernel_rfl) ?_
          repeat (go_big_quiet_step ((first | (go_at_call 21; with_reducible exact Cls.call (Nat.le_refl _) (k21 _)) | (go_at_call 22; with_reducible exact Cls.call (Nat.le_refl _) (k22 _)) | (go_at_call 24; with_reducible exact Cls.call (Nat.le_refl _) (k24 _)) | (go_at_call 23; with_reducible exact Cls.call (Nat.le_refl _) (k23 _)) | (go_at_call 23; with_reducible exact Cls.call (Nat.le_refl _) (k25 _)))))
          refine wpQuiet_nil ?_
          intro w4 hb4
          have c0 := keepB_cell c0 w4 hb4
          have c1 := keepB_cell c1 w4 hb4
          have c2 := keepB_cell c2 w4 hb4
          have c3 := keepB_cell c3 w4 hb4
          have c4 := keepB_cell c4 w4 hb4
          have c5 := keepB_cell c5 w4 hb4
          have c6 := keepB_cell c6 w4 hb4
          have c7 := keepB_cell c7 w4 hb4
          have c8 := keepB_cell c8 w4 hb4
          have c9 := keepB_cell c9 w4 hb4
          have c10 := keepB_cell c10 w4 hb4
          have c11 := keepB_cell c11 w4 hb4
          have c12 := keepB_cell c12 w4 hb4
          have c13 := keepB_cell c13 w4 hb4
          have c14 := keepB_cell c14 w4 hb4
          have c15 := keepB_cell c15 w4 hb4
          have a0 := keepB_cell a0 w4 hb4
          have a1 := keepB_cell a1 w4 hb4
          have b0 := keepB_cell b0 w4 hb4
          have b1 := keepB_cell b1 w4 hb4
          clear Cc0 Cc1 Cc2 Cc3 Cc4 Cc5 Cc6 Cc7 Cc8 Cc9 Cc10 Cc11 Cc12 Cc13 Cc14 Cc15 Ca0 Ca1 Cb0 Cb1
          go_wp2_with fail
          go_ret
          exact ⟨rfl, HB.out.trans (hb4.mono HB.out.size)⟩
      · as_aux_lemma =>
          have Cc0 := Cls.cells c0 (World.block_lt_of_cell? _ _ c0)
          have Cc1 := Cls.cells c1 (World.block_lt_of_cell? _ _ c1)
          have Cc2 := Cls.cells c2 (World.block_lt_of_cell? _ _ c2)
          have Cc3 := Cls.cells c3 (World.block_lt_of_cell? _ _ c3)
          have Cc4 := Cls.cells c4 (World.block_lt_of_cell? _ _ c4)
          have Cc5 := Cls.cells c5 (World.block_lt_of_cell? _ _ c5)
          have Cc6 := Cls.cells c6 (World.block_lt_of_cell? _ _ c6)
          have Cc7 := Cls.cells c7 (World.block_lt_of_cell? _ _ c7)
          have Cc8 := Cls.cells c8 (World.block_lt_of_cell? _ _ c8)
          have Cc9 := Cls.cells c9 (World.block_lt_of_cell? _ _ c9)
          have Cc10 := Cls.cells c10 (World.block_lt_of_cell? _ _ c10)
          have Cc11 := Cls.cells c11 (World.block_lt_of_cell? _ _ c11)
          have Cc12 := Cls.cells c12 (World.block_lt_of_cell? _ _ c12)
          have Cc13 := Cls.cells c13 (World.block_lt_of_cell? _ _ c13)
          have Cc14 := Cls.cells c14 (World.block_lt_of_cell? _ _ c14)
          have Cc15 := Cls.cells c15 (World.block_lt_of_cell? _ _ c15)
          have Ca0 := Cls.cells a0 (World.block_lt_of_cell? _ _ a0)
          have Ca1 := Cls.cells a1 (World.block_lt_of_cell? _ _ a1)
          have Cb0 := Cls.cells b0 (World.block_lt_of_cell? _ _ b0)
          have Cb1 := Cls.cells b1 (World.block_lt_of_cell? _ _ b1)
          refine wp_region_cls (by kernel_rfl) (by kernel_rfl) ?_
          repeat (go_big_quiet_step ((first | (go_at_call 21; with_reducible exact Cls.call (Nat.le_refl _) (k21 _)) | (go_at_call 22; with_reducible exact Cls.call (Nat.le_refl _) (k22 _)) | (go_at_call 24; with_reducible exact Cls.call (Nat.le_refl _) (k24 _)) | (go_at_call 23; with_reducible exact Cls.call (Nat.le_refl _) (k23 _)) | (go_at_call 23; with_reducible exact Cls.call (Nat.le_refl _) (k25 _)))))
          refine wpQuiet_nil ?_
          intro w4 hb4
          have c0 := keepB_cell c0 w4 hb4
          have c1 := keepB_cell c1 w4 hb4
          have c2 := keepB_cell c2 w4 hb4
          have c3 := keepB_cell c3 w4 hb4
          have c4 := keepB_cell c4 w4 hb4
          have c5 := keepB_cell c5 w4 hb4
          have c6 := keepB_cell c6 w4 hb4
          have c7 := keepB_cell c7 w4 hb4
          have c8 := keepB_cell c8 w4 hb4
          have c9 := keepB_cell c9 w4 hb4
          have c10 := keepB_cell c10 w4 hb4
          have c11 := keepB_cell c11 w4 hb4
          have c12 := keepB_cell c12 w4 hb4
          have c13 := keepB_cell c13 w4 hb4
          have c14 := keepB_cell c14 w4 hb4
          have c15 := keepB_cell c15 w4 hb4
          have a0 := keepB_cell a0 w4 hb4
          have a1 := keepB_cell a1 w4 hb4
          have b0 := keepB_cell b0 w4 hb4
          have b1 := keepB_cell b1 w4 hb4
          clear Cc0 Cc1 Cc2 Cc3 Cc4 Cc5 Cc6 Cc7 Cc8 Cc9 Cc10 Cc11 Cc12 Cc13 Cc14 Cc15 Ca0 Ca1 Cb0 Cb1
          go_wp2_with fail
          go_ret
          exact ⟨rfl, HB.out.trans (hb4.mono HB.out.size)⟩
    · cases MM
      · as_aux_lemma =>
          have Cc0 := Cls.cells c0 (World.block_lt_of_cell? _ _ c0)
          have Cc1 := Cls.cells c1 (World.block_lt_of_cell? _ _ c1)
          have Cc2 := Cls.cells c2 (World.block_lt_of_cell? _ _ c2)
          have Cc3 := Cls.cells c3 (World.block_lt_of_cell? _ _ c3)
          have Cc4 := Cls.cells c4 (World.block_lt_of_cell? _ _ c4)
          have Cc5 := Cls.cells c5 (World.block_lt_of_cell? _ _ c5)
          have Cc6 := Cls.cells c6 (World.block_lt_of_cell? _ _ c6)
          have Cc7 := Cls.cells c7 (World.block_lt_of_cell? _ _ c7)
          have Cc8 := Cls.cells c8 (World.block_lt_of_cell? _ _ c8)
          have Cc9 := Cls.cells c9 (World.block_lt_of_cell? _ _ c9)
          have Cc10 := Cls.cells c10 (World.block_lt_of_cell? _ _ c10)
          have Cc11 := Cls.cells c11 (World.block_lt_of_cell? _ _ c11)
          have Cc12 := Cls.cells c12 (World.block_lt_of_cell? _ _ c12)
          have Cc13 := Cls.cells c13 (World.block_lt_of_cell? _ _ c13)
          have Cc14 := Cls.cells c14 (World.block_lt_of_cell? _ _ c14)
          have Cc15 := Cls.cells c15 (World.block_lt_of_cell? _ _ c15)
          have Ca0 := Cls.cells a0 (World.block_lt_of_cell? _ _ a0)
          have Ca1 := Cls.cells a1 (World.block_lt_of_cell? _ _ a1)
          have Cb0 := Cls.cells b0 (World.block_lt_of_cell? _ _ b0)
          have Cb1 := Cls.cells b1 (World.block_lt_of_cell? _ _ b1)
          refine wp_region_cls (by kernel_rfl) (by kernel_rfl) ?_
          repeat (go_big_quiet_step ((first | (go_at_call 21; with_reducible exact Cls.call (Nat.le_refl _) (k21 _)) | (go_at_call 22; with_reducible exact Cls.call (Nat.le_refl _) (k22 _)) | (go_at_call 24; with_reducible exact Cls.call (Nat.le_refl _) (k24 _)) | (go_at_call 23; with_reducible exact Cls.call (Nat.le_refl _) (k23 _)) | (go_at_call 23; with_reducible exact Cls.call (Nat.le_refl _) (k25 _)))))
          refine wpQuiet_nil ?_
          intro w4 hb4
          have c0 := keepB_cell c0 w4 hb4
          have c1 := keepB_cell c1 w4 hb4
          have c2 := keepB_cell c2 w4 hb4
          have c3 := keepB_cell c3 w4 hb4
          have c4 := keepB_cell c4 w4 hb4
          have c5 := keepB_cell c5 w4 hb4
          have c6 := keepB_cell c6 w4 hb4
          have c7 := keepB_cell c7 w4 hb4
          have c8 := keepB_cell c8 w4 hb4
          have c9 := keepB_cell c9 w4 hb4
          have c10 := keepB_cell c10 w4 hb4
          have c11 := keepB_cell c11 w4 hb4
          have c12 := keepB_cell c12 w4 hb4
          have c13 := keepB_cell c13 w4 hb4
          have c14 := keepB_cell c14 w4 hb4
          have c15 := keepB_cell c15 w4 hb4
          have a0 := keepB_cell a0 w4 hb4
          have a1 := keepB_cell a1 w4 hb4
          have b0 := keepB_cell b0 w4 hb4
          have b1 := keepB_cell b1 w4 hb4
          clear Cc0 Cc1 Cc2 Cc3 Cc4 Cc5 Cc6 Cc7 Cc8 Cc9 Cc10 Cc11 Cc12 Cc13 Cc14 Cc15 Ca0 Ca1 Cb0 Cb1
          go_wp2_with fail
          go_ret
          exact ⟨rfl, HB.out.trans (hb4.mono HB.out.size)⟩
      · exact absurd ⟨rfl, rfl⟩ hno

end Go.Proofs.YtjijmbpgfabgcaaDoor
