/-
  WordBytes: the walk. No condition.
-/
import Derived.Test.YtjijmbpgfabgcaaDoorZWmx
import Derived.Test.YtjijmbpgfabgcaaDoorZRbytes
import Derived.Test.YtjijmbpgfabgcaaDoorZWloose
namespace Go.Proofs.YtjijmbpgfabgcaaDoor
open Go.RowKit
set_option linter.unusedVariables false
set_option linter.unusedSimpArgs false

set_option maxHeartbeats 4000000 in
set_option maxRecDepth 100000 in
theorem bytes_walk (m : M) (nv rv vv : Value) (v : Value) (l : List Int) (w : World) (hG : Glob w) (hM : MV w m nv rv vv) (h : m.Ok) (hv : Rd w .u8 v l) (hk : BytesOk l) :
    Calls Tryd.prog 3 #[.agg (m.cells nv rv vv), v] w fun e w' => e = .returned (.bool true) ∧ Below w.heap.size w w' := by
  obtain ⟨nA, nc, rfl⟩ := hM.nm.form
  obtain ⟨rA, rc, rfl⟩ := hM.rs.form
  obtain ⟨vA, vc, rfl⟩ := hM.vs.form
  obtain ⟨bA, bc, rfl⟩ := hv.form
  have hO0 := Blk.new w 28 #[.int .u64 m.kd, .int .u64 m.id, .int .u64 m.al, .slice nA m.nm.length nc, .int .u8 m.pr, .int .u8 m.od, .int .u64 m.sg, .int .u64 m.so, .int .u64 m.eg, .int .u64 m.eo, .bool m.sm, .int .u64 m.cd, .slice rA m.rs.length rc, .int .u64 m.n, .int .u64 m.ve, .slice vA m.vs.length vc]
  have hB0 := (Below.refl w.heap.size w).alloc (Nat.le_refl _) (.cells #[.int .u64 m.kd, .int .u64 m.id, .int .u64 m.al, .slice nA m.nm.length nc, .int .u8 m.pr, .int .u8 m.od, .int .u64 m.sg, .int .u64 m.so, .int .u64 m.eg, .int .u64 m.eo, .bool m.sm, .int .u64 m.cd, .slice rA m.rs.length rc, .int .u64 m.n, .int .u64 m.ve, .slice vA m.vs.length vc] 28)
  have haw := awake_any _ (hG.same hB0)
  go_enter Tryd.func3, Tryd.ntmps3
  go_wp2_with fail
  (with_reducible refine haw.mono ?_)
  clear haw
  rintro e w1 ⟨rfl, hb1⟩
  have hO1 := hO0.same hb1
  have hB1 := hB0.trans (hb1.mono hB0.size)
  have hfw := few_any m _ _ _ w1 (hM.below hB1)
  have c0 : World.cell? w1 ⟨w.heap.size, 0, none⟩ = some (.int .u64 m.kd) := hO1.cell 0
  have c1 : World.cell? w1 ⟨w.heap.size, 1, none⟩ = some (.int .u64 m.id) := hO1.cell 1
  have c2 : World.cell? w1 ⟨w.heap.size, 2, none⟩ = some (.int .u64 m.al) := hO1.cell 2
  have c3 : World.cell? w1 ⟨w.heap.size, 3, none⟩ = some (.slice nA m.nm.length nc) := hO1.cell 3
  have c4 : World.cell? w1 ⟨w.heap.size, 4, none⟩ = some (.int .u8 m.pr) := hO1.cell 4
  have c5 : World.cell? w1 ⟨w.heap.size, 5, none⟩ = some (.int .u8 m.od) := hO1.cell 5
  have c6 : World.cell? w1 ⟨w.heap.size, 6, none⟩ = some (.int .u64 m.sg) := hO1.cell 6
  have c7 : World.cell? w1 ⟨w.heap.size, 7, none⟩ = some (.int .u64 m.so) := hO1.cell 7
  have c8 : World.cell? w1 ⟨w.heap.size, 8, none⟩ = some (.int .u64 m.eg) := hO1.cell 8
  have c9 : World.cell? w1 ⟨w.heap.size, 9, none⟩ = some (.int .u64 m.eo) := hO1.cell 9
  have c10 : World.cell? w1 ⟨w.heap.size, 10, none⟩ = some (.bool m.sm) := hO1.cell 10
  have c11 : World.cell? w1 ⟨w.heap.size, 11, none⟩ = some (.int .u64 m.cd) := hO1.cell 11
  have c12 : World.cell? w1 ⟨w.heap.size, 12, none⟩ = some (.slice rA m.rs.length rc) := hO1.cell 12
  have c13 : World.cell? w1 ⟨w.heap.size, 13, none⟩ = some (.int .u64 m.n) := hO1.cell 13
  have c14 : World.cell? w1 ⟨w.heap.size, 14, none⟩ = some (.int .u64 m.ve) := hO1.cell 14
  have c15 : World.cell? w1 ⟨w.heap.size, 15, none⟩ = some (.slice vA m.vs.length vc) := hO1.cell 15
  clear hO0 hB0 hb1
  go_wp2_with fail
  (with_reducible refine hfw.mono ?_)
  clear hfw c0 c1 c2 c3 c4 c5 c6 c7 c8 c9 c10 c11 c12 c13 c14 c15
  rintro e w2 ⟨nv2, rv2, vv2, rfl, hn2, hr2, hv2, hb2⟩
  have hB2 := hB1.trans (hb2.mono hB1.size)
  have hO2 := hO1.same hb2
  have hM2 : MX w2 (few m) nv2 rv2 vv2 := ⟨hn2, hr2, _, hv2⟩
  have hx := few_ok h
  have hxf := few_fit m
  have hxx := few_few m
  obtain ⟨x, hxe⟩ : ∃ x, x = few m := ⟨_, rfl⟩
  rw [← hxe] at hM2 hx hxf hxx ⊢
  clear hxe hn2 hr2 hv2 hb2 hB1 hM h hO1
  have HXX := Lib.hid hxx
  clear hxx
  obtain ⟨nA2, nc2, rfl⟩ := hM2.nm.form
  obtain ⟨rA2, rc2, rfl⟩ := hM2.rs.form
  obtain ⟨vA2, vc2, rfl⟩ := hM2.mv.vs.form
  have c0 : World.cell? w2 ⟨w.heap.size, 0, none⟩ = some (.int .u64 m.kd) := hO2.cell 0
  have fc0 := hO2.frozen 0
  have c1 : World.cell? w2 ⟨w.heap.size, 1, none⟩ = some (.int .u64 m.id) := hO2.cell 1
  have fc1 := hO2.frozen 1
  have c2 : World.cell? w2 ⟨w.heap.size, 2, none⟩ = some (.int .u64 m.al) := hO2.cell 2
  have fc2 := hO2.frozen 2
  have c3 : World.cell? w2 ⟨w.heap.size, 3, none⟩ = some (.slice nA m.nm.length nc) := hO2.cell 3
  have fc3 := hO2.frozen 3
  have c4 : World.cell? w2 ⟨w.heap.size, 4, none⟩ = some (.int .u8 m.pr) := hO2.cell 4
  have fc4 := hO2.frozen 4
  have c5 : World.cell? w2 ⟨w.heap.size, 5, none⟩ = some (.int .u8 m.od) := hO2.cell 5
  have fc5 := hO2.frozen 5
  have c6 : World.cell? w2 ⟨w.heap.size, 6, none⟩ = some (.int .u64 m.sg) := hO2.cell 6
  have fc6 := hO2.frozen 6
  have c7 : World.cell? w2 ⟨w.heap.size, 7, none⟩ = some (.int .u64 m.so) := hO2.cell 7
  have fc7 := hO2.frozen 7
  have c8 : World.cell? w2 ⟨w.heap.size, 8, none⟩ = some (.int .u64 m.eg) := hO2.cell 8
  have fc8 := hO2.frozen 8
  have c9 : World.cell? w2 ⟨w.heap.size, 9, none⟩ = some (.int .u64 m.eo) := hO2.cell 9
  have fc9 := hO2.frozen 9
  have c10 : World.cell? w2 ⟨w.heap.size, 10, none⟩ = some (.bool m.sm) := hO2.cell 10
  have fc10 := hO2.frozen 10
  have c11 : World.cell? w2 ⟨w.heap.size, 11, none⟩ = some (.int .u64 m.cd) := hO2.cell 11
  have fc11 := hO2.frozen 11
  have c12 : World.cell? w2 ⟨w.heap.size, 12, none⟩ = some (.slice rA m.rs.length rc) := hO2.cell 12
  have fc12 := hO2.frozen 12
  have c13 : World.cell? w2 ⟨w.heap.size, 13, none⟩ = some (.int .u64 m.n) := hO2.cell 13
  have fc13 := hO2.frozen 13
  have c14 : World.cell? w2 ⟨w.heap.size, 14, none⟩ = some (.int .u64 m.ve) := hO2.cell 14
  have fc14 := hO2.frozen 14
  have c15 : World.cell? w2 ⟨w.heap.size, 15, none⟩ = some (.slice vA m.vs.length vc) := hO2.cell 15
  have fc15 := hO2.frozen 15
  go_upto_region 4 with fail
  have hOf := hO2.set16 (.int .u64 x.kd) (.int .u64 x.id) (.int .u64 x.al) (.slice nA2 x.nm.length nc2) (.int .u8 x.pr) (.int .u8 x.od) (.int .u64 x.sg) (.int .u64 x.so) (.int .u64 x.eg) (.int .u64 x.eo) (.bool x.sm) (.int .u64 x.cd) (.slice rA2 x.rs.length rc2) (.int .u64 x.n) (.int .u64 x.ve) (.slice vA2 x.vs.length vc2)
  have hBf := below16 hB2 (Nat.le_refl w.heap.size) (.int .u64 x.kd) (.int .u64 x.id) (.int .u64 x.al) (.slice nA2 x.nm.length nc2) (.int .u8 x.pr) (.int .u8 x.od) (.int .u64 x.sg) (.int .u64 x.so) (.int .u64 x.eg) (.int .u64 x.eo) (.bool x.sm) (.int .u64 x.cd) (.slice rA2 x.rs.length rc2) (.int .u64 x.n) (.int .u64 x.ve) (.slice vA2 x.vs.length vc2)
  have hMf := MX.blks hM2 (fun g t cs ht z => far16 z (z.ne_ hO2 ht) (.int .u64 x.kd) (.int .u64 x.id) (.int .u64 x.al) (.slice nA2 x.nm.length nc2) (.int .u8 x.pr) (.int .u8 x.od) (.int .u64 x.sg) (.int .u64 x.so) (.int .u64 x.eg) (.int .u64 x.eo) (.bool x.sm) (.int .u64 x.cd) (.slice rA2 x.rs.length rc2) (.int .u64 x.n) (.int .u64 x.ve) (.slice vA2 x.vs.length vc2)) (by simp)
  refine wp_world (fun wz => Blk wz w.heap.size 28 #[.int .u64 x.kd, .int .u64 x.id, .int .u64 x.al, .slice nA2 x.nm.length nc2, .int .u8 x.pr, .int .u8 x.od, .int .u64 x.sg, .int .u64 x.so, .int .u64 x.eg, .int .u64 x.eo, .bool x.sm, .int .u64 x.cd, .slice rA2 x.rs.length rc2, .int .u64 x.n, .int .u64 x.ve, .slice vA2 x.vs.length vc2] ∧ Below w.heap.size w wz ∧ MX wz x (.slice nA2 x.nm.length nc2) (.slice rA2 x.rs.length rc2) (.slice vA2 x.vs.length vc2)) ⟨hOf, hBf, hMf⟩ ?_
  clear hOf hBf hMf hO2 hB2 hM2 c0 fc0 c1 fc1 c2 fc2 c3 fc3 c4 fc4 c5 fc5 c6 fc6 c7 fc7 c8 fc8 c9 fc9 c10 fc10 c11 fc11 c12 fc12 c13 fc13 c14 fc14 c15 fc15
  rintro w3 ⟨hO3, hB3, hM3⟩
  as_aux_lemma =>
    have c0 : World.cell? w3 ⟨w.heap.size, 0, none⟩ = some (.int .u64 x.kd) := hO3.cell 0
    have c1 : World.cell? w3 ⟨w.heap.size, 1, none⟩ = some (.int .u64 x.id) := hO3.cell 1
    have c2 : World.cell? w3 ⟨w.heap.size, 2, none⟩ = some (.int .u64 x.al) := hO3.cell 2
    have c3 : World.cell? w3 ⟨w.heap.size, 3, none⟩ = some (.slice nA2 x.nm.length nc2) := hO3.cell 3
    have c4 : World.cell? w3 ⟨w.heap.size, 4, none⟩ = some (.int .u8 x.pr) := hO3.cell 4
    have c5 : World.cell? w3 ⟨w.heap.size, 5, none⟩ = some (.int .u8 x.od) := hO3.cell 5
    have c6 : World.cell? w3 ⟨w.heap.size, 6, none⟩ = some (.int .u64 x.sg) := hO3.cell 6
    have c7 : World.cell? w3 ⟨w.heap.size, 7, none⟩ = some (.int .u64 x.so) := hO3.cell 7
    have c8 : World.cell? w3 ⟨w.heap.size, 8, none⟩ = some (.int .u64 x.eg) := hO3.cell 8
    have c9 : World.cell? w3 ⟨w.heap.size, 9, none⟩ = some (.int .u64 x.eo) := hO3.cell 9
    have c10 : World.cell? w3 ⟨w.heap.size, 10, none⟩ = some (.bool x.sm) := hO3.cell 10
    have c11 : World.cell? w3 ⟨w.heap.size, 11, none⟩ = some (.int .u64 x.cd) := hO3.cell 11
    have c12 : World.cell? w3 ⟨w.heap.size, 12, none⟩ = some (.slice rA2 x.rs.length rc2) := hO3.cell 12
    have c13 : World.cell? w3 ⟨w.heap.size, 13, none⟩ = some (.int .u64 x.n) := hO3.cell 13
    have c14 : World.cell? w3 ⟨w.heap.size, 14, none⟩ = some (.int .u64 x.ve) := hO3.cell 14
    have c15 : World.cell? w3 ⟨w.heap.size, 15, none⟩ = some (.slice vA2 x.vs.length vc2) := hO3.cell 15
    have hfw := few_any x _ _ _ w3 hM3.mv
    rw [HXX.out] at hfw
    go_wp2_with fail
    (with_reducible refine hfw.mono ?_)
    clear hfw c0 c1 c2 c3 c4 c5 c6 c7 c8 c9 c10 c11 c12 c13 c14 c15
    rintro e w4 ⟨nv4, rv4, vv4, rfl, hn4, hr4, hv4, hb4⟩
    have hB4 := hB3.trans (hb4.mono hB3.size)
    have hO4 := hO3.same hb4
    have hM4 := hM3.below hb4
    have hX4 : MX w4 x nv4 rv4 vv4 := ⟨hn4, hr4, _, hv4⟩
    obtain ⟨nA4, nc4, rfl⟩ := hX4.nm.form
    obtain ⟨rA4, rc4, rfl⟩ := hX4.rs.form
    obtain ⟨vA4, vc4, rfl⟩ := hX4.mv.vs.form
    clear hn4 hr4 hv4 hb4 hB3 hO3 hM3
    have hba : Below w4.heap.size w4 (w4.alloc (.cells #[.int .u64 x.kd, .int .u64 x.id, .int .u64 x.al, .slice nA4 x.nm.length nc4, .int .u8 x.pr, .int .u8 x.od, .int .u64 x.sg, .int .u64 x.so, .int .u64 x.eg, .int .u64 x.eo, .bool x.sm, .int .u64 x.cd, .slice rA4 x.rs.length rc4, .int .u64 x.n, .int .u64 x.ve, .slice vA4 x.vs.length vc4] 31)) := (Below.refl _ _).alloc (Nat.le_refl _) _
    have hT5 := Blk.new w4 31 #[.int .u64 x.kd, .int .u64 x.id, .int .u64 x.al, .slice nA4 x.nm.length nc4, .int .u8 x.pr, .int .u8 x.od, .int .u64 x.sg, .int .u64 x.so, .int .u64 x.eg, .int .u64 x.eo, .bool x.sm, .int .u64 x.cd, .slice rA4 x.rs.length rc4, .int .u64 x.n, .int .u64 x.ve, .slice vA4 x.vs.length vc4]
    have hO5 := hO4.same hba
    have hM5 := hM4.below hba
    have hX5 := hX4.below hba
    have hB5 := hB4.trans (hba.mono hB4.size)
    have d0 : World.cell? _ ⟨w4.heap.size, 0, none⟩ = some (.int .u64 x.kd) := hT5.cell 0
    have d1 : World.cell? _ ⟨w4.heap.size, 1, none⟩ = some (.int .u64 x.id) := hT5.cell 1
    have d2 : World.cell? _ ⟨w4.heap.size, 2, none⟩ = some (.int .u64 x.al) := hT5.cell 2
    have d3 : World.cell? _ ⟨w4.heap.size, 3, none⟩ = some (.slice nA4 x.nm.length nc4) := hT5.cell 3
    have d4 : World.cell? _ ⟨w4.heap.size, 4, none⟩ = some (.int .u8 x.pr) := hT5.cell 4
    have d5 : World.cell? _ ⟨w4.heap.size, 5, none⟩ = some (.int .u8 x.od) := hT5.cell 5
    have d6 : World.cell? _ ⟨w4.heap.size, 6, none⟩ = some (.int .u64 x.sg) := hT5.cell 6
    have d7 : World.cell? _ ⟨w4.heap.size, 7, none⟩ = some (.int .u64 x.so) := hT5.cell 7
    have d8 : World.cell? _ ⟨w4.heap.size, 8, none⟩ = some (.int .u64 x.eg) := hT5.cell 8
    have d9 : World.cell? _ ⟨w4.heap.size, 9, none⟩ = some (.int .u64 x.eo) := hT5.cell 9
    have d10 : World.cell? _ ⟨w4.heap.size, 10, none⟩ = some (.bool x.sm) := hT5.cell 10
    have d11 : World.cell? _ ⟨w4.heap.size, 11, none⟩ = some (.int .u64 x.cd) := hT5.cell 11
    have d12 : World.cell? _ ⟨w4.heap.size, 12, none⟩ = some (.slice rA4 x.rs.length rc4) := hT5.cell 12
    have d13 : World.cell? _ ⟨w4.heap.size, 13, none⟩ = some (.int .u64 x.n) := hT5.cell 13
    have d14 : World.cell? _ ⟨w4.heap.size, 14, none⟩ = some (.int .u64 x.ve) := hT5.cell 14
    have d15 : World.cell? _ ⟨w4.heap.size, 15, none⟩ = some (.slice vA4 x.vs.length vc4) := hT5.cell 15
    have hs5 := hB5.size
    clear hO4 hM4 hX4 hB4 hba
    by_cases hR : Right x
    · as_aux_lemma =>
        have hby := bytes_yes x _ _ _ _ (hG.same hB5) hX5.mv hx hxf hR
        have hqb := fun W hW => rbytes_yes x (.slice nA2 x.nm.length nc2) (.slice rA2 x.rs.length rc2) (.slice vA2 x.vs.length vc2) W hW hx hxf hR
        have hbl := bts_len hR
        have hbk := bts_ok hx hR
        have hrb := read_bts hx hR
        obtain ⟨Q, hQ⟩ : ∃ Q, Q = bts x := ⟨_, rfl⟩
        rw [← hQ] at hby hqb hbl hbk hrb
        have HRB := Lib.hid hrb
        clear hQ hR hrb
        have hlt5 := hM5.lt
        have HLT := Lib.hid hlt5
        clear hlt5
        obtain ⟨K5, hK5⟩ : ∃ K, K = (w4.alloc (.cells #[.int .u64 x.kd, .int .u64 x.id, .int .u64 x.al, .slice nA4 x.nm.length nc4, .int .u8 x.pr, .int .u8 x.od, .int .u64 x.sg, .int .u64 x.so, .int .u64 x.eg, .int .u64 x.eo, .bool x.sm, .int .u64 x.cd, .slice rA4 x.rs.length rc4, .int .u64 x.n, .int .u64 x.ve, .slice vA4 x.vs.length vc4] 31)).heap.size := ⟨_, rfl⟩
        rw [← hK5] at hby HLT
        have hK5w : w.heap.size ≤ K5 := by rw [hK5]; exact hs5
        have HK5 := Lib.hid hK5
        clear hK5
        go_wp2_with fail
        (with_reducible refine hby.mono ?_)
        clear hby d0 d1 d2 d3 d4 d5 d6 d7 d8 d9 d10 d11 d12 d13 d14 d15
        rintro e w6 ⟨v6, rfl, ho6, hb6⟩
        rw [HK5.out] at hb6
        have hO6 := hO5.same hb6
        have hT6 := hT5.same hb6
        have hM6 := hM5.below hb6
        have hX6 := hX5.below hb6
        have hB6 := hB5.trans (hb6.mono hs5)
        have hs6 := hB6.size
        clear hO5 hT5 hM5 hX5 hB5
        as_aux_lemma =>
          have c0 : World.cell? w6 ⟨w.heap.size, 0, none⟩ = some (.int .u64 x.kd) := hO6.cell 0
          have c1 : World.cell? w6 ⟨w.heap.size, 1, none⟩ = some (.int .u64 x.id) := hO6.cell 1
          have c2 : World.cell? w6 ⟨w.heap.size, 2, none⟩ = some (.int .u64 x.al) := hO6.cell 2
          have c3 : World.cell? w6 ⟨w.heap.size, 3, none⟩ = some (.slice nA2 x.nm.length nc2) := hO6.cell 3
          have c4 : World.cell? w6 ⟨w.heap.size, 4, none⟩ = some (.int .u8 x.pr) := hO6.cell 4
          have c5 : World.cell? w6 ⟨w.heap.size, 5, none⟩ = some (.int .u8 x.od) := hO6.cell 5
          have c6 : World.cell? w6 ⟨w.heap.size, 6, none⟩ = some (.int .u64 x.sg) := hO6.cell 6
          have c7 : World.cell? w6 ⟨w.heap.size, 7, none⟩ = some (.int .u64 x.so) := hO6.cell 7
          have c8 : World.cell? w6 ⟨w.heap.size, 8, none⟩ = some (.int .u64 x.eg) := hO6.cell 8
          have c9 : World.cell? w6 ⟨w.heap.size, 9, none⟩ = some (.int .u64 x.eo) := hO6.cell 9
          have c10 : World.cell? w6 ⟨w.heap.size, 10, none⟩ = some (.bool x.sm) := hO6.cell 10
          have c11 : World.cell? w6 ⟨w.heap.size, 11, none⟩ = some (.int .u64 x.cd) := hO6.cell 11
          have c12 : World.cell? w6 ⟨w.heap.size, 12, none⟩ = some (.slice rA2 x.rs.length rc2) := hO6.cell 12
          have c13 : World.cell? w6 ⟨w.heap.size, 13, none⟩ = some (.int .u64 x.n) := hO6.cell 13
          have c14 : World.cell? w6 ⟨w.heap.size, 14, none⟩ = some (.int .u64 x.ve) := hO6.cell 14
          have c15 : World.cell? w6 ⟨w.heap.size, 15, none⟩ = some (.slice vA2 x.vs.length vc2) := hO6.cell 15
          have hqb6 := hqb w6 hM6.mv
          obtain ⟨A6, p6, rfl, -, -, -⟩ := ho6.form
          clear hqb
          go_wp2_with fail
          (with_reducible refine hqb6.mono ?_)
          clear hqb6 c0 c1 c2 c3 c4 c5 c6 c7 c8 c9 c10 c11 c12 c13 c14 c15
          rintro e w7 ⟨vq, rfl, hoq, hb7⟩
          have hO7 := hO6.same hb7
          have hT7 := hT6.same hb7
          have hM7 := hM6.below hb7
          have hX7 := hX6.below hb7
          have hB7 := hB6.trans (hb7.mono hs6)
          have hs7 := hB7.size
          clear hO6 hT6 hM6 hX6 hB6
          as_aux_lemma =>
            have ho7 := ho6.below hb7
            have c0 : World.cell? w7 ⟨w.heap.size, 0, none⟩ = some (.int .u64 x.kd) := hO7.cell 0
            have c1 : World.cell? w7 ⟨w.heap.size, 1, none⟩ = some (.int .u64 x.id) := hO7.cell 1
            have c2 : World.cell? w7 ⟨w.heap.size, 2, none⟩ = some (.int .u64 x.al) := hO7.cell 2
            have c3 : World.cell? w7 ⟨w.heap.size, 3, none⟩ = some (.slice nA2 x.nm.length nc2) := hO7.cell 3
            have c4 : World.cell? w7 ⟨w.heap.size, 4, none⟩ = some (.int .u8 x.pr) := hO7.cell 4
            have c5 : World.cell? w7 ⟨w.heap.size, 5, none⟩ = some (.int .u8 x.od) := hO7.cell 5
            have c6 : World.cell? w7 ⟨w.heap.size, 6, none⟩ = some (.int .u64 x.sg) := hO7.cell 6
            have c7 : World.cell? w7 ⟨w.heap.size, 7, none⟩ = some (.int .u64 x.so) := hO7.cell 7
            have c8 : World.cell? w7 ⟨w.heap.size, 8, none⟩ = some (.int .u64 x.eg) := hO7.cell 8
            have c9 : World.cell? w7 ⟨w.heap.size, 9, none⟩ = some (.int .u64 x.eo) := hO7.cell 9
            have c10 : World.cell? w7 ⟨w.heap.size, 10, none⟩ = some (.bool x.sm) := hO7.cell 10
            have c11 : World.cell? w7 ⟨w.heap.size, 11, none⟩ = some (.int .u64 x.cd) := hO7.cell 11
            have c12 : World.cell? w7 ⟨w.heap.size, 12, none⟩ = some (.slice rA2 x.rs.length rc2) := hO7.cell 12
            have c13 : World.cell? w7 ⟨w.heap.size, 13, none⟩ = some (.int .u64 x.n) := hO7.cell 13
            have c14 : World.cell? w7 ⟨w.heap.size, 14, none⟩ = some (.int .u64 x.ve) := hO7.cell 14
            have c15 : World.cell? w7 ⟨w.heap.size, 15, none⟩ = some (.slice vA2 x.vs.length vc2) := hO7.cell 15
            have d0 : World.cell? w7 ⟨w4.heap.size, 0, none⟩ = some (.int .u64 x.kd) := hT7.cell 0
            have d1 : World.cell? w7 ⟨w4.heap.size, 1, none⟩ = some (.int .u64 x.id) := hT7.cell 1
            have d2 : World.cell? w7 ⟨w4.heap.size, 2, none⟩ = some (.int .u64 x.al) := hT7.cell 2
            have d3 : World.cell? w7 ⟨w4.heap.size, 3, none⟩ = some (.slice nA4 x.nm.length nc4) := hT7.cell 3
            have d4 : World.cell? w7 ⟨w4.heap.size, 4, none⟩ = some (.int .u8 x.pr) := hT7.cell 4
            have d5 : World.cell? w7 ⟨w4.heap.size, 5, none⟩ = some (.int .u8 x.od) := hT7.cell 5
            have d6 : World.cell? w7 ⟨w4.heap.size, 6, none⟩ = some (.int .u64 x.sg) := hT7.cell 6
            have d7 : World.cell? w7 ⟨w4.heap.size, 7, none⟩ = some (.int .u64 x.so) := hT7.cell 7
            have d8 : World.cell? w7 ⟨w4.heap.size, 8, none⟩ = some (.int .u64 x.eg) := hT7.cell 8
            have d9 : World.cell? w7 ⟨w4.heap.size, 9, none⟩ = some (.int .u64 x.eo) := hT7.cell 9
            have d10 : World.cell? w7 ⟨w4.heap.size, 10, none⟩ = some (.bool x.sm) := hT7.cell 10
            have d11 : World.cell? w7 ⟨w4.heap.size, 11, none⟩ = some (.int .u64 x.cd) := hT7.cell 11
            have d12 : World.cell? w7 ⟨w4.heap.size, 12, none⟩ = some (.slice rA4 x.rs.length rc4) := hT7.cell 12
            have d13 : World.cell? w7 ⟨w4.heap.size, 13, none⟩ = some (.int .u64 x.n) := hT7.cell 13
            have d14 : World.cell? w7 ⟨w4.heap.size, 14, none⟩ = some (.int .u64 x.ve) := hT7.cell 14
            have d15 : World.cell? w7 ⟨w4.heap.size, 15, none⟩ = some (.slice vA4 x.vs.length vc4) := hT7.cell 15
            have hsb := same_yes (.slice A6 Q.length p6) vq Q w7 (rdt_of_mid ho7).1 (rd_of_own hoq)
            obtain ⟨Aq, pq, rfl, -⟩ := sl_of_own hoq
            have hsm := rsame_all x x (.slice nA4 x.nm.length nc4) (.slice rA4 x.rs.length rc4) (.slice vA4 x.vs.length vc4) (.slice nA2 x.nm.length nc2) (.slice rA2 x.rs.length rc2) (.slice vA2 x.vs.length vc2) w7 hX7.mv hM7.mv hx hx true ⟨fun _ => rfl, fun _ => rfl⟩
            clear ho6
            go_wp2_with fail
            (with_reducible refine hsb.mono ?_)
            clear hsb
            rintro e wq ⟨rfl, rfl⟩
            go_wp2_with fail
            (with_reducible refine hsm.mono ?_)
            clear hsm hoq c0 d0 c1 d1 c2 d2 c3 d3 c4 d4 c5 d5 c6 d6 c7 d7 c8 d8 c9 d9 c10 d10 c11 d11 c12 d12 c13 d13 c14 d14 c15 d15
            rintro e w8 ⟨rfl, hb8⟩
            have hO8 := hO7.same hb8
            have hM8 := hM7.below hb8
            have hB8 := hB7.trans (hb8.mono hs7)
            have ho8 := ho7.below hb8
            have hs8 := hB8.size
            have hct := cut40 (.slice bA l.length bc) l w8 (hv.below hB8)
            obtain ⟨L, hL⟩ : ∃ L, L = l.take 40 := ⟨_, rfl⟩
            have hLl : L.length ≤ 40 := by rw [hL, List.length_take]; omega
            have hLk : BytesOk L := by rw [hL]; exact hk.take 40
            rw [← hL] at hct
            clear hL hO7 hT7 hM7 hX7 hB7 hs7 ho7 hb7 hb8 hv hk
            as_aux_lemma =>
              go_wp2_with fail
              (with_reducible refine hct.mono ?_)
              clear hct
              rintro e w9 ⟨v9, rfl, ho9, hb9⟩
              have hO9 := hO8.same hb9
              have hM9 := hM8.below hb9
              have hP9 := ho8.below hb9
              have hB9 := hB8.trans (hb9.mono hs8)
              have hs9 := hB9.size
              obtain ⟨A9, p9, rfl, -⟩ := sl_of_own ho9
              have hap := own_apart2 (u := .slice A6 Q.length p6) (K := w8.heap.size) (fun b e => (ho8.lt b e).2) (fun b e => (ho9.lt b e).1)
              have HAP := Lib.hid hap
              have HPL := Lib.hid (fun b e => (ho8.lt b e).1)
              obtain ⟨-, hA9, -, -, hrv9⟩ := (rd_of_own (k := .u8) ho9).rdv
              obtain ⟨i0, hi0, hz0, hz1, hz2⟩ := info_parts infoB
              have hbd1 : Q.length + L.length ≤ maxLen := by unfold maxLen; omega
              have hbd2 : (Q.length + L.length) * 1 ≤ 140737488355328 := by omega
              have hPL := hP9.low hK5w
              clear hap hO8 hM8 ho8 hB8 hs8 hb9
              as_aux_lemma =>
                go_wp2_with (at_builtin; refine wpList_append_mid _ rfl _ _ 23 rfl w.heap.size 5 i0 _ 1 1 Tryd.underlying23 hi0 hz0 hz1 hz2 rfl (by decide) (.slice A6 Q.length p6) Q.length (Q.map (Value.int .u8)) rfl hPL A9 L.length p9 _ rfl hrv9 (oneInts _ _) hbd1 hbd2 hs9 hA9 ?_; intro v10 w10 hown10 hgrow10 hat10; obtain ⟨A10, p10, e10, -, -, -⟩ := hown10.form; subst e10)
                have hO10 := hO9.grown hgrow10 (fun e => hP9.blk_ne hO9 (by decide) e.symm)
                have hM10 := hM9.grown HLT.out.1 HLT.out.2.1 HLT.out.2.2 hgrow10 (fun b e => HPL.out b e)
                have hL10 := rd_of_own (own_grown ho9 hgrow10 HAP.out)
                have hB10 := hB9.grown hgrow10 hs9 (fun b e => Nat.le_trans hK5w (HPL.out b e))
                have hs10 := hB10.size
                have hr10 : RdT w10 (.slice A10 (Q.length + L.length) p10) (Q ++ L) := rdt_of_mid (by rw [List.length_append, List.map_append]; exact hown10)
                have hrd := read_all _ _ w10 (hG.same hB10) hr10 (hbk.append hLk) (by rw [List.length_append]; omega)
                rw [HRB.out L] at hrd
                clear hown10 hgrow10 hat10 hr10 hO9 hM9 hP9 hPL hB9 hs9 ho9 hrv9 hA9
                as_aux_lemma =>
                  (with_reducible refine hrd.mono ?_)
                  clear hrd
                  rintro e w11 ⟨hout, hb11⟩
                  obtain ⟨nA6, nc6, rA6, rc6, vA6, vc6, bA6, bc6, rfl, hM11, hr11⟩ := rdout_some hout
                  have hO11 := hO10.same hb11
                  have hN11 := hM10.below hb11
                  have hL11 := hL10.below hb11
                  have hB11 := hB10.trans (hb11.mono hs10)
                  have hba : Below w11.heap.size w11 (w11.alloc (.cells #[.int .u64 x.kd, .int .u64 x.id, .int .u64 x.al, .slice nA6 x.nm.length nc6, .int .u8 x.pr, .int .u8 x.od, .int .u64 x.sg, .int .u64 x.so, .int .u64 x.eg, .int .u64 x.eo, .bool x.sm, .int .u64 x.cd, .slice rA6 x.rs.length rc6, .int .u64 x.n, .int .u64 x.ve, .slice vA6 x.vs.length vc6] 31)) := (Below.refl _ _).alloc (Nat.le_refl _) _
                  have hT12 := Blk.new w11 31 #[.int .u64 x.kd, .int .u64 x.id, .int .u64 x.al, .slice nA6 x.nm.length nc6, .int .u8 x.pr, .int .u8 x.od, .int .u64 x.sg, .int .u64 x.so, .int .u64 x.eg, .int .u64 x.eo, .bool x.sm, .int .u64 x.cd, .slice rA6 x.rs.length rc6, .int .u64 x.n, .int .u64 x.ve, .slice vA6 x.vs.length vc6]
                  have hO12 := hO11.same hba
                  have hB12 := hB11.trans (hba.mono hB11.size)
                  have d0 : World.cell? _ ⟨w11.heap.size, 0, none⟩ = some (.int .u64 x.kd) := hT12.cell 0
                  have d1 : World.cell? _ ⟨w11.heap.size, 1, none⟩ = some (.int .u64 x.id) := hT12.cell 1
                  have d2 : World.cell? _ ⟨w11.heap.size, 2, none⟩ = some (.int .u64 x.al) := hT12.cell 2
                  have d3 : World.cell? _ ⟨w11.heap.size, 3, none⟩ = some (.slice nA6 x.nm.length nc6) := hT12.cell 3
                  have d4 : World.cell? _ ⟨w11.heap.size, 4, none⟩ = some (.int .u8 x.pr) := hT12.cell 4
                  have d5 : World.cell? _ ⟨w11.heap.size, 5, none⟩ = some (.int .u8 x.od) := hT12.cell 5
                  have d6 : World.cell? _ ⟨w11.heap.size, 6, none⟩ = some (.int .u64 x.sg) := hT12.cell 6
                  have d7 : World.cell? _ ⟨w11.heap.size, 7, none⟩ = some (.int .u64 x.so) := hT12.cell 7
                  have d8 : World.cell? _ ⟨w11.heap.size, 8, none⟩ = some (.int .u64 x.eg) := hT12.cell 8
                  have d9 : World.cell? _ ⟨w11.heap.size, 9, none⟩ = some (.int .u64 x.eo) := hT12.cell 9
                  have d10 : World.cell? _ ⟨w11.heap.size, 10, none⟩ = some (.bool x.sm) := hT12.cell 10
                  have d11 : World.cell? _ ⟨w11.heap.size, 11, none⟩ = some (.int .u64 x.cd) := hT12.cell 11
                  have d12 : World.cell? _ ⟨w11.heap.size, 12, none⟩ = some (.slice rA6 x.rs.length rc6) := hT12.cell 12
                  have d13 : World.cell? _ ⟨w11.heap.size, 13, none⟩ = some (.int .u64 x.n) := hT12.cell 13
                  have d14 : World.cell? _ ⟨w11.heap.size, 14, none⟩ = some (.int .u64 x.ve) := hT12.cell 14
                  have d15 : World.cell? _ ⟨w11.heap.size, 15, none⟩ = some (.slice vA6 x.vs.length vc6) := hT12.cell 15
                  have c0 : World.cell? _ ⟨w.heap.size, 0, none⟩ = some (.int .u64 x.kd) := hO12.cell 0
                  have c1 : World.cell? _ ⟨w.heap.size, 1, none⟩ = some (.int .u64 x.id) := hO12.cell 1
                  have c2 : World.cell? _ ⟨w.heap.size, 2, none⟩ = some (.int .u64 x.al) := hO12.cell 2
                  have c3 : World.cell? _ ⟨w.heap.size, 3, none⟩ = some (.slice nA2 x.nm.length nc2) := hO12.cell 3
                  have c4 : World.cell? _ ⟨w.heap.size, 4, none⟩ = some (.int .u8 x.pr) := hO12.cell 4
                  have c5 : World.cell? _ ⟨w.heap.size, 5, none⟩ = some (.int .u8 x.od) := hO12.cell 5
                  have c6 : World.cell? _ ⟨w.heap.size, 6, none⟩ = some (.int .u64 x.sg) := hO12.cell 6
                  have c7 : World.cell? _ ⟨w.heap.size, 7, none⟩ = some (.int .u64 x.so) := hO12.cell 7
                  have c8 : World.cell? _ ⟨w.heap.size, 8, none⟩ = some (.int .u64 x.eg) := hO12.cell 8
                  have c9 : World.cell? _ ⟨w.heap.size, 9, none⟩ = some (.int .u64 x.eo) := hO12.cell 9
                  have c10 : World.cell? _ ⟨w.heap.size, 10, none⟩ = some (.bool x.sm) := hO12.cell 10
                  have c11 : World.cell? _ ⟨w.heap.size, 11, none⟩ = some (.int .u64 x.cd) := hO12.cell 11
                  have c12 : World.cell? _ ⟨w.heap.size, 12, none⟩ = some (.slice rA2 x.rs.length rc2) := hO12.cell 12
                  have c13 : World.cell? _ ⟨w.heap.size, 13, none⟩ = some (.int .u64 x.n) := hO12.cell 13
                  have c14 : World.cell? _ ⟨w.heap.size, 14, none⟩ = some (.int .u64 x.ve) := hO12.cell 14
                  have c15 : World.cell? _ ⟨w.heap.size, 15, none⟩ = some (.slice vA2 x.vs.length vc2) := hO12.cell 15
                  have hsm := rsame_all x x (.slice nA6 x.nm.length nc6) (.slice rA6 x.rs.length rc6) (.slice vA6 x.vs.length vc6) (.slice nA2 x.nm.length nc2) (.slice rA2 x.rs.length rc2) (.slice vA2 x.vs.length vc2) _ (hM11.below hba) (hN11.below hba).mv hx hx true ⟨fun _ => rfl, fun _ => rfl⟩
                  have hq := fun W h1 h2 => same_yes (.slice bA6 L.length bc6) (.slice A9 L.length p9) L W h1 h2
                  have hr12 := hr11.below hba
                  have hL12 := hL11.below hba
                  clear hO10 hM10 hL10 hB10 hs10 hout hb11 hM11 hr11 hO11 hN11 hL11 hB11 hba hT12 hO12
                  as_aux_lemma =>
                    go_wp2_with fail
                    (with_reducible refine hsm.mono ?_)
                    clear hsm
                    rintro e w13 ⟨rfl, hb13⟩
                    have hq13 := hq w13 (hr12.below hb13) (hL12.below hb13)
                    clear hq
                    go_wp2_with fail
                    (with_reducible refine hq13.mono ?_)
                    clear hq13
                    rintro e w14 ⟨rfl, rfl⟩
                    go_wp2_with fail
                    go_ret
                    exact ⟨rfl, hB12.trans (hb13.mono hB12.size)⟩
    · as_aux_lemma =>
        have hby := bytes_no x _ _ _ _ (hG.same hB5) hX5.mv hx hxf (by cases hr : rt x with | false => rfl | true => exact absurd ((rt_iff x hx).1 hr) hR)
        have hqb := fun W hW => rbytes_no x (.slice nA2 x.nm.length nc2) (.slice rA2 x.rs.length rc2) (.slice vA2 x.vs.length vc2) W hW hx hxf hR
        clear hR
        go_wp2_with fail
        (with_reducible refine hby.mono ?_)
        clear hby d0 d1 d2 d3 d4 d5 d6 d7 d8 d9 d10 d11 d12 d13 d14 d15
        rintro e w6 ⟨rfl, hb6⟩
        have hO6 := hO5.same hb6
        have hT6 := hT5.same hb6
        have hM6 := hM5.below hb6
        have hX6 := hX5.below hb6
        have hB6 := hB5.trans (hb6.mono hs5)
        have hs6 := hB6.size
        clear hO5 hT5 hM5 hX5 hB5
        as_aux_lemma =>
          have c0 : World.cell? w6 ⟨w.heap.size, 0, none⟩ = some (.int .u64 x.kd) := hO6.cell 0
          have c1 : World.cell? w6 ⟨w.heap.size, 1, none⟩ = some (.int .u64 x.id) := hO6.cell 1
          have c2 : World.cell? w6 ⟨w.heap.size, 2, none⟩ = some (.int .u64 x.al) := hO6.cell 2
          have c3 : World.cell? w6 ⟨w.heap.size, 3, none⟩ = some (.slice nA2 x.nm.length nc2) := hO6.cell 3
          have c4 : World.cell? w6 ⟨w.heap.size, 4, none⟩ = some (.int .u8 x.pr) := hO6.cell 4
          have c5 : World.cell? w6 ⟨w.heap.size, 5, none⟩ = some (.int .u8 x.od) := hO6.cell 5
          have c6 : World.cell? w6 ⟨w.heap.size, 6, none⟩ = some (.int .u64 x.sg) := hO6.cell 6
          have c7 : World.cell? w6 ⟨w.heap.size, 7, none⟩ = some (.int .u64 x.so) := hO6.cell 7
          have c8 : World.cell? w6 ⟨w.heap.size, 8, none⟩ = some (.int .u64 x.eg) := hO6.cell 8
          have c9 : World.cell? w6 ⟨w.heap.size, 9, none⟩ = some (.int .u64 x.eo) := hO6.cell 9
          have c10 : World.cell? w6 ⟨w.heap.size, 10, none⟩ = some (.bool x.sm) := hO6.cell 10
          have c11 : World.cell? w6 ⟨w.heap.size, 11, none⟩ = some (.int .u64 x.cd) := hO6.cell 11
          have c12 : World.cell? w6 ⟨w.heap.size, 12, none⟩ = some (.slice rA2 x.rs.length rc2) := hO6.cell 12
          have c13 : World.cell? w6 ⟨w.heap.size, 13, none⟩ = some (.int .u64 x.n) := hO6.cell 13
          have c14 : World.cell? w6 ⟨w.heap.size, 14, none⟩ = some (.int .u64 x.ve) := hO6.cell 14
          have c15 : World.cell? w6 ⟨w.heap.size, 15, none⟩ = some (.slice vA2 x.vs.length vc2) := hO6.cell 15
          have hqb6 := hqb w6 hM6.mv
          clear hqb
          go_wp2_with fail
          (with_reducible refine hqb6.mono ?_)
          clear hqb6 c0 c1 c2 c3 c4 c5 c6 c7 c8 c9 c10 c11 c12 c13 c14 c15
          rintro e w7 ⟨rfl, hb7⟩
          have hO7 := hO6.same hb7
          have hT7 := hT6.same hb7
          have hM7 := hM6.below hb7
          have hX7 := hX6.below hb7
          have hB7 := hB6.trans (hb7.mono hs6)
          have hs7 := hB7.size
          clear hO6 hT6 hM6 hX6 hB6
          as_aux_lemma =>
            have c0 : World.cell? w7 ⟨w.heap.size, 0, none⟩ = some (.int .u64 x.kd) := hO7.cell 0
            have c1 : World.cell? w7 ⟨w.heap.size, 1, none⟩ = some (.int .u64 x.id) := hO7.cell 1
            have c2 : World.cell? w7 ⟨w.heap.size, 2, none⟩ = some (.int .u64 x.al) := hO7.cell 2
            have c3 : World.cell? w7 ⟨w.heap.size, 3, none⟩ = some (.slice nA2 x.nm.length nc2) := hO7.cell 3
            have c4 : World.cell? w7 ⟨w.heap.size, 4, none⟩ = some (.int .u8 x.pr) := hO7.cell 4
            have c5 : World.cell? w7 ⟨w.heap.size, 5, none⟩ = some (.int .u8 x.od) := hO7.cell 5
            have c6 : World.cell? w7 ⟨w.heap.size, 6, none⟩ = some (.int .u64 x.sg) := hO7.cell 6
            have c7 : World.cell? w7 ⟨w.heap.size, 7, none⟩ = some (.int .u64 x.so) := hO7.cell 7
            have c8 : World.cell? w7 ⟨w.heap.size, 8, none⟩ = some (.int .u64 x.eg) := hO7.cell 8
            have c9 : World.cell? w7 ⟨w.heap.size, 9, none⟩ = some (.int .u64 x.eo) := hO7.cell 9
            have c10 : World.cell? w7 ⟨w.heap.size, 10, none⟩ = some (.bool x.sm) := hO7.cell 10
            have c11 : World.cell? w7 ⟨w.heap.size, 11, none⟩ = some (.int .u64 x.cd) := hO7.cell 11
            have c12 : World.cell? w7 ⟨w.heap.size, 12, none⟩ = some (.slice rA2 x.rs.length rc2) := hO7.cell 12
            have c13 : World.cell? w7 ⟨w.heap.size, 13, none⟩ = some (.int .u64 x.n) := hO7.cell 13
            have c14 : World.cell? w7 ⟨w.heap.size, 14, none⟩ = some (.int .u64 x.ve) := hO7.cell 14
            have c15 : World.cell? w7 ⟨w.heap.size, 15, none⟩ = some (.slice vA2 x.vs.length vc2) := hO7.cell 15
            have d0 : World.cell? w7 ⟨w4.heap.size, 0, none⟩ = some (.int .u64 x.kd) := hT7.cell 0
            have d1 : World.cell? w7 ⟨w4.heap.size, 1, none⟩ = some (.int .u64 x.id) := hT7.cell 1
            have d2 : World.cell? w7 ⟨w4.heap.size, 2, none⟩ = some (.int .u64 x.al) := hT7.cell 2
            have d3 : World.cell? w7 ⟨w4.heap.size, 3, none⟩ = some (.slice nA4 x.nm.length nc4) := hT7.cell 3
            have d4 : World.cell? w7 ⟨w4.heap.size, 4, none⟩ = some (.int .u8 x.pr) := hT7.cell 4
            have d5 : World.cell? w7 ⟨w4.heap.size, 5, none⟩ = some (.int .u8 x.od) := hT7.cell 5
            have d6 : World.cell? w7 ⟨w4.heap.size, 6, none⟩ = some (.int .u64 x.sg) := hT7.cell 6
            have d7 : World.cell? w7 ⟨w4.heap.size, 7, none⟩ = some (.int .u64 x.so) := hT7.cell 7
            have d8 : World.cell? w7 ⟨w4.heap.size, 8, none⟩ = some (.int .u64 x.eg) := hT7.cell 8
            have d9 : World.cell? w7 ⟨w4.heap.size, 9, none⟩ = some (.int .u64 x.eo) := hT7.cell 9
            have d10 : World.cell? w7 ⟨w4.heap.size, 10, none⟩ = some (.bool x.sm) := hT7.cell 10
            have d11 : World.cell? w7 ⟨w4.heap.size, 11, none⟩ = some (.int .u64 x.cd) := hT7.cell 11
            have d12 : World.cell? w7 ⟨w4.heap.size, 12, none⟩ = some (.slice rA4 x.rs.length rc4) := hT7.cell 12
            have d13 : World.cell? w7 ⟨w4.heap.size, 13, none⟩ = some (.int .u64 x.n) := hT7.cell 13
            have d14 : World.cell? w7 ⟨w4.heap.size, 14, none⟩ = some (.int .u64 x.ve) := hT7.cell 14
            have d15 : World.cell? w7 ⟨w4.heap.size, 15, none⟩ = some (.slice vA4 x.vs.length vc4) := hT7.cell 15
            have hsb := same_yes (.slice none 0 0) (.slice none 0 0) [] w7 (Rd.nil _ _) (Rd.nil _ _)
            have hsm := rsame_all x x (.slice nA4 x.nm.length nc4) (.slice rA4 x.rs.length rc4) (.slice vA4 x.vs.length vc4) (.slice nA2 x.nm.length nc2) (.slice rA2 x.rs.length rc2) (.slice vA2 x.vs.length vc2) w7 hX7.mv hM7.mv hx hx true ⟨fun _ => rfl, fun _ => rfl⟩
            go_wp2_with fail
            (with_reducible refine hsb.mono ?_)
            clear hsb
            rintro e wq ⟨rfl, rfl⟩
            go_wp2_with fail
            (with_reducible refine hsm.mono ?_)
            clear hsm
            rintro e w8 ⟨rfl, hb8⟩
            go_wp2_with fail
            go_ret
            exact ⟨rfl, hB7.trans (hb8.mono hs7)⟩

end Go.Proofs.YtjijmbpgfabgcaaDoor
