/-
  WordCuts: the walk. No condition.
-/
import Derived.Test.YtjijmbpgfabgcaaDoorZWplus
import Derived.Test.YtjijmbpgfabgcaaDoorZRbytes
import Derived.Test.YtjijmbpgfabgcaaDoorZWloose
namespace Go.Proofs.YtjijmbpgfabgcaaDoor
open Go.RowKit
set_option linter.unusedVariables false
set_option linter.unusedSimpArgs false

set_option maxHeartbeats 4000000 in
set_option maxRecDepth 100000 in
theorem cuts_walk (m : M) (nv rv vv : Value) (a : Int) (w : World) (hG : Glob w) (hM : MV w m nv rv vv) (h : m.Ok) (ha : 0 ≤ a ∧ a ≤ 65535) :
    Calls Tryd.prog 5 #[.agg (m.cells nv rv vv), .int .u16 a] w fun e w' => e = .returned (.bool true) ∧ Below w.heap.size w w' := by
  obtain ⟨nA, nc, rfl⟩ := hM.nm.form
  obtain ⟨rA, rc, rfl⟩ := hM.rs.form
  obtain ⟨vA, vc, rfl⟩ := hM.vs.form
  have hO0 := Blk.new w 28 #[.int .u64 m.kd, .int .u64 m.id, .int .u64 m.al, .slice nA m.nm.length nc, .int .u8 m.pr, .int .u8 m.od, .int .u64 m.sg, .int .u64 m.so, .int .u64 m.eg, .int .u64 m.eo, .bool m.sm, .int .u64 m.cd, .slice rA m.rs.length rc, .int .u64 m.n, .int .u64 m.ve, .slice vA m.vs.length vc]
  have hB0 := (Below.refl w.heap.size w).alloc (Nat.le_refl _) (.cells #[.int .u64 m.kd, .int .u64 m.id, .int .u64 m.al, .slice nA m.nm.length nc, .int .u8 m.pr, .int .u8 m.od, .int .u64 m.sg, .int .u64 m.so, .int .u64 m.eg, .int .u64 m.eo, .bool m.sm, .int .u64 m.cd, .slice rA m.rs.length rc, .int .u64 m.n, .int .u64 m.ve, .slice vA m.vs.length vc] 28)
  have haw := awake_any _ (hG.same hB0)
  go_enter Tryd.func5, Tryd.ntmps5
  go_wp2_with fail
  (with_reducible refine haw.mono ?_)
  clear haw
  rintro e w1 ⟨rfl, hb1⟩
  have hO1 := hO0.same hb1
  have hB1 := hB0.trans (hb1.mono hB0.size)
  have hfw := few_any m _ _ _ w1 (hM.below hB1)
  have c0 : World.cell? w1 ⟨w.heap.size, 0, none⟩ = some (.int .u64 m.kd) := hO1.cell 0
  have c1 : World.cell? w1 ⟨w.heap.size, 1, none⟩ = some (.int .u64 m.id) := hO1.cell 1
  have c2 : World.cell? w1 ⟨w.heap.size, 2, none⟩ = some (.int .u64 m.al) := hO1.cell 2
  have c3 : World.cell? w1 ⟨w.heap.size, 3, none⟩ = some (.slice nA m.nm.length nc) := hO1.cell 3
  have c4 : World.cell? w1 ⟨w.heap.size, 4, none⟩ = some (.int .u8 m.pr) := hO1.cell 4
  have c5 : World.cell? w1 ⟨w.heap.size, 5, none⟩ = some (.int .u8 m.od) := hO1.cell 5
  have c6 : World.cell? w1 ⟨w.heap.size, 6, none⟩ = some (.int .u64 m.sg) := hO1.cell 6
  have c7 : World.cell? w1 ⟨w.heap.size, 7, none⟩ = some (.int .u64 m.so) := hO1.cell 7
  have c8 : World.cell? w1 ⟨w.heap.size, 8, none⟩ = some (.int .u64 m.eg) := hO1.cell 8
  have c9 : World.cell? w1 ⟨w.heap.size, 9, none⟩ = some (.int .u64 m.eo) := hO1.cell 9
  have c10 : World.cell? w1 ⟨w.heap.size, 10, none⟩ = some (.bool m.sm) := hO1.cell 10
  have c11 : World.cell? w1 ⟨w.heap.size, 11, none⟩ = some (.int .u64 m.cd) := hO1.cell 11
  have c12 : World.cell? w1 ⟨w.heap.size, 12, none⟩ = some (.slice rA m.rs.length rc) := hO1.cell 12
  have c13 : World.cell? w1 ⟨w.heap.size, 13, none⟩ = some (.int .u64 m.n) := hO1.cell 13
  have c14 : World.cell? w1 ⟨w.heap.size, 14, none⟩ = some (.int .u64 m.ve) := hO1.cell 14
  have c15 : World.cell? w1 ⟨w.heap.size, 15, none⟩ = some (.slice vA m.vs.length vc) := hO1.cell 15
  clear hO0 hB0 hb1 hO1
  go_wp2_with fail
  (with_reducible refine hfw.mono ?_)
  clear hfw c0 c1 c2 c3 c4 c5 c6 c7 c8 c9 c10 c11 c12 c13 c14 c15
  rintro e w2 ⟨nv2, rv2, vv2, rfl, hn2, hr2, hv2, hb2⟩
  have hB2 := hB1.trans (hb2.mono hB1.size)
  have hM2 : MV w2 (few m) nv2 rv2 vv2 := ⟨hn2.1, hr2.1, rd_of_own hv2⟩
  have hx := few_ok h
  have hxf := few_fit m
  obtain ⟨x, hxe⟩ : ∃ x, x = few m := ⟨_, rfl⟩
  rw [← hxe] at hM2 hx hxf ⊢
  clear hxe hn2 hr2 hv2 hb2 hB1 hM h
  by_cases hR : Right x
  · have hby := rbytes_yes x nv2 rv2 vv2 w2 hM2 hx hxf hR
    have hbl := bts_len hR
    have hbk := bts_ok hx hR
    have hcut := cut_bts hR
    obtain ⟨P, hP⟩ : ∃ P, P = bts x := ⟨_, rfl⟩
    rw [← hP] at hby hbl hbk hcut
    clear hP hR
    go_wp2_with fail
    (with_reducible refine hby.mono ?_)
    clear hby
    rintro e w3 ⟨v, rfl, ho3, hb3⟩
    have hB3 := hB2.trans (hb3.mono hB2.size)
    have hr3 := rdt_of_own ho3
    obtain ⟨A, c, rfl, hc1, -⟩ := sl_of_own ho3
    obtain ⟨k, hk⟩ : ∃ k : Nat, a % (P.length : Int) = (k : Int) := ⟨(a % (P.length : Int)).toNat, by have := Int.emod_nonneg a (show (P.length : Int) ≠ 0 by omega); omega⟩
    have hkN : k < P.length := by have := Int.emod_lt_of_pos a (show 0 < (P.length : Int) by omega); omega
    have hkt : a.tmod (P.length : Int) = (k : Int) := by rw [Int.tmod_eq_emod_of_nonneg ha.1, hk]
    have hN0 : (P.length : Int) ≠ 0 := by omega
    have hrk := hr3.pre (m := k) (by omega)
    have hsl := front_slice hr3 k (by omega)
    have hrd := read_all _ (P.take k) w3 (hG.same hB3) hrk (hbk.take k) (by rw [List.length_take]; omega)
    rw [hcut k hkN] at hrd
    clear hcut hrk hr3 ho3 hbk hb3 hB2 hM2
    go_wp2_with fail
    (with_reducible refine hrd.mono ?_)
    rintro e w4 ⟨hout, hb4⟩
    obtain ⟨nA4, nc4, rA4, rc4, vA4, vc4, bA4, bc4, rfl⟩ := rdout_no hout
    have hB4 := hB3.trans (hb4.mono hB3.size)
    clear hout hb4 hrd hsl
    go_wp2_with fail
    go_ret
    exact ⟨rfl, hB4.trans ((Below.refl _ _).alloc hB4.size _)⟩
  · have hby := rbytes_no x nv2 rv2 vv2 w2 hM2 hx hxf hR
    clear hR
    go_wp2_with fail
    (with_reducible refine hby.mono ?_)
    rintro e w3 ⟨rfl, hb3⟩
    go_wp2_with fail
    go_ret
    exact ⟨rfl, hB2.trans (hb3.mono hB2.size)⟩

end Go.Proofs.YtjijmbpgfabgcaaDoor
