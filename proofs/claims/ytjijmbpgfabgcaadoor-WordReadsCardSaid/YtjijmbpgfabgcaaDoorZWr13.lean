/-
  Read's last statement: the message is laid, what is behind it is copied. No condition.
-/
import Derived.Test.YtjijmbpgfabgcaaDoorZWreadd
namespace Go.Proofs.YtjijmbpgfabgcaaDoor
open Go.RowKit
set_option linter.unusedVariables false
set_option linter.unusedSimpArgs false

set_option maxHeartbeats 40000000 in
set_option maxRecDepth 100000 in
theorem r13 (w w6 : World) (mb g off sn sc tn TC nc rc vc BV : Nat) (TA nA rA vA : Option Addr) (hi : Int) (y : M) (QD : List Int) (K : Act → World → Prop) (R : Ending → World → Prop) (s0 s1 s3 s4 s5 s7 s8 s9 s12 s13 s14 s15 s16 s17 s18 s19 s20 s21 s22 s23 s24 s25 s26 s27 s28 s29 s30 s31 s32 s33 s34 s35 s36 s37 s38 s39 s40 s41 s42 s43 s44 s45 s46 s47 s48 s49 s50 s51 s52 s53 s54 s55 s56 s57 s58 s59 s60 s61 s62 s63 s64 s65 s66 s67 s68 s69 s70 s71 s72 s73 s74 s75 s76 s77 s78 : Value)
    (hB6 : Below w.heap.size w w6) (hO6 : Blk w6 w.heap.size 31 #[.int .u64 0, .int .u64 0, .int .u64 0, .slice none 0 0, .int .u8 0, .int .u8 0, .int .u64 0, .int .u64 0, .int .u64 0, .int .u64 0, .bool false, .int .u64 0, .slice none 0 0, .int .u64 0, .int .u64 0, .slice none 0 0]) (hX6 : Blk w6 mb 31 #[.int .u64 y.kd, .int .u64 y.id, .int .u64 y.al, .slice nA y.nm.length nc, .int .u8 y.pr, .int .u8 y.od, .int .u64 y.sg, .int .u64 y.so, .int .u64 y.eg, .int .u64 y.eo, .bool y.sm, .int .u64 y.cd, .slice rA y.rs.length rc, .int .u64 y.n, .int .u64 y.ve, .slice vA y.vs.length vc]) (hmne : mb ≠ w.heap.size) (hN6 : RdT w6 (.slice nA y.nm.length nc) y.nm) (hR6 : RdT w6 (.slice rA y.rs.length rc) y.rs) (hV6 : w6.ownsRow BV 22 1 (.slice vA y.vs.length vc) y.vs.length (y.vs.map (Value.int .u64)))
    (hrD0 : Rd w6 .u8 (.slice TA tn TC) QD) (hsf : ∀ W, (Instr.slice 23 (.slice (some ⟨g, off, none⟩) sn sc) (some (.int .i64 hi)) none none).run Tryd.prog W = .ok (.slice TA tn TC) W) (hlD : QD.length ≤ 1099511627776)
    (hQ : ∀ (bA : Option Addr) (bc : Nat) (x74 x75 x76 x77 x78 : Value) (w' : World), Blk w' w.heap.size 31 #[.int .u64 y.kd, .int .u64 y.id, .int .u64 y.al, .slice nA y.nm.length nc, .int .u8 y.pr, .int .u8 y.od, .int .u64 y.sg, .int .u64 y.so, .int .u64 y.eg, .int .u64 y.eo, .bool y.sm, .int .u64 y.cd, .slice rA y.rs.length rc, .int .u64 y.n, .int .u64 y.ve, .slice vA y.vs.length vc] → RdT w' (.slice nA y.nm.length nc) y.nm → RdT w' (.slice rA y.rs.length rc) y.rs → w'.ownsRow BV 22 1 (.slice vA y.vs.length vc) y.vs.length (y.vs.map (Value.int .u64)) → RdT w' (.slice bA QD.length bc) QD → Below w.heap.size w w' → K { tmps := #[s0, s1, .pointer (some ⟨w.heap.size, 0, none⟩), .slice bA QD.length bc, .int .i64 0, s5, .slice (some ⟨g, off, none⟩) sn sc, s7, s8, s9, .int .i64 hi, .pointer (some ⟨mb, 0, none⟩), s12, s13, s14, s15, s16, s17, s18, s19, s20, s21, s22, s23, s24, s25, s26, s27, s28, s29, s30, s31, s32, s33, s34, s35, s36, s37, s38, s39, s40, s41, s42, s43, s44, s45, s46, s47, s48, s49, s50, s51, s52, s53, s54, s55, s56, s57, s58, s59, s60, s61, s62, s63, s64, s65, s66, s67, s68, s69, s70, s71, s72, s73, x74, x75, x76, x77, x78], defers := [] } w') :
    Code.wp Tryd.prog (Code.region 13 #[{ dst := some 74, op := Op.load 31 (Operand.tmp 11), type := 31, pos := "word.go:370", after := #[], guard := none }, { dst := some 75, op := Op.move (Operand.tmp 6), type := 23, pos := "word.go:370", after := #[], guard := none }, { dst := some 76, op := Op.move (Operand.tmp 10), type := 3, pos := "word.go:370", after := #[], guard := none }, { dst := some 77, op := Op.slice 23 (Operand.tmp 75) (some (Operand.tmp 76)) none none, type := 23, pos := "word.go:370", after := #[{ on := 1, ground := Ground.data }, { on := 2, ground := Ground.data }], guard := none }, { dst := some 78, op := Op.call { callee := Callee.value (Operand.func 36), args := #[Operand.tmp 77], argTypes := #[23] }, type := 23, pos := "word.go:370", after := #[{ on := 3, ground := Ground.data }], guard := none }, { dst := none, op := Op.store 31 (Operand.tmp 2) (Operand.tmp 74), type := 0, pos := "word.go:370", after := #[{ on := 0, ground := Ground.data }, { on := 4, ground := Ground.chain }, { on := 0, ground := Ground.phase }, { on := 1, ground := Ground.textOnly Departure.lateStores }, { on := 2, ground := Ground.textOnly Departure.lateStores }, { on := 3, ground := Ground.textOnly Departure.lateStoresUnsure }, { on := 4, ground := Ground.textOnly Departure.lateStoresUnsure }], guard := none }, { dst := some 3, op := Op.assign (Operand.tmp 78), type := 23, pos := "word.go:370", after := #[{ on := 4, ground := Ground.data }, { on := 5, ground := Ground.chain }, { on := 0, ground := Ground.phase }, { on := 1, ground := Ground.phase }, { on := 2, ground := Ground.phase }, { on := 3, ground := Ground.phase }, { on := 4, ground := Ground.phase }, { on := 5, ground := Ground.phase }], guard := none }, { dst := some 4, op := Op.assign (Operand.const (Value.int IntKind.i64 0)), type := 32, pos := "word.go:370", after := #[{ on := 6, ground := Ground.chain }, { on := 0, ground := Ground.phase }, { on := 1, ground := Ground.phase }, { on := 2, ground := Ground.phase }, { on := 3, ground := Ground.phase }, { on := 4, ground := Ground.phase }, { on := 5, ground := Ground.phase }, { on := 6, ground := Ground.phase }], guard := none }] true) (Exit.then K (bodyPost Tryd.prog Tryd.f16 R)) { tmps := #[s0, s1, .pointer (some ⟨w.heap.size, 0, none⟩), s3, s4, s5, .slice (some ⟨g, off, none⟩) sn sc, s7, s8, s9, .int .i64 hi, .pointer (some ⟨mb, 0, none⟩), s12, s13, s14, s15, s16, s17, s18, s19, s20, s21, s22, s23, s24, s25, s26, s27, s28, s29, s30, s31, s32, s33, s34, s35, s36, s37, s38, s39, s40, s41, s42, s43, s44, s45, s46, s47, s48, s49, s50, s51, s52, s53, s54, s55, s56, s57, s58, s59, s60, s61, s62, s63, s64, s65, s66, s67, s68, s69, s70, s71, s72, s73, s74, s75, s76, s77, s78], defers := [] } w6 := by
  have hrD : Rd w6.drew .u8 (.slice TA tn TC) QD := hrD0
  have x0 : w6.cell? ⟨mb, 0, none⟩ = some (.int .u64 y.kd) := hX6.cell 0
  have x1 : w6.cell? ⟨mb, 1, none⟩ = some (.int .u64 y.id) := hX6.cell 1
  have x2 : w6.cell? ⟨mb, 2, none⟩ = some (.int .u64 y.al) := hX6.cell 2
  have x3 : w6.cell? ⟨mb, 3, none⟩ = some (.slice nA y.nm.length nc) := hX6.cell 3
  have x4 : w6.cell? ⟨mb, 4, none⟩ = some (.int .u8 y.pr) := hX6.cell 4
  have x5 : w6.cell? ⟨mb, 5, none⟩ = some (.int .u8 y.od) := hX6.cell 5
  have x6 : w6.cell? ⟨mb, 6, none⟩ = some (.int .u64 y.sg) := hX6.cell 6
  have x7 : w6.cell? ⟨mb, 7, none⟩ = some (.int .u64 y.so) := hX6.cell 7
  have x8 : w6.cell? ⟨mb, 8, none⟩ = some (.int .u64 y.eg) := hX6.cell 8
  have x9 : w6.cell? ⟨mb, 9, none⟩ = some (.int .u64 y.eo) := hX6.cell 9
  have x10 : w6.cell? ⟨mb, 10, none⟩ = some (.bool y.sm) := hX6.cell 10
  have x11 : w6.cell? ⟨mb, 11, none⟩ = some (.int .u64 y.cd) := hX6.cell 11
  have x12 : w6.cell? ⟨mb, 12, none⟩ = some (.slice rA y.rs.length rc) := hX6.cell 12
  have x13 : w6.cell? ⟨mb, 13, none⟩ = some (.int .u64 y.n) := hX6.cell 13
  have x14 : w6.cell? ⟨mb, 14, none⟩ = some (.int .u64 y.ve) := hX6.cell 14
  have x15 : w6.cell? ⟨mb, 15, none⟩ = some (.slice vA y.vs.length vc) := hX6.cell 15
  have y0 : w6.cell? ⟨w.heap.size, 0, none⟩ = some (.int .u64 0) := hO6.cell 0
  have y1 : w6.cell? ⟨w.heap.size, 1, none⟩ = some (.int .u64 0) := hO6.cell 1
  have y2 : w6.cell? ⟨w.heap.size, 2, none⟩ = some (.int .u64 0) := hO6.cell 2
  have y3 : w6.cell? ⟨w.heap.size, 3, none⟩ = some (.slice none 0 0) := hO6.cell 3
  have y4 : w6.cell? ⟨w.heap.size, 4, none⟩ = some (.int .u8 0) := hO6.cell 4
  have y5 : w6.cell? ⟨w.heap.size, 5, none⟩ = some (.int .u8 0) := hO6.cell 5
  have y6 : w6.cell? ⟨w.heap.size, 6, none⟩ = some (.int .u64 0) := hO6.cell 6
  have y7 : w6.cell? ⟨w.heap.size, 7, none⟩ = some (.int .u64 0) := hO6.cell 7
  have y8 : w6.cell? ⟨w.heap.size, 8, none⟩ = some (.int .u64 0) := hO6.cell 8
  have y9 : w6.cell? ⟨w.heap.size, 9, none⟩ = some (.int .u64 0) := hO6.cell 9
  have y10 : w6.cell? ⟨w.heap.size, 10, none⟩ = some (.bool false) := hO6.cell 10
  have y11 : w6.cell? ⟨w.heap.size, 11, none⟩ = some (.int .u64 0) := hO6.cell 11
  have y12 : w6.cell? ⟨w.heap.size, 12, none⟩ = some (.slice none 0 0) := hO6.cell 12
  have y13 : w6.cell? ⟨w.heap.size, 13, none⟩ = some (.int .u64 0) := hO6.cell 13
  have y14 : w6.cell? ⟨w.heap.size, 14, none⟩ = some (.int .u64 0) := hO6.cell 14
  have y15 : w6.cell? ⟨w.heap.size, 15, none⟩ = some (.slice none 0 0) := hO6.cell 15
  have f0 := hO6.frozen 0
  have f1 := hO6.frozen 1
  have f2 := hO6.frozen 2
  have f3 := hO6.frozen 3
  have f4 := hO6.frozen 4
  have f5 := hO6.frozen 5
  have f6 := hO6.frozen 6
  have f7 := hO6.frozen 7
  have f8 := hO6.frozen 8
  have f9 := hO6.frozen 9
  have f10 := hO6.frozen 10
  have f11 := hO6.frozen 11
  have f12 := hO6.frozen 12
  have f13 := hO6.frozen 13
  have f14 := hO6.frozen 14
  have f15 := hO6.frozen 15
  have HQ := Lib.hid hQ
  clear hQ
  go_region_law (go_simp; go_at_call 36; ((with_reducible refine (clone_any _ QD w6.drew hrD hlD).mono ?_); rintro e wD ⟨cvv, rfl, hoD, hbD⟩; obtain ⟨bA, bc, rfl, _⟩ := sl_of_own hoD; have hX7 := hX6.drew.same hbD; have hO7 := hO6.drew.same hbD; have hB7 : Below w.heap.size w wD := hB6.trans ((below_drewN (Below.refl _ _) 1).trans (hbD.mono hB6.size)); have hN7 := hN6.drew.below hbD; have hR7 := hR6.drew.below hbD; have hV7 := own_same (own_drewN hV6 1) hbD; have z0 : wD.cell? ⟨mb, 0, none⟩ = some (.int .u64 y.kd) := hX7.cell 0; have z1 : wD.cell? ⟨mb, 1, none⟩ = some (.int .u64 y.id) := hX7.cell 1; have z2 : wD.cell? ⟨mb, 2, none⟩ = some (.int .u64 y.al) := hX7.cell 2; have z3 : wD.cell? ⟨mb, 3, none⟩ = some (.slice nA y.nm.length nc) := hX7.cell 3; have z4 : wD.cell? ⟨mb, 4, none⟩ = some (.int .u8 y.pr) := hX7.cell 4; have z5 : wD.cell? ⟨mb, 5, none⟩ = some (.int .u8 y.od) := hX7.cell 5; have z6 : wD.cell? ⟨mb, 6, none⟩ = some (.int .u64 y.sg) := hX7.cell 6; have z7 : wD.cell? ⟨mb, 7, none⟩ = some (.int .u64 y.so) := hX7.cell 7; have z8 : wD.cell? ⟨mb, 8, none⟩ = some (.int .u64 y.eg) := hX7.cell 8; have z9 : wD.cell? ⟨mb, 9, none⟩ = some (.int .u64 y.eo) := hX7.cell 9; have z10 : wD.cell? ⟨mb, 10, none⟩ = some (.bool y.sm) := hX7.cell 10; have z11 : wD.cell? ⟨mb, 11, none⟩ = some (.int .u64 y.cd) := hX7.cell 11; have z12 : wD.cell? ⟨mb, 12, none⟩ = some (.slice rA y.rs.length rc) := hX7.cell 12; have z13 : wD.cell? ⟨mb, 13, none⟩ = some (.int .u64 y.n) := hX7.cell 13; have z14 : wD.cell? ⟨mb, 14, none⟩ = some (.int .u64 y.ve) := hX7.cell 14; have z15 : wD.cell? ⟨mb, 15, none⟩ = some (.slice vA y.vs.length vc) := hX7.cell 15; have y0 : wD.cell? ⟨w.heap.size, 0, none⟩ = some (.int .u64 0) := hO7.cell 0; have f0 := hO7.frozen 0; have y1 : wD.cell? ⟨w.heap.size, 1, none⟩ = some (.int .u64 0) := hO7.cell 1; have f1 := hO7.frozen 1; have y2 : wD.cell? ⟨w.heap.size, 2, none⟩ = some (.int .u64 0) := hO7.cell 2; have f2 := hO7.frozen 2; have y3 : wD.cell? ⟨w.heap.size, 3, none⟩ = some (.slice none 0 0) := hO7.cell 3; have f3 := hO7.frozen 3; have y4 : wD.cell? ⟨w.heap.size, 4, none⟩ = some (.int .u8 0) := hO7.cell 4; have f4 := hO7.frozen 4; have y5 : wD.cell? ⟨w.heap.size, 5, none⟩ = some (.int .u8 0) := hO7.cell 5; have f5 := hO7.frozen 5; have y6 : wD.cell? ⟨w.heap.size, 6, none⟩ = some (.int .u64 0) := hO7.cell 6; have f6 := hO7.frozen 6; have y7 : wD.cell? ⟨w.heap.size, 7, none⟩ = some (.int .u64 0) := hO7.cell 7; have f7 := hO7.frozen 7; have y8 : wD.cell? ⟨w.heap.size, 8, none⟩ = some (.int .u64 0) := hO7.cell 8; have f8 := hO7.frozen 8; have y9 : wD.cell? ⟨w.heap.size, 9, none⟩ = some (.int .u64 0) := hO7.cell 9; have f9 := hO7.frozen 9; have y10 : wD.cell? ⟨w.heap.size, 10, none⟩ = some (.bool false) := hO7.cell 10; have f10 := hO7.frozen 10; have y11 : wD.cell? ⟨w.heap.size, 11, none⟩ = some (.int .u64 0) := hO7.cell 11; have f11 := hO7.frozen 11; have y12 : wD.cell? ⟨w.heap.size, 12, none⟩ = some (.slice none 0 0) := hO7.cell 12; have f12 := hO7.frozen 12; have y13 : wD.cell? ⟨w.heap.size, 13, none⟩ = some (.int .u64 0) := hO7.cell 13; have f13 := hO7.frozen 13; have y14 : wD.cell? ⟨w.heap.size, 14, none⟩ = some (.int .u64 0) := hO7.cell 14; have f14 := hO7.frozen 14; have y15 : wD.cell? ⟨w.heap.size, 15, none⟩ = some (.slice none 0 0) := hO7.cell 15; have f15 := hO7.frozen 15))
  all_goals have hOf := hO7.set16 (.int .u64 y.kd) (.int .u64 y.id) (.int .u64 y.al) (.slice nA y.nm.length nc) (.int .u8 y.pr) (.int .u8 y.od) (.int .u64 y.sg) (.int .u64 y.so) (.int .u64 y.eg) (.int .u64 y.eo) (.bool y.sm) (.int .u64 y.cd) (.slice rA y.rs.length rc) (.int .u64 y.n) (.int .u64 y.ve) (.slice vA y.vs.length vc)
  all_goals have hBf := below16 hB7 (Nat.le_refl w.heap.size) (.int .u64 y.kd) (.int .u64 y.id) (.int .u64 y.al) (.slice nA y.nm.length nc) (.int .u8 y.pr) (.int .u8 y.od) (.int .u64 y.sg) (.int .u64 y.so) (.int .u64 y.eg) (.int .u64 y.eo) (.bool y.sm) (.int .u64 y.cd) (.slice rA y.rs.length rc) (.int .u64 y.n) (.int .u64 y.ve) (.slice vA y.vs.length vc)
  all_goals have hKf := fun (g : Nat) (t : TypeId) (cs : Array Value) (x : Blk wD g t cs) (n1 : t ≠ 31) => far16 x (x.ne_ hO7 n1) (.int .u64 y.kd) (.int .u64 y.id) (.int .u64 y.al) (.slice nA y.nm.length nc) (.int .u8 y.pr) (.int .u8 y.od) (.int .u64 y.sg) (.int .u64 y.so) (.int .u64 y.eg) (.int .u64 y.eo) (.bool y.sm) (.int .u64 y.cd) (.slice rA y.rs.length rc) (.int .u64 y.n) (.int .u64 y.ve) (.slice vA y.vs.length vc)
  all_goals try simp only [Act.put, List.setIfInBounds_toArray, List.set_cons_zero, List.set_cons_succ]
  all_goals show K _ _
  all_goals exact HQ.out _ _ _ _ _ _ _ _ hOf (rdt_blk hN7 (fun g cs x => hKf g 5 cs x (by decide)) (by simp)) (rdt_blk hR7 (fun g cs x => hKf g 5 cs x (by decide)) (by simp)) (own_blks hV7 (fun g cs x => hKf g 22 cs x (by decide))) (rdt_blk (rdt_of_own hoD) (fun g cs x => hKf g 5 cs x (by decide)) (by simp)) hBf

end Go.Proofs.YtjijmbpgfabgcaaDoor
