/-
  The reference: Same. No condition.
-/
import Derived.Test.YtjijmbpgfabgcaaDoorZRshape
import Derived.Test.YtjijmbpgfabgcaaDoorZA
import Derived.Deep.CutBlock
namespace Go.Proofs.YtjijmbpgfabgcaaDoor
open Go.RowKit
set_option linter.unusedVariables false
set_option linter.unusedSimpArgs false

theorem ltP_self (a b : Int) : ltP a b a b = false := by simp [ltP]
theorem ltP_eq {a b c d : Int} (h : ltP a b c d = false) (k : ltP c d a b = false) : a = c ∧ b = d := by
  simp only [ltP, decide_eq_false_iff_not] at h k; omega
theorem M.ext_of {a b : M} (h0 : a.kd = b.kd) (h1 : a.id = b.id) (h2 : a.al = b.al) (h3 : a.nm = b.nm) (h4 : a.pr = b.pr) (h5 : a.od = b.od) (h6 : a.sg = b.sg) (h7 : a.so = b.so) (h8 : a.eg = b.eg) (h9 : a.eo = b.eo) (h10 : a.sm = b.sm) (h11 : a.cd = b.cd) (h12 : a.rs = b.rs) (h13 : a.n = b.n) (h14 : a.ve = b.ve) (h15 : a.vs = b.vs) : a = b := by
  cases a; cases b; simp only at h0 h1 h2 h3 h4 h5 h6 h7 h8 h9 h10 h11 h12 h13 h14 h15; subst h0 h1 h2 h3 h4 h5 h6 h7 h8 h9 h10 h11 h12 h13 h14 h15; rfl
set_option maxHeartbeats 4000000 in
set_option maxRecDepth 100000 in
theorem rsame_all (a b : M) (nv rv vv nv' rv' vv' : Value) (w : World) (hA : MV w a nv rv vv) (hB : MV w b nv' rv' vv') (ha : a.Ok) (hb : b.Ok) (R : Bool) (hR : R = true ↔ a = b) :
    Calls Tryd.prog 14 #[.agg (a.cells nv rv vv), .agg (b.cells nv' rv' vv')] w fun e w' => e = .returned (.bool R) ∧ Below w.heap.size w w' := by
  obtain ⟨nA1, nc1, rfl⟩ := hA.nm.form
  obtain ⟨rA1, rc1, rfl⟩ := hA.rs.form
  obtain ⟨vA1, vc1, rfl⟩ := hA.vs.form
  obtain ⟨nA2, nc2, rfl⟩ := hB.nm.form
  obtain ⟨rA2, rc2, rfl⟩ := hB.rs.form
  obtain ⟨vA2, vc2, rfl⟩ := hB.vs.form
  have hO := (Blk.new w 28 #[.int .u64 a.kd, .int .u64 a.id, .int .u64 a.al, .slice nA1 a.nm.length nc1, .int .u8 a.pr, .int .u8 a.od, .int .u64 a.sg, .int .u64 a.so, .int .u64 a.eg, .int .u64 a.eo, .bool a.sm, .int .u64 a.cd, .slice rA1 a.rs.length rc1, .int .u64 a.n, .int .u64 a.ve, .slice vA1 a.vs.length vc1]).alloc (.cells #[.int .u64 b.kd, .int .u64 b.id, .int .u64 b.al, .slice nA2 b.nm.length nc2, .int .u8 b.pr, .int .u8 b.od, .int .u64 b.sg, .int .u64 b.so, .int .u64 b.eg, .int .u64 b.eo, .bool b.sm, .int .u64 b.cd, .slice rA2 b.rs.length rc2, .int .u64 b.n, .int .u64 b.ve, .slice vA2 b.vs.length vc2] 28)
  have hP := Blk.new (w.alloc (.cells #[.int .u64 a.kd, .int .u64 a.id, .int .u64 a.al, .slice nA1 a.nm.length nc1, .int .u8 a.pr, .int .u8 a.od, .int .u64 a.sg, .int .u64 a.so, .int .u64 a.eg, .int .u64 a.eo, .bool a.sm, .int .u64 a.cd, .slice rA1 a.rs.length rc1, .int .u64 a.n, .int .u64 a.ve, .slice vA1 a.vs.length vc1] 28)) 28 #[.int .u64 b.kd, .int .u64 b.id, .int .u64 b.al, .slice nA2 b.nm.length nc2, .int .u8 b.pr, .int .u8 b.od, .int .u64 b.sg, .int .u64 b.so, .int .u64 b.eg, .int .u64 b.eo, .bool b.sm, .int .u64 b.cd, .slice rA2 b.rs.length rc2, .int .u64 b.n, .int .u64 b.ve, .slice vA2 b.vs.length vc2]
  rw [show (w.alloc (.cells #[.int .u64 a.kd, .int .u64 a.id, .int .u64 a.al, .slice nA1 a.nm.length nc1, .int .u8 a.pr, .int .u8 a.od, .int .u64 a.sg, .int .u64 a.so, .int .u64 a.eg, .int .u64 a.eo, .bool a.sm, .int .u64 a.cd, .slice rA1 a.rs.length rc1, .int .u64 a.n, .int .u64 a.ve, .slice vA1 a.vs.length vc1] 28)).heap.size = w.heap.size + 1 by simp] at hP
  have hb0 : Below w.heap.size w ((w.alloc (.cells #[.int .u64 a.kd, .int .u64 a.id, .int .u64 a.al, .slice nA1 a.nm.length nc1, .int .u8 a.pr, .int .u8 a.od, .int .u64 a.sg, .int .u64 a.so, .int .u64 a.eg, .int .u64 a.eo, .bool a.sm, .int .u64 a.cd, .slice rA1 a.rs.length rc1, .int .u64 a.n, .int .u64 a.ve, .slice vA1 a.vs.length vc1] 28)).alloc (.cells #[.int .u64 b.kd, .int .u64 b.id, .int .u64 b.al, .slice nA2 b.nm.length nc2, .int .u8 b.pr, .int .u8 b.od, .int .u64 b.sg, .int .u64 b.so, .int .u64 b.eg, .int .u64 b.eo, .bool b.sm, .int .u64 b.cd, .slice rA2 b.rs.length rc2, .int .u64 b.n, .int .u64 b.ve, .slice vA2 b.vs.length vc2] 28)) := ((Below.refl w.heap.size w).alloc (Nat.le_refl _) _).alloc (by simp) _
  have hA0 := hA.below hb0
  have hB0 := hB.below hb0
  have hlen63 : a.vs.length ≤ 9223372036854775807 := by have := hA.vs.rdv.2.2; unfold maxLen at this; omega
  have HR := Lib.hid hR
  clear hR
  have ca0 : World.cell? ((w.alloc (.cells #[.int .u64 a.kd, .int .u64 a.id, .int .u64 a.al, .slice nA1 a.nm.length nc1, .int .u8 a.pr, .int .u8 a.od, .int .u64 a.sg, .int .u64 a.so, .int .u64 a.eg, .int .u64 a.eo, .bool a.sm, .int .u64 a.cd, .slice rA1 a.rs.length rc1, .int .u64 a.n, .int .u64 a.ve, .slice vA1 a.vs.length vc1] 28)).alloc (.cells #[.int .u64 b.kd, .int .u64 b.id, .int .u64 b.al, .slice nA2 b.nm.length nc2, .int .u8 b.pr, .int .u8 b.od, .int .u64 b.sg, .int .u64 b.so, .int .u64 b.eg, .int .u64 b.eo, .bool b.sm, .int .u64 b.cd, .slice rA2 b.rs.length rc2, .int .u64 b.n, .int .u64 b.ve, .slice vA2 b.vs.length vc2] 28)) ⟨w.heap.size, 0, none⟩ = some (.int .u64 a.kd) := hO.cell 0
  have cb0 : World.cell? ((w.alloc (.cells #[.int .u64 a.kd, .int .u64 a.id, .int .u64 a.al, .slice nA1 a.nm.length nc1, .int .u8 a.pr, .int .u8 a.od, .int .u64 a.sg, .int .u64 a.so, .int .u64 a.eg, .int .u64 a.eo, .bool a.sm, .int .u64 a.cd, .slice rA1 a.rs.length rc1, .int .u64 a.n, .int .u64 a.ve, .slice vA1 a.vs.length vc1] 28)).alloc (.cells #[.int .u64 b.kd, .int .u64 b.id, .int .u64 b.al, .slice nA2 b.nm.length nc2, .int .u8 b.pr, .int .u8 b.od, .int .u64 b.sg, .int .u64 b.so, .int .u64 b.eg, .int .u64 b.eo, .bool b.sm, .int .u64 b.cd, .slice rA2 b.rs.length rc2, .int .u64 b.n, .int .u64 b.ve, .slice vA2 b.vs.length vc2] 28)) ⟨w.heap.size + 1, 0, none⟩ = some (.int .u64 b.kd) := hP.cell 0
  have ca1 : World.cell? ((w.alloc (.cells #[.int .u64 a.kd, .int .u64 a.id, .int .u64 a.al, .slice nA1 a.nm.length nc1, .int .u8 a.pr, .int .u8 a.od, .int .u64 a.sg, .int .u64 a.so, .int .u64 a.eg, .int .u64 a.eo, .bool a.sm, .int .u64 a.cd, .slice rA1 a.rs.length rc1, .int .u64 a.n, .int .u64 a.ve, .slice vA1 a.vs.length vc1] 28)).alloc (.cells #[.int .u64 b.kd, .int .u64 b.id, .int .u64 b.al, .slice nA2 b.nm.length nc2, .int .u8 b.pr, .int .u8 b.od, .int .u64 b.sg, .int .u64 b.so, .int .u64 b.eg, .int .u64 b.eo, .bool b.sm, .int .u64 b.cd, .slice rA2 b.rs.length rc2, .int .u64 b.n, .int .u64 b.ve, .slice vA2 b.vs.length vc2] 28)) ⟨w.heap.size, 1, none⟩ = some (.int .u64 a.id) := hO.cell 1
  have cb1 : World.cell? ((w.alloc (.cells #[.int .u64 a.kd, .int .u64 a.id, .int .u64 a.al, .slice nA1 a.nm.length nc1, .int .u8 a.pr, .int .u8 a.od, .int .u64 a.sg, .int .u64 a.so, .int .u64 a.eg, .int .u64 a.eo, .bool a.sm, .int .u64 a.cd, .slice rA1 a.rs.length rc1, .int .u64 a.n, .int .u64 a.ve, .slice vA1 a.vs.length vc1] 28)).alloc (.cells #[.int .u64 b.kd, .int .u64 b.id, .int .u64 b.al, .slice nA2 b.nm.length nc2, .int .u8 b.pr, .int .u8 b.od, .int .u64 b.sg, .int .u64 b.so, .int .u64 b.eg, .int .u64 b.eo, .bool b.sm, .int .u64 b.cd, .slice rA2 b.rs.length rc2, .int .u64 b.n, .int .u64 b.ve, .slice vA2 b.vs.length vc2] 28)) ⟨w.heap.size + 1, 1, none⟩ = some (.int .u64 b.id) := hP.cell 1
  have ca2 : World.cell? ((w.alloc (.cells #[.int .u64 a.kd, .int .u64 a.id, .int .u64 a.al, .slice nA1 a.nm.length nc1, .int .u8 a.pr, .int .u8 a.od, .int .u64 a.sg, .int .u64 a.so, .int .u64 a.eg, .int .u64 a.eo, .bool a.sm, .int .u64 a.cd, .slice rA1 a.rs.length rc1, .int .u64 a.n, .int .u64 a.ve, .slice vA1 a.vs.length vc1] 28)).alloc (.cells #[.int .u64 b.kd, .int .u64 b.id, .int .u64 b.al, .slice nA2 b.nm.length nc2, .int .u8 b.pr, .int .u8 b.od, .int .u64 b.sg, .int .u64 b.so, .int .u64 b.eg, .int .u64 b.eo, .bool b.sm, .int .u64 b.cd, .slice rA2 b.rs.length rc2, .int .u64 b.n, .int .u64 b.ve, .slice vA2 b.vs.length vc2] 28)) ⟨w.heap.size, 2, none⟩ = some (.int .u64 a.al) := hO.cell 2
  have cb2 : World.cell? ((w.alloc (.cells #[.int .u64 a.kd, .int .u64 a.id, .int .u64 a.al, .slice nA1 a.nm.length nc1, .int .u8 a.pr, .int .u8 a.od, .int .u64 a.sg, .int .u64 a.so, .int .u64 a.eg, .int .u64 a.eo, .bool a.sm, .int .u64 a.cd, .slice rA1 a.rs.length rc1, .int .u64 a.n, .int .u64 a.ve, .slice vA1 a.vs.length vc1] 28)).alloc (.cells #[.int .u64 b.kd, .int .u64 b.id, .int .u64 b.al, .slice nA2 b.nm.length nc2, .int .u8 b.pr, .int .u8 b.od, .int .u64 b.sg, .int .u64 b.so, .int .u64 b.eg, .int .u64 b.eo, .bool b.sm, .int .u64 b.cd, .slice rA2 b.rs.length rc2, .int .u64 b.n, .int .u64 b.ve, .slice vA2 b.vs.length vc2] 28)) ⟨w.heap.size + 1, 2, none⟩ = some (.int .u64 b.al) := hP.cell 2
  have ca3 : World.cell? ((w.alloc (.cells #[.int .u64 a.kd, .int .u64 a.id, .int .u64 a.al, .slice nA1 a.nm.length nc1, .int .u8 a.pr, .int .u8 a.od, .int .u64 a.sg, .int .u64 a.so, .int .u64 a.eg, .int .u64 a.eo, .bool a.sm, .int .u64 a.cd, .slice rA1 a.rs.length rc1, .int .u64 a.n, .int .u64 a.ve, .slice vA1 a.vs.length vc1] 28)).alloc (.cells #[.int .u64 b.kd, .int .u64 b.id, .int .u64 b.al, .slice nA2 b.nm.length nc2, .int .u8 b.pr, .int .u8 b.od, .int .u64 b.sg, .int .u64 b.so, .int .u64 b.eg, .int .u64 b.eo, .bool b.sm, .int .u64 b.cd, .slice rA2 b.rs.length rc2, .int .u64 b.n, .int .u64 b.ve, .slice vA2 b.vs.length vc2] 28)) ⟨w.heap.size, 3, none⟩ = some (.slice nA1 a.nm.length nc1) := hO.cell 3
  have cb3 : World.cell? ((w.alloc (.cells #[.int .u64 a.kd, .int .u64 a.id, .int .u64 a.al, .slice nA1 a.nm.length nc1, .int .u8 a.pr, .int .u8 a.od, .int .u64 a.sg, .int .u64 a.so, .int .u64 a.eg, .int .u64 a.eo, .bool a.sm, .int .u64 a.cd, .slice rA1 a.rs.length rc1, .int .u64 a.n, .int .u64 a.ve, .slice vA1 a.vs.length vc1] 28)).alloc (.cells #[.int .u64 b.kd, .int .u64 b.id, .int .u64 b.al, .slice nA2 b.nm.length nc2, .int .u8 b.pr, .int .u8 b.od, .int .u64 b.sg, .int .u64 b.so, .int .u64 b.eg, .int .u64 b.eo, .bool b.sm, .int .u64 b.cd, .slice rA2 b.rs.length rc2, .int .u64 b.n, .int .u64 b.ve, .slice vA2 b.vs.length vc2] 28)) ⟨w.heap.size + 1, 3, none⟩ = some (.slice nA2 b.nm.length nc2) := hP.cell 3
  have ca4 : World.cell? ((w.alloc (.cells #[.int .u64 a.kd, .int .u64 a.id, .int .u64 a.al, .slice nA1 a.nm.length nc1, .int .u8 a.pr, .int .u8 a.od, .int .u64 a.sg, .int .u64 a.so, .int .u64 a.eg, .int .u64 a.eo, .bool a.sm, .int .u64 a.cd, .slice rA1 a.rs.length rc1, .int .u64 a.n, .int .u64 a.ve, .slice vA1 a.vs.length vc1] 28)).alloc (.cells #[.int .u64 b.kd, .int .u64 b.id, .int .u64 b.al, .slice nA2 b.nm.length nc2, .int .u8 b.pr, .int .u8 b.od, .int .u64 b.sg, .int .u64 b.so, .int .u64 b.eg, .int .u64 b.eo, .bool b.sm, .int .u64 b.cd, .slice rA2 b.rs.length rc2, .int .u64 b.n, .int .u64 b.ve, .slice vA2 b.vs.length vc2] 28)) ⟨w.heap.size, 4, none⟩ = some (.int .u8 a.pr) := hO.cell 4
  have cb4 : World.cell? ((w.alloc (.cells #[.int .u64 a.kd, .int .u64 a.id, .int .u64 a.al, .slice nA1 a.nm.length nc1, .int .u8 a.pr, .int .u8 a.od, .int .u64 a.sg, .int .u64 a.so, .int .u64 a.eg, .int .u64 a.eo, .bool a.sm, .int .u64 a.cd, .slice rA1 a.rs.length rc1, .int .u64 a.n, .int .u64 a.ve, .slice vA1 a.vs.length vc1] 28)).alloc (.cells #[.int .u64 b.kd, .int .u64 b.id, .int .u64 b.al, .slice nA2 b.nm.length nc2, .int .u8 b.pr, .int .u8 b.od, .int .u64 b.sg, .int .u64 b.so, .int .u64 b.eg, .int .u64 b.eo, .bool b.sm, .int .u64 b.cd, .slice rA2 b.rs.length rc2, .int .u64 b.n, .int .u64 b.ve, .slice vA2 b.vs.length vc2] 28)) ⟨w.heap.size + 1, 4, none⟩ = some (.int .u8 b.pr) := hP.cell 4
  have ca5 : World.cell? ((w.alloc (.cells #[.int .u64 a.kd, .int .u64 a.id, .int .u64 a.al, .slice nA1 a.nm.length nc1, .int .u8 a.pr, .int .u8 a.od, .int .u64 a.sg, .int .u64 a.so, .int .u64 a.eg, .int .u64 a.eo, .bool a.sm, .int .u64 a.cd, .slice rA1 a.rs.length rc1, .int .u64 a.n, .int .u64 a.ve, .slice vA1 a.vs.length vc1] 28)).alloc (.cells #[.int .u64 b.kd, .int .u64 b.id, .int .u64 b.al, .slice nA2 b.nm.length nc2, .int .u8 b.pr, .int .u8 b.od, .int .u64 b.sg, .int .u64 b.so, .int .u64 b.eg, .int .u64 b.eo, .bool b.sm, .int .u64 b.cd, .slice rA2 b.rs.length rc2, .int .u64 b.n, .int .u64 b.ve, .slice vA2 b.vs.length vc2] 28)) ⟨w.heap.size, 5, none⟩ = some (.int .u8 a.od) := hO.cell 5
  have cb5 : World.cell? ((w.alloc (.cells #[.int .u64 a.kd, .int .u64 a.id, .int .u64 a.al, .slice nA1 a.nm.length nc1, .int .u8 a.pr, .int .u8 a.od, .int .u64 a.sg, .int .u64 a.so, .int .u64 a.eg, .int .u64 a.eo, .bool a.sm, .int .u64 a.cd, .slice rA1 a.rs.length rc1, .int .u64 a.n, .int .u64 a.ve, .slice vA1 a.vs.length vc1] 28)).alloc (.cells #[.int .u64 b.kd, .int .u64 b.id, .int .u64 b.al, .slice nA2 b.nm.length nc2, .int .u8 b.pr, .int .u8 b.od, .int .u64 b.sg, .int .u64 b.so, .int .u64 b.eg, .int .u64 b.eo, .bool b.sm, .int .u64 b.cd, .slice rA2 b.rs.length rc2, .int .u64 b.n, .int .u64 b.ve, .slice vA2 b.vs.length vc2] 28)) ⟨w.heap.size + 1, 5, none⟩ = some (.int .u8 b.od) := hP.cell 5
  have ca6 : World.cell? ((w.alloc (.cells #[.int .u64 a.kd, .int .u64 a.id, .int .u64 a.al, .slice nA1 a.nm.length nc1, .int .u8 a.pr, .int .u8 a.od, .int .u64 a.sg, .int .u64 a.so, .int .u64 a.eg, .int .u64 a.eo, .bool a.sm, .int .u64 a.cd, .slice rA1 a.rs.length rc1, .int .u64 a.n, .int .u64 a.ve, .slice vA1 a.vs.length vc1] 28)).alloc (.cells #[.int .u64 b.kd, .int .u64 b.id, .int .u64 b.al, .slice nA2 b.nm.length nc2, .int .u8 b.pr, .int .u8 b.od, .int .u64 b.sg, .int .u64 b.so, .int .u64 b.eg, .int .u64 b.eo, .bool b.sm, .int .u64 b.cd, .slice rA2 b.rs.length rc2, .int .u64 b.n, .int .u64 b.ve, .slice vA2 b.vs.length vc2] 28)) ⟨w.heap.size, 6, none⟩ = some (.int .u64 a.sg) := hO.cell 6
  have cb6 : World.cell? ((w.alloc (.cells #[.int .u64 a.kd, .int .u64 a.id, .int .u64 a.al, .slice nA1 a.nm.length nc1, .int .u8 a.pr, .int .u8 a.od, .int .u64 a.sg, .int .u64 a.so, .int .u64 a.eg, .int .u64 a.eo, .bool a.sm, .int .u64 a.cd, .slice rA1 a.rs.length rc1, .int .u64 a.n, .int .u64 a.ve, .slice vA1 a.vs.length vc1] 28)).alloc (.cells #[.int .u64 b.kd, .int .u64 b.id, .int .u64 b.al, .slice nA2 b.nm.length nc2, .int .u8 b.pr, .int .u8 b.od, .int .u64 b.sg, .int .u64 b.so, .int .u64 b.eg, .int .u64 b.eo, .bool b.sm, .int .u64 b.cd, .slice rA2 b.rs.length rc2, .int .u64 b.n, .int .u64 b.ve, .slice vA2 b.vs.length vc2] 28)) ⟨w.heap.size + 1, 6, none⟩ = some (.int .u64 b.sg) := hP.cell 6
  have ca7 : World.cell? ((w.alloc (.cells #[.int .u64 a.kd, .int .u64 a.id, .int .u64 a.al, .slice nA1 a.nm.length nc1, .int .u8 a.pr, .int .u8 a.od, .int .u64 a.sg, .int .u64 a.so, .int .u64 a.eg, .int .u64 a.eo, .bool a.sm, .int .u64 a.cd, .slice rA1 a.rs.length rc1, .int .u64 a.n, .int .u64 a.ve, .slice vA1 a.vs.length vc1] 28)).alloc (.cells #[.int .u64 b.kd, .int .u64 b.id, .int .u64 b.al, .slice nA2 b.nm.length nc2, .int .u8 b.pr, .int .u8 b.od, .int .u64 b.sg, .int .u64 b.so, .int .u64 b.eg, .int .u64 b.eo, .bool b.sm, .int .u64 b.cd, .slice rA2 b.rs.length rc2, .int .u64 b.n, .int .u64 b.ve, .slice vA2 b.vs.length vc2] 28)) ⟨w.heap.size, 7, none⟩ = some (.int .u64 a.so) := hO.cell 7
  have cb7 : World.cell? ((w.alloc (.cells #[.int .u64 a.kd, .int .u64 a.id, .int .u64 a.al, .slice nA1 a.nm.length nc1, .int .u8 a.pr, .int .u8 a.od, .int .u64 a.sg, .int .u64 a.so, .int .u64 a.eg, .int .u64 a.eo, .bool a.sm, .int .u64 a.cd, .slice rA1 a.rs.length rc1, .int .u64 a.n, .int .u64 a.ve, .slice vA1 a.vs.length vc1] 28)).alloc (.cells #[.int .u64 b.kd, .int .u64 b.id, .int .u64 b.al, .slice nA2 b.nm.length nc2, .int .u8 b.pr, .int .u8 b.od, .int .u64 b.sg, .int .u64 b.so, .int .u64 b.eg, .int .u64 b.eo, .bool b.sm, .int .u64 b.cd, .slice rA2 b.rs.length rc2, .int .u64 b.n, .int .u64 b.ve, .slice vA2 b.vs.length vc2] 28)) ⟨w.heap.size + 1, 7, none⟩ = some (.int .u64 b.so) := hP.cell 7
  have ca8 : World.cell? ((w.alloc (.cells #[.int .u64 a.kd, .int .u64 a.id, .int .u64 a.al, .slice nA1 a.nm.length nc1, .int .u8 a.pr, .int .u8 a.od, .int .u64 a.sg, .int .u64 a.so, .int .u64 a.eg, .int .u64 a.eo, .bool a.sm, .int .u64 a.cd, .slice rA1 a.rs.length rc1, .int .u64 a.n, .int .u64 a.ve, .slice vA1 a.vs.length vc1] 28)).alloc (.cells #[.int .u64 b.kd, .int .u64 b.id, .int .u64 b.al, .slice nA2 b.nm.length nc2, .int .u8 b.pr, .int .u8 b.od, .int .u64 b.sg, .int .u64 b.so, .int .u64 b.eg, .int .u64 b.eo, .bool b.sm, .int .u64 b.cd, .slice rA2 b.rs.length rc2, .int .u64 b.n, .int .u64 b.ve, .slice vA2 b.vs.length vc2] 28)) ⟨w.heap.size, 8, none⟩ = some (.int .u64 a.eg) := hO.cell 8
  have cb8 : World.cell? ((w.alloc (.cells #[.int .u64 a.kd, .int .u64 a.id, .int .u64 a.al, .slice nA1 a.nm.length nc1, .int .u8 a.pr, .int .u8 a.od, .int .u64 a.sg, .int .u64 a.so, .int .u64 a.eg, .int .u64 a.eo, .bool a.sm, .int .u64 a.cd, .slice rA1 a.rs.length rc1, .int .u64 a.n, .int .u64 a.ve, .slice vA1 a.vs.length vc1] 28)).alloc (.cells #[.int .u64 b.kd, .int .u64 b.id, .int .u64 b.al, .slice nA2 b.nm.length nc2, .int .u8 b.pr, .int .u8 b.od, .int .u64 b.sg, .int .u64 b.so, .int .u64 b.eg, .int .u64 b.eo, .bool b.sm, .int .u64 b.cd, .slice rA2 b.rs.length rc2, .int .u64 b.n, .int .u64 b.ve, .slice vA2 b.vs.length vc2] 28)) ⟨w.heap.size + 1, 8, none⟩ = some (.int .u64 b.eg) := hP.cell 8
  have ca9 : World.cell? ((w.alloc (.cells #[.int .u64 a.kd, .int .u64 a.id, .int .u64 a.al, .slice nA1 a.nm.length nc1, .int .u8 a.pr, .int .u8 a.od, .int .u64 a.sg, .int .u64 a.so, .int .u64 a.eg, .int .u64 a.eo, .bool a.sm, .int .u64 a.cd, .slice rA1 a.rs.length rc1, .int .u64 a.n, .int .u64 a.ve, .slice vA1 a.vs.length vc1] 28)).alloc (.cells #[.int .u64 b.kd, .int .u64 b.id, .int .u64 b.al, .slice nA2 b.nm.length nc2, .int .u8 b.pr, .int .u8 b.od, .int .u64 b.sg, .int .u64 b.so, .int .u64 b.eg, .int .u64 b.eo, .bool b.sm, .int .u64 b.cd, .slice rA2 b.rs.length rc2, .int .u64 b.n, .int .u64 b.ve, .slice vA2 b.vs.length vc2] 28)) ⟨w.heap.size, 9, none⟩ = some (.int .u64 a.eo) := hO.cell 9
  have cb9 : World.cell? ((w.alloc (.cells #[.int .u64 a.kd, .int .u64 a.id, .int .u64 a.al, .slice nA1 a.nm.length nc1, .int .u8 a.pr, .int .u8 a.od, .int .u64 a.sg, .int .u64 a.so, .int .u64 a.eg, .int .u64 a.eo, .bool a.sm, .int .u64 a.cd, .slice rA1 a.rs.length rc1, .int .u64 a.n, .int .u64 a.ve, .slice vA1 a.vs.length vc1] 28)).alloc (.cells #[.int .u64 b.kd, .int .u64 b.id, .int .u64 b.al, .slice nA2 b.nm.length nc2, .int .u8 b.pr, .int .u8 b.od, .int .u64 b.sg, .int .u64 b.so, .int .u64 b.eg, .int .u64 b.eo, .bool b.sm, .int .u64 b.cd, .slice rA2 b.rs.length rc2, .int .u64 b.n, .int .u64 b.ve, .slice vA2 b.vs.length vc2] 28)) ⟨w.heap.size + 1, 9, none⟩ = some (.int .u64 b.eo) := hP.cell 9
  have ca10 : World.cell? ((w.alloc (.cells #[.int .u64 a.kd, .int .u64 a.id, .int .u64 a.al, .slice nA1 a.nm.length nc1, .int .u8 a.pr, .int .u8 a.od, .int .u64 a.sg, .int .u64 a.so, .int .u64 a.eg, .int .u64 a.eo, .bool a.sm, .int .u64 a.cd, .slice rA1 a.rs.length rc1, .int .u64 a.n, .int .u64 a.ve, .slice vA1 a.vs.length vc1] 28)).alloc (.cells #[.int .u64 b.kd, .int .u64 b.id, .int .u64 b.al, .slice nA2 b.nm.length nc2, .int .u8 b.pr, .int .u8 b.od, .int .u64 b.sg, .int .u64 b.so, .int .u64 b.eg, .int .u64 b.eo, .bool b.sm, .int .u64 b.cd, .slice rA2 b.rs.length rc2, .int .u64 b.n, .int .u64 b.ve, .slice vA2 b.vs.length vc2] 28)) ⟨w.heap.size, 10, none⟩ = some (.bool a.sm) := hO.cell 10
  have cb10 : World.cell? ((w.alloc (.cells #[.int .u64 a.kd, .int .u64 a.id, .int .u64 a.al, .slice nA1 a.nm.length nc1, .int .u8 a.pr, .int .u8 a.od, .int .u64 a.sg, .int .u64 a.so, .int .u64 a.eg, .int .u64 a.eo, .bool a.sm, .int .u64 a.cd, .slice rA1 a.rs.length rc1, .int .u64 a.n, .int .u64 a.ve, .slice vA1 a.vs.length vc1] 28)).alloc (.cells #[.int .u64 b.kd, .int .u64 b.id, .int .u64 b.al, .slice nA2 b.nm.length nc2, .int .u8 b.pr, .int .u8 b.od, .int .u64 b.sg, .int .u64 b.so, .int .u64 b.eg, .int .u64 b.eo, .bool b.sm, .int .u64 b.cd, .slice rA2 b.rs.length rc2, .int .u64 b.n, .int .u64 b.ve, .slice vA2 b.vs.length vc2] 28)) ⟨w.heap.size + 1, 10, none⟩ = some (.bool b.sm) := hP.cell 10
  have ca11 : World.cell? ((w.alloc (.cells #[.int .u64 a.kd, .int .u64 a.id, .int .u64 a.al, .slice nA1 a.nm.length nc1, .int .u8 a.pr, .int .u8 a.od, .int .u64 a.sg, .int .u64 a.so, .int .u64 a.eg, .int .u64 a.eo, .bool a.sm, .int .u64 a.cd, .slice rA1 a.rs.length rc1, .int .u64 a.n, .int .u64 a.ve, .slice vA1 a.vs.length vc1] 28)).alloc (.cells #[.int .u64 b.kd, .int .u64 b.id, .int .u64 b.al, .slice nA2 b.nm.length nc2, .int .u8 b.pr, .int .u8 b.od, .int .u64 b.sg, .int .u64 b.so, .int .u64 b.eg, .int .u64 b.eo, .bool b.sm, .int .u64 b.cd, .slice rA2 b.rs.length rc2, .int .u64 b.n, .int .u64 b.ve, .slice vA2 b.vs.length vc2] 28)) ⟨w.heap.size, 11, none⟩ = some (.int .u64 a.cd) := hO.cell 11
  have cb11 : World.cell? ((w.alloc (.cells #[.int .u64 a.kd, .int .u64 a.id, .int .u64 a.al, .slice nA1 a.nm.length nc1, .int .u8 a.pr, .int .u8 a.od, .int .u64 a.sg, .int .u64 a.so, .int .u64 a.eg, .int .u64 a.eo, .bool a.sm, .int .u64 a.cd, .slice rA1 a.rs.length rc1, .int .u64 a.n, .int .u64 a.ve, .slice vA1 a.vs.length vc1] 28)).alloc (.cells #[.int .u64 b.kd, .int .u64 b.id, .int .u64 b.al, .slice nA2 b.nm.length nc2, .int .u8 b.pr, .int .u8 b.od, .int .u64 b.sg, .int .u64 b.so, .int .u64 b.eg, .int .u64 b.eo, .bool b.sm, .int .u64 b.cd, .slice rA2 b.rs.length rc2, .int .u64 b.n, .int .u64 b.ve, .slice vA2 b.vs.length vc2] 28)) ⟨w.heap.size + 1, 11, none⟩ = some (.int .u64 b.cd) := hP.cell 11
  have ca12 : World.cell? ((w.alloc (.cells #[.int .u64 a.kd, .int .u64 a.id, .int .u64 a.al, .slice nA1 a.nm.length nc1, .int .u8 a.pr, .int .u8 a.od, .int .u64 a.sg, .int .u64 a.so, .int .u64 a.eg, .int .u64 a.eo, .bool a.sm, .int .u64 a.cd, .slice rA1 a.rs.length rc1, .int .u64 a.n, .int .u64 a.ve, .slice vA1 a.vs.length vc1] 28)).alloc (.cells #[.int .u64 b.kd, .int .u64 b.id, .int .u64 b.al, .slice nA2 b.nm.length nc2, .int .u8 b.pr, .int .u8 b.od, .int .u64 b.sg, .int .u64 b.so, .int .u64 b.eg, .int .u64 b.eo, .bool b.sm, .int .u64 b.cd, .slice rA2 b.rs.length rc2, .int .u64 b.n, .int .u64 b.ve, .slice vA2 b.vs.length vc2] 28)) ⟨w.heap.size, 12, none⟩ = some (.slice rA1 a.rs.length rc1) := hO.cell 12
  have cb12 : World.cell? ((w.alloc (.cells #[.int .u64 a.kd, .int .u64 a.id, .int .u64 a.al, .slice nA1 a.nm.length nc1, .int .u8 a.pr, .int .u8 a.od, .int .u64 a.sg, .int .u64 a.so, .int .u64 a.eg, .int .u64 a.eo, .bool a.sm, .int .u64 a.cd, .slice rA1 a.rs.length rc1, .int .u64 a.n, .int .u64 a.ve, .slice vA1 a.vs.length vc1] 28)).alloc (.cells #[.int .u64 b.kd, .int .u64 b.id, .int .u64 b.al, .slice nA2 b.nm.length nc2, .int .u8 b.pr, .int .u8 b.od, .int .u64 b.sg, .int .u64 b.so, .int .u64 b.eg, .int .u64 b.eo, .bool b.sm, .int .u64 b.cd, .slice rA2 b.rs.length rc2, .int .u64 b.n, .int .u64 b.ve, .slice vA2 b.vs.length vc2] 28)) ⟨w.heap.size + 1, 12, none⟩ = some (.slice rA2 b.rs.length rc2) := hP.cell 12
  have ca13 : World.cell? ((w.alloc (.cells #[.int .u64 a.kd, .int .u64 a.id, .int .u64 a.al, .slice nA1 a.nm.length nc1, .int .u8 a.pr, .int .u8 a.od, .int .u64 a.sg, .int .u64 a.so, .int .u64 a.eg, .int .u64 a.eo, .bool a.sm, .int .u64 a.cd, .slice rA1 a.rs.length rc1, .int .u64 a.n, .int .u64 a.ve, .slice vA1 a.vs.length vc1] 28)).alloc (.cells #[.int .u64 b.kd, .int .u64 b.id, .int .u64 b.al, .slice nA2 b.nm.length nc2, .int .u8 b.pr, .int .u8 b.od, .int .u64 b.sg, .int .u64 b.so, .int .u64 b.eg, .int .u64 b.eo, .bool b.sm, .int .u64 b.cd, .slice rA2 b.rs.length rc2, .int .u64 b.n, .int .u64 b.ve, .slice vA2 b.vs.length vc2] 28)) ⟨w.heap.size, 13, none⟩ = some (.int .u64 a.n) := hO.cell 13
  have cb13 : World.cell? ((w.alloc (.cells #[.int .u64 a.kd, .int .u64 a.id, .int .u64 a.al, .slice nA1 a.nm.length nc1, .int .u8 a.pr, .int .u8 a.od, .int .u64 a.sg, .int .u64 a.so, .int .u64 a.eg, .int .u64 a.eo, .bool a.sm, .int .u64 a.cd, .slice rA1 a.rs.length rc1, .int .u64 a.n, .int .u64 a.ve, .slice vA1 a.vs.length vc1] 28)).alloc (.cells #[.int .u64 b.kd, .int .u64 b.id, .int .u64 b.al, .slice nA2 b.nm.length nc2, .int .u8 b.pr, .int .u8 b.od, .int .u64 b.sg, .int .u64 b.so, .int .u64 b.eg, .int .u64 b.eo, .bool b.sm, .int .u64 b.cd, .slice rA2 b.rs.length rc2, .int .u64 b.n, .int .u64 b.ve, .slice vA2 b.vs.length vc2] 28)) ⟨w.heap.size + 1, 13, none⟩ = some (.int .u64 b.n) := hP.cell 13
  have ca14 : World.cell? ((w.alloc (.cells #[.int .u64 a.kd, .int .u64 a.id, .int .u64 a.al, .slice nA1 a.nm.length nc1, .int .u8 a.pr, .int .u8 a.od, .int .u64 a.sg, .int .u64 a.so, .int .u64 a.eg, .int .u64 a.eo, .bool a.sm, .int .u64 a.cd, .slice rA1 a.rs.length rc1, .int .u64 a.n, .int .u64 a.ve, .slice vA1 a.vs.length vc1] 28)).alloc (.cells #[.int .u64 b.kd, .int .u64 b.id, .int .u64 b.al, .slice nA2 b.nm.length nc2, .int .u8 b.pr, .int .u8 b.od, .int .u64 b.sg, .int .u64 b.so, .int .u64 b.eg, .int .u64 b.eo, .bool b.sm, .int .u64 b.cd, .slice rA2 b.rs.length rc2, .int .u64 b.n, .int .u64 b.ve, .slice vA2 b.vs.length vc2] 28)) ⟨w.heap.size, 14, none⟩ = some (.int .u64 a.ve) := hO.cell 14
  have cb14 : World.cell? ((w.alloc (.cells #[.int .u64 a.kd, .int .u64 a.id, .int .u64 a.al, .slice nA1 a.nm.length nc1, .int .u8 a.pr, .int .u8 a.od, .int .u64 a.sg, .int .u64 a.so, .int .u64 a.eg, .int .u64 a.eo, .bool a.sm, .int .u64 a.cd, .slice rA1 a.rs.length rc1, .int .u64 a.n, .int .u64 a.ve, .slice vA1 a.vs.length vc1] 28)).alloc (.cells #[.int .u64 b.kd, .int .u64 b.id, .int .u64 b.al, .slice nA2 b.nm.length nc2, .int .u8 b.pr, .int .u8 b.od, .int .u64 b.sg, .int .u64 b.so, .int .u64 b.eg, .int .u64 b.eo, .bool b.sm, .int .u64 b.cd, .slice rA2 b.rs.length rc2, .int .u64 b.n, .int .u64 b.ve, .slice vA2 b.vs.length vc2] 28)) ⟨w.heap.size + 1, 14, none⟩ = some (.int .u64 b.ve) := hP.cell 14
  have ca15 : World.cell? ((w.alloc (.cells #[.int .u64 a.kd, .int .u64 a.id, .int .u64 a.al, .slice nA1 a.nm.length nc1, .int .u8 a.pr, .int .u8 a.od, .int .u64 a.sg, .int .u64 a.so, .int .u64 a.eg, .int .u64 a.eo, .bool a.sm, .int .u64 a.cd, .slice rA1 a.rs.length rc1, .int .u64 a.n, .int .u64 a.ve, .slice vA1 a.vs.length vc1] 28)).alloc (.cells #[.int .u64 b.kd, .int .u64 b.id, .int .u64 b.al, .slice nA2 b.nm.length nc2, .int .u8 b.pr, .int .u8 b.od, .int .u64 b.sg, .int .u64 b.so, .int .u64 b.eg, .int .u64 b.eo, .bool b.sm, .int .u64 b.cd, .slice rA2 b.rs.length rc2, .int .u64 b.n, .int .u64 b.ve, .slice vA2 b.vs.length vc2] 28)) ⟨w.heap.size, 15, none⟩ = some (.slice vA1 a.vs.length vc1) := hO.cell 15
  have cb15 : World.cell? ((w.alloc (.cells #[.int .u64 a.kd, .int .u64 a.id, .int .u64 a.al, .slice nA1 a.nm.length nc1, .int .u8 a.pr, .int .u8 a.od, .int .u64 a.sg, .int .u64 a.so, .int .u64 a.eg, .int .u64 a.eo, .bool a.sm, .int .u64 a.cd, .slice rA1 a.rs.length rc1, .int .u64 a.n, .int .u64 a.ve, .slice vA1 a.vs.length vc1] 28)).alloc (.cells #[.int .u64 b.kd, .int .u64 b.id, .int .u64 b.al, .slice nA2 b.nm.length nc2, .int .u8 b.pr, .int .u8 b.od, .int .u64 b.sg, .int .u64 b.so, .int .u64 b.eg, .int .u64 b.eo, .bool b.sm, .int .u64 b.cd, .slice rA2 b.rs.length rc2, .int .u64 b.n, .int .u64 b.ve, .slice vA2 b.vs.length vc2] 28)) ⟨w.heap.size + 1, 15, none⟩ = some (.slice vA2 b.vs.length vc2) := hP.cell 15
  by_cases hl : a.vs.length = b.vs.length
  · have HL := Lib.hid hl
    have hl2 : ((a.vs.length : Int) == (b.vs.length : Int)) = true := by simp; omega
    clear hl
    go_enter Tryd.func14, Tryd.ntmps14
    go_upto_block 0 with fail
    clear hl2
    refine wp_world (fun wz => Blk wz w.heap.size 28 #[.int .u64 a.kd, .int .u64 a.id, .int .u64 a.al, .slice nA1 a.nm.length nc1, .int .u8 a.pr, .int .u8 a.od, .int .u64 a.sg, .int .u64 a.so, .int .u64 a.eg, .int .u64 a.eo, .bool a.sm, .int .u64 a.cd, .slice rA1 a.rs.length rc1, .int .u64 a.n, .int .u64 a.ve, .slice vA1 a.vs.length vc1] ∧ Blk wz (w.heap.size + 1) 28 #[.int .u64 b.kd, .int .u64 b.id, .int .u64 b.al, .slice nA2 b.nm.length nc2, .int .u8 b.pr, .int .u8 b.od, .int .u64 b.sg, .int .u64 b.so, .int .u64 b.eg, .int .u64 b.eo, .bool b.sm, .int .u64 b.cd, .slice rA2 b.rs.length rc2, .int .u64 b.n, .int .u64 b.ve, .slice vA2 b.vs.length vc2] ∧ MV wz a (.slice nA1 a.nm.length nc1) (.slice rA1 a.rs.length rc1) (.slice vA1 a.vs.length vc1) ∧ MV wz b (.slice nA2 b.nm.length nc2) (.slice rA2 b.rs.length rc2) (.slice vA2 b.vs.length vc2) ∧ Below w.heap.size w wz) ⟨hO, hP, hA0, hB0, hb0⟩ ?_
    clear hO hP hA0 hB0 hb0 ca0 cb0 ca1 cb1 ca2 cb2 ca3 cb3 ca4 cb4 ca5 cb5 ca6 cb6 ca7 cb7 ca8 cb8 ca9 cb9 ca10 cb10 ca11 cb11 ca12 cb12 ca13 cb13 ca14 cb14 ca15 cb15
    rintro w1 ⟨hO1, hP1, hA1, hB1, hb1⟩
    have HO1 := Lib.hid hO1
    have HP1 := Lib.hid hP1
    have HA1 := Lib.hid hA1
    have HB1 := Lib.hid hB1
    clear hO1 hP1 hA1 hB1
    go_wp2_with fail
    go_loopw [16] (fun s16 wr => ∃ k : Nat, k ≤ a.vs.length ∧ s16 = .int .i64 k ∧ a.vs.take k = b.vs.take k ∧ Below w1.heap.size w1 wr) (fun s16 _ => a.vs.length - (intOf s16).toNat)
    case atStart => exact ⟨0, Nat.zero_le _, rfl, rfl, Below.refl _ _⟩
    case round =>
      obtain ⟨k, hk, rfl, htk, hbr⟩ := hrel
      have hOr := HO1.out.same hbr
      have hPr := HP1.out.same hbr
      have hAr := HA1.out.below hbr
      have hBr := HB1.out.below hbr
      have HTK := Lib.hid htk
      clear htk
      have hLL := HL.out
      have HLL := Lib.hid hLL
      by_cases hlt : k < a.vs.length
      · obtain ⟨ga, oa, rfl, _, da⟩ := hAr.vs.at_ k hlt
        obtain ⟨gb, ob, rfl, _, db⟩ := hBr.vs.at_ k (by omega)
        obtain ⟨x, hx⟩ : ∃ x, x = a.vs.getD k 0 := ⟨_, rfl⟩
        obtain ⟨y, hy⟩ : ∃ y, y = b.vs.getD k 0 := ⟨_, rfl⟩
        rw [← hx] at da
        rw [← hy] at db
        have HX := Lib.hid hx
        have HY := Lib.hid hy
        clear hx hy
        have cA : wr.cell? ⟨w.heap.size, 15, none⟩ = some (.slice (some ⟨ga, oa, none⟩) a.vs.length vc1) := hOr.cell 15
        have cB : wr.cell? ⟨w.heap.size + 1, 15, none⟩ = some (.slice (some ⟨gb, ob, none⟩) b.vs.length vc2) := hPr.cell 15
        have hltb : (k : Int) < (b.vs.length : Int) := by omega
        have HLT := Lib.hid hlt
        clear hLL
        go_wp2_with fail
        have Cda := Cls.cells da (World.block_lt_of_cell? _ _ da)
        have Cdb := Cls.cells db (World.block_lt_of_cell? _ _ db)
        have CcA := Cls.cells cA (World.block_lt_of_cell? _ _ cA)
        have CcB := Cls.cells cB (World.block_lt_of_cell? _ _ cB)
        refine wp_region_cls (by kernel_rfl) (by kernel_rfl) ?_
        repeat (go_big_quiet_step (fail))
        refine wpQuiet_nil ?_
        intro w2 hb2
        have da := keepB_cell da w2 hb2
        have db := keepB_cell db w2 hb2
        have cA := keepB_cell cA w2 hb2
        have cB := keepB_cell cB w2 hb2
        clear Cda Cdb CcA CcB
        have hb12 := hbr.trans (hb2.mono hbr.size)
        by_cases hxy : x = y
        · subst hxy
          go_wp2_with fail
          go_roundw
          case rel => exact ⟨k + 1, HLT.out, by go_num, by have hLL := HL.out; have hlt := HLT.out; rw [List.take_succ_eq_append_getElem hlt, List.take_succ_eq_append_getElem (show k < b.vs.length by omega), HTK.out]; have e1 := HX.out; have e2 := HY.out; simp [List.getD, hlt, (show k < b.vs.length by omega)] at e1 e2; rw [← e1, ← e2], hb12⟩
          case measure => have hlt := HLT.out; simp [intOf]; omega
        · have hne : (x == y) = false := by simpa using hxy
          have hf : R = false := by
            cases R with
            | false => rfl
            | true => exact absurd (by rw [HX.out, HY.out, HR.out.1 rfl]) hxy
          subst hf
          go_wp2_with fail
          go_ret
          exact ⟨rfl, hb1.trans (hb12.mono hb1.size)⟩
      · have hvs : a.vs = b.vs := by
          have := HTK.out
          rwa [List.take_of_length_le (by omega), List.take_of_length_le (by omega)] at this
        have HVS := Lib.hid hvs
        clear hvs hLL
        have ca0 : World.cell? wr ⟨w.heap.size, 0, none⟩ = some (.int .u64 a.kd) := hOr.cell 0
        have cb0 : World.cell? wr ⟨w.heap.size + 1, 0, none⟩ = some (.int .u64 b.kd) := hPr.cell 0
        have ca1 : World.cell? wr ⟨w.heap.size, 1, none⟩ = some (.int .u64 a.id) := hOr.cell 1
        have cb1 : World.cell? wr ⟨w.heap.size + 1, 1, none⟩ = some (.int .u64 b.id) := hPr.cell 1
        have ca2 : World.cell? wr ⟨w.heap.size, 2, none⟩ = some (.int .u64 a.al) := hOr.cell 2
        have cb2 : World.cell? wr ⟨w.heap.size + 1, 2, none⟩ = some (.int .u64 b.al) := hPr.cell 2
        have ca3 : World.cell? wr ⟨w.heap.size, 3, none⟩ = some (.slice nA1 a.nm.length nc1) := hOr.cell 3
        have cb3 : World.cell? wr ⟨w.heap.size + 1, 3, none⟩ = some (.slice nA2 b.nm.length nc2) := hPr.cell 3
        have ca4 : World.cell? wr ⟨w.heap.size, 4, none⟩ = some (.int .u8 a.pr) := hOr.cell 4
        have cb4 : World.cell? wr ⟨w.heap.size + 1, 4, none⟩ = some (.int .u8 b.pr) := hPr.cell 4
        have ca5 : World.cell? wr ⟨w.heap.size, 5, none⟩ = some (.int .u8 a.od) := hOr.cell 5
        have cb5 : World.cell? wr ⟨w.heap.size + 1, 5, none⟩ = some (.int .u8 b.od) := hPr.cell 5
        have ca6 : World.cell? wr ⟨w.heap.size, 6, none⟩ = some (.int .u64 a.sg) := hOr.cell 6
        have cb6 : World.cell? wr ⟨w.heap.size + 1, 6, none⟩ = some (.int .u64 b.sg) := hPr.cell 6
        have ca7 : World.cell? wr ⟨w.heap.size, 7, none⟩ = some (.int .u64 a.so) := hOr.cell 7
        have cb7 : World.cell? wr ⟨w.heap.size + 1, 7, none⟩ = some (.int .u64 b.so) := hPr.cell 7
        have ca8 : World.cell? wr ⟨w.heap.size, 8, none⟩ = some (.int .u64 a.eg) := hOr.cell 8
        have cb8 : World.cell? wr ⟨w.heap.size + 1, 8, none⟩ = some (.int .u64 b.eg) := hPr.cell 8
        have ca9 : World.cell? wr ⟨w.heap.size, 9, none⟩ = some (.int .u64 a.eo) := hOr.cell 9
        have cb9 : World.cell? wr ⟨w.heap.size + 1, 9, none⟩ = some (.int .u64 b.eo) := hPr.cell 9
        have ca10 : World.cell? wr ⟨w.heap.size, 10, none⟩ = some (.bool a.sm) := hOr.cell 10
        have cb10 : World.cell? wr ⟨w.heap.size + 1, 10, none⟩ = some (.bool b.sm) := hPr.cell 10
        have ca11 : World.cell? wr ⟨w.heap.size, 11, none⟩ = some (.int .u64 a.cd) := hOr.cell 11
        have cb11 : World.cell? wr ⟨w.heap.size + 1, 11, none⟩ = some (.int .u64 b.cd) := hPr.cell 11
        have ca12 : World.cell? wr ⟨w.heap.size, 12, none⟩ = some (.slice rA1 a.rs.length rc1) := hOr.cell 12
        have cb12 : World.cell? wr ⟨w.heap.size + 1, 12, none⟩ = some (.slice rA2 b.rs.length rc2) := hPr.cell 12
        have ca13 : World.cell? wr ⟨w.heap.size, 13, none⟩ = some (.int .u64 a.n) := hOr.cell 13
        have cb13 : World.cell? wr ⟨w.heap.size + 1, 13, none⟩ = some (.int .u64 b.n) := hPr.cell 13
        have ca14 : World.cell? wr ⟨w.heap.size, 14, none⟩ = some (.int .u64 a.ve) := hOr.cell 14
        have cb14 : World.cell? wr ⟨w.heap.size + 1, 14, none⟩ = some (.int .u64 b.ve) := hPr.cell 14
        have ca15 : World.cell? wr ⟨w.heap.size, 15, none⟩ = some (.slice vA1 a.vs.length vc1) := hOr.cell 15
        have cb15 : World.cell? wr ⟨w.heap.size + 1, 15, none⟩ = some (.slice vA2 b.vs.length vc2) := hPr.cell 15
        have hb1r := hb1.trans (hbr.mono hb1.size)
        by_cases hne : a.kd = b.kd
        · have heq0 : (a.kd == b.kd) = true := by simpa using hne
          have F0 := Lib.hid hne
          clear hne
          by_cases hne : a.id = b.id
          · have heq1 : (a.id == b.id) = true := by simpa using hne
            have F1 := Lib.hid hne
            clear hne
            by_cases hne : a.al = b.al
            · have heq2 : (a.al == b.al) = true := by simpa using hne
              have F2 := Lib.hid hne
              clear hne
              by_cases hne : a.pr = b.pr
              · have heq3 : (a.pr == b.pr) = true := by simpa using hne
                have F3 := Lib.hid hne
                clear hne
                by_cases hne : a.od = b.od
                · have heq4 : (a.od == b.od) = true := by simpa using hne
                  have F4 := Lib.hid hne
                  clear hne
                  by_cases hne : a.sm = b.sm
                  · have heq5 : (a.sm == b.sm) = true := by simpa using hne
                    have F5 := Lib.hid hne
                    clear hne
                    by_cases hne : a.cd = b.cd
                    · have heq6 : (a.cd == b.cd) = true := by simpa using hne
                      have F6 := Lib.hid hne
                      clear hne
                      by_cases hne : a.n = b.n
                      · have heq7 : (a.n == b.n) = true := by simpa using hne
                        have F7 := Lib.hid hne
                        clear hne
                        by_cases hne : a.ve = b.ve
                        · have heq8 : (a.ve == b.ve) = true := by simpa using hne
                          have F8 := Lib.hid hne
                          clear hne
                          have HMA := Lib.hid hAr
                          have HMB := Lib.hid hBr
                          have k1 := fun W => rless_all a.sg a.so b.sg b.so W
                          have k2 := fun W => rless_all b.sg b.so a.sg a.so W
                          have k3 := fun W => rless_all a.eg a.eo b.eg b.eo W
                          have k4 := fun W => rless_all b.eg b.eo a.eg a.eo W
                          obtain ⟨L1, hL1⟩ : ∃ L, L = ltP a.sg a.so b.sg b.so := ⟨_, rfl⟩
                          rw [← hL1] at k1
                          have HL1 := Lib.hid hL1
                          clear hL1
                          obtain ⟨L2, hL2⟩ : ∃ L, L = ltP b.sg b.so a.sg a.so := ⟨_, rfl⟩
                          rw [← hL2] at k2
                          have HL2 := Lib.hid hL2
                          clear hL2
                          obtain ⟨L3, hL3⟩ : ∃ L, L = ltP a.eg a.eo b.eg b.eo := ⟨_, rfl⟩
                          rw [← hL3] at k3
                          have HL3 := Lib.hid hL3
                          clear hL3
                          obtain ⟨L4, hL4⟩ : ∃ L, L = ltP b.eg b.eo a.eg a.eo := ⟨_, rfl⟩
                          rw [← hL4] at k4
                          have HL4 := Lib.hid hL4
                          clear hL4
                          cases L1
                          · cases L2
                            · cases L3
                              · cases L4
                                · obtain ⟨e6, e7⟩ := ltP_eq HL1.out.symm HL2.out.symm
                                  obtain ⟨e8, e9⟩ := ltP_eq HL3.out.symm HL4.out.symm
                                  have HE6 := Lib.hid e6
                                  have HE7 := Lib.hid e7
                                  have HE8 := Lib.hid e8
                                  have HE9 := Lib.hid e9
                                  clear e6 e7 e8 e9
                                  by_cases hq1 : a.nm = b.nm
                                  · have HQ1 := Lib.hid hq1
                                    clear hq1
                                    have q1 := fun (W : World) (hx : Rd W .u8 (.slice nA1 a.nm.length nc1) a.nm) (hy : Rd W .u8 (.slice nA2 b.nm.length nc2) b.nm) => same_yes (.slice nA1 a.nm.length nc1) (.slice nA2 b.nm.length nc2) a.nm W hx (by rw [HQ1.out]; exact hy)
                                    by_cases hq2 : a.rs = b.rs
                                    · have HQ2 := Lib.hid hq2
                                      clear hq2
                                      have q2 := fun (W : World) (hx : Rd W .u8 (.slice rA1 a.rs.length rc1) a.rs) (hy : Rd W .u8 (.slice rA2 b.rs.length rc2) b.rs) => same_yes (.slice rA1 a.rs.length rc1) (.slice rA2 b.rs.length rc2) a.rs W hx (by rw [HQ2.out]; exact hy)
                                      have hf : R = true := HR.out.2 (M.ext_of F0.out F1.out F2.out HQ1.out F3.out F4.out HE6.out HE7.out HE8.out HE9.out F5.out F6.out HQ2.out F7.out F8.out HVS.out)
                                      as_aux_lemma =>
                                        subst hf
                                        go_wp2_with (first | (go_at_call 24; (with_reducible refine (k1 _).mono ?_); rintro e w11 ⟨rfl, hb11⟩; have hO11 := hOr.same hb11; have hP11 := hPr.same hb11; have hB11 := hb1r.trans (hb11.mono hb1r.size); have hMA11 := HMA.out.below hb11; have hMB11 := HMB.out.below hb11; have e1a6 : w11.cell? ⟨w.heap.size, 6, none⟩ = some (.int .u64 a.sg) := hO11.cell 6; have e1b6 : w11.cell? ⟨w.heap.size + 1, 6, none⟩ = some (.int .u64 b.sg) := hP11.cell 6; have e1a7 : w11.cell? ⟨w.heap.size, 7, none⟩ = some (.int .u64 a.so) := hO11.cell 7; have e1b7 : w11.cell? ⟨w.heap.size + 1, 7, none⟩ = some (.int .u64 b.so) := hP11.cell 7; have e1a8 : w11.cell? ⟨w.heap.size, 8, none⟩ = some (.int .u64 a.eg) := hO11.cell 8; have e1b8 : w11.cell? ⟨w.heap.size + 1, 8, none⟩ = some (.int .u64 b.eg) := hP11.cell 8; have e1a9 : w11.cell? ⟨w.heap.size, 9, none⟩ = some (.int .u64 a.eo) := hO11.cell 9; have e1b9 : w11.cell? ⟨w.heap.size + 1, 9, none⟩ = some (.int .u64 b.eo) := hP11.cell 9; have e1a3 : w11.cell? ⟨w.heap.size, 3, none⟩ = some (.slice nA1 a.nm.length nc1) := hO11.cell 3; have e1b3 : w11.cell? ⟨w.heap.size + 1, 3, none⟩ = some (.slice nA2 b.nm.length nc2) := hP11.cell 3; have e1a12 : w11.cell? ⟨w.heap.size, 12, none⟩ = some (.slice rA1 a.rs.length rc1) := hO11.cell 12; have e1b12 : w11.cell? ⟨w.heap.size + 1, 12, none⟩ = some (.slice rA2 b.rs.length rc2) := hP11.cell 12) | (go_at_call 24; (with_reducible refine (k2 _).mono ?_); rintro e w12 ⟨rfl, hb12⟩; have hO12 := hO11.same hb12; have hP12 := hP11.same hb12; have hB12 := hB11.trans (hb12.mono hB11.size); have hMA12 := hMA11.below hb12; have hMB12 := hMB11.below hb12; have e2a6 : w12.cell? ⟨w.heap.size, 6, none⟩ = some (.int .u64 a.sg) := hO12.cell 6; have e2b6 : w12.cell? ⟨w.heap.size + 1, 6, none⟩ = some (.int .u64 b.sg) := hP12.cell 6; have e2a7 : w12.cell? ⟨w.heap.size, 7, none⟩ = some (.int .u64 a.so) := hO12.cell 7; have e2b7 : w12.cell? ⟨w.heap.size + 1, 7, none⟩ = some (.int .u64 b.so) := hP12.cell 7; have e2a8 : w12.cell? ⟨w.heap.size, 8, none⟩ = some (.int .u64 a.eg) := hO12.cell 8; have e2b8 : w12.cell? ⟨w.heap.size + 1, 8, none⟩ = some (.int .u64 b.eg) := hP12.cell 8; have e2a9 : w12.cell? ⟨w.heap.size, 9, none⟩ = some (.int .u64 a.eo) := hO12.cell 9; have e2b9 : w12.cell? ⟨w.heap.size + 1, 9, none⟩ = some (.int .u64 b.eo) := hP12.cell 9; have e2a3 : w12.cell? ⟨w.heap.size, 3, none⟩ = some (.slice nA1 a.nm.length nc1) := hO12.cell 3; have e2b3 : w12.cell? ⟨w.heap.size + 1, 3, none⟩ = some (.slice nA2 b.nm.length nc2) := hP12.cell 3; have e2a12 : w12.cell? ⟨w.heap.size, 12, none⟩ = some (.slice rA1 a.rs.length rc1) := hO12.cell 12; have e2b12 : w12.cell? ⟨w.heap.size + 1, 12, none⟩ = some (.slice rA2 b.rs.length rc2) := hP12.cell 12) | (go_at_call 24; (with_reducible refine (k3 _).mono ?_); rintro e w13 ⟨rfl, hb13⟩; have hO13 := hO12.same hb13; have hP13 := hP12.same hb13; have hB13 := hB12.trans (hb13.mono hB12.size); have hMA13 := hMA12.below hb13; have hMB13 := hMB12.below hb13; have e3a6 : w13.cell? ⟨w.heap.size, 6, none⟩ = some (.int .u64 a.sg) := hO13.cell 6; have e3b6 : w13.cell? ⟨w.heap.size + 1, 6, none⟩ = some (.int .u64 b.sg) := hP13.cell 6; have e3a7 : w13.cell? ⟨w.heap.size, 7, none⟩ = some (.int .u64 a.so) := hO13.cell 7; have e3b7 : w13.cell? ⟨w.heap.size + 1, 7, none⟩ = some (.int .u64 b.so) := hP13.cell 7; have e3a8 : w13.cell? ⟨w.heap.size, 8, none⟩ = some (.int .u64 a.eg) := hO13.cell 8; have e3b8 : w13.cell? ⟨w.heap.size + 1, 8, none⟩ = some (.int .u64 b.eg) := hP13.cell 8; have e3a9 : w13.cell? ⟨w.heap.size, 9, none⟩ = some (.int .u64 a.eo) := hO13.cell 9; have e3b9 : w13.cell? ⟨w.heap.size + 1, 9, none⟩ = some (.int .u64 b.eo) := hP13.cell 9; have e3a3 : w13.cell? ⟨w.heap.size, 3, none⟩ = some (.slice nA1 a.nm.length nc1) := hO13.cell 3; have e3b3 : w13.cell? ⟨w.heap.size + 1, 3, none⟩ = some (.slice nA2 b.nm.length nc2) := hP13.cell 3; have e3a12 : w13.cell? ⟨w.heap.size, 12, none⟩ = some (.slice rA1 a.rs.length rc1) := hO13.cell 12; have e3b12 : w13.cell? ⟨w.heap.size + 1, 12, none⟩ = some (.slice rA2 b.rs.length rc2) := hP13.cell 12) | (go_at_call 24; (with_reducible refine (k4 _).mono ?_); rintro e w14 ⟨rfl, hb14⟩; have hO14 := hO13.same hb14; have hP14 := hP13.same hb14; have hB14 := hB13.trans (hb14.mono hB13.size); have hMA14 := hMA13.below hb14; have hMB14 := hMB13.below hb14; have e4a6 : w14.cell? ⟨w.heap.size, 6, none⟩ = some (.int .u64 a.sg) := hO14.cell 6; have e4b6 : w14.cell? ⟨w.heap.size + 1, 6, none⟩ = some (.int .u64 b.sg) := hP14.cell 6; have e4a7 : w14.cell? ⟨w.heap.size, 7, none⟩ = some (.int .u64 a.so) := hO14.cell 7; have e4b7 : w14.cell? ⟨w.heap.size + 1, 7, none⟩ = some (.int .u64 b.so) := hP14.cell 7; have e4a8 : w14.cell? ⟨w.heap.size, 8, none⟩ = some (.int .u64 a.eg) := hO14.cell 8; have e4b8 : w14.cell? ⟨w.heap.size + 1, 8, none⟩ = some (.int .u64 b.eg) := hP14.cell 8; have e4a9 : w14.cell? ⟨w.heap.size, 9, none⟩ = some (.int .u64 a.eo) := hO14.cell 9; have e4b9 : w14.cell? ⟨w.heap.size + 1, 9, none⟩ = some (.int .u64 b.eo) := hP14.cell 9; have e4a3 : w14.cell? ⟨w.heap.size, 3, none⟩ = some (.slice nA1 a.nm.length nc1) := hO14.cell 3; have e4b3 : w14.cell? ⟨w.heap.size + 1, 3, none⟩ = some (.slice nA2 b.nm.length nc2) := hP14.cell 3; have e4a12 : w14.cell? ⟨w.heap.size, 12, none⟩ = some (.slice rA1 a.rs.length rc1) := hO14.cell 12; have e4b12 : w14.cell? ⟨w.heap.size + 1, 12, none⟩ = some (.slice rA2 b.rs.length rc2) := hP14.cell 12) | (go_at_call 13; (with_reducible refine (q1 _ hMA14.nm hMB14.nm).mono ?_); rintro e w15 ⟨rfl, rfl⟩) | (go_at_call 13; (with_reducible refine (q2 _ hMA14.rs hMB14.rs).mono ?_); rintro e w16 ⟨rfl, rfl⟩))
                                        go_ret
                                        exact ⟨rfl, hB14⟩
                                    · have HQ2 := Lib.hid hq2
                                      clear hq2
                                      have q2 := fun (W : World) (hx : Rd W .u8 (.slice rA1 a.rs.length rc1) a.rs) (hy : Rd W .u8 (.slice rA2 b.rs.length rc2) b.rs) => same_no (.slice rA1 a.rs.length rc1) (.slice rA2 b.rs.length rc2) a.rs b.rs W hx hy ha.rs hb.rs HQ2.out
                                      have hf : R = false := by
                                        cases R with
                                        | false => rfl
                                        | true => exact absurd (congrArg M.rs (HR.out.1 rfl)) HQ2.out
                                      as_aux_lemma =>
                                        subst hf
                                        go_wp2_with (first | (go_at_call 24; (with_reducible refine (k1 _).mono ?_); rintro e w11 ⟨rfl, hb11⟩; have hO11 := hOr.same hb11; have hP11 := hPr.same hb11; have hB11 := hb1r.trans (hb11.mono hb1r.size); have hMA11 := HMA.out.below hb11; have hMB11 := HMB.out.below hb11; have e1a6 : w11.cell? ⟨w.heap.size, 6, none⟩ = some (.int .u64 a.sg) := hO11.cell 6; have e1b6 : w11.cell? ⟨w.heap.size + 1, 6, none⟩ = some (.int .u64 b.sg) := hP11.cell 6; have e1a7 : w11.cell? ⟨w.heap.size, 7, none⟩ = some (.int .u64 a.so) := hO11.cell 7; have e1b7 : w11.cell? ⟨w.heap.size + 1, 7, none⟩ = some (.int .u64 b.so) := hP11.cell 7; have e1a8 : w11.cell? ⟨w.heap.size, 8, none⟩ = some (.int .u64 a.eg) := hO11.cell 8; have e1b8 : w11.cell? ⟨w.heap.size + 1, 8, none⟩ = some (.int .u64 b.eg) := hP11.cell 8; have e1a9 : w11.cell? ⟨w.heap.size, 9, none⟩ = some (.int .u64 a.eo) := hO11.cell 9; have e1b9 : w11.cell? ⟨w.heap.size + 1, 9, none⟩ = some (.int .u64 b.eo) := hP11.cell 9; have e1a3 : w11.cell? ⟨w.heap.size, 3, none⟩ = some (.slice nA1 a.nm.length nc1) := hO11.cell 3; have e1b3 : w11.cell? ⟨w.heap.size + 1, 3, none⟩ = some (.slice nA2 b.nm.length nc2) := hP11.cell 3; have e1a12 : w11.cell? ⟨w.heap.size, 12, none⟩ = some (.slice rA1 a.rs.length rc1) := hO11.cell 12; have e1b12 : w11.cell? ⟨w.heap.size + 1, 12, none⟩ = some (.slice rA2 b.rs.length rc2) := hP11.cell 12) | (go_at_call 24; (with_reducible refine (k2 _).mono ?_); rintro e w12 ⟨rfl, hb12⟩; have hO12 := hO11.same hb12; have hP12 := hP11.same hb12; have hB12 := hB11.trans (hb12.mono hB11.size); have hMA12 := hMA11.below hb12; have hMB12 := hMB11.below hb12; have e2a6 : w12.cell? ⟨w.heap.size, 6, none⟩ = some (.int .u64 a.sg) := hO12.cell 6; have e2b6 : w12.cell? ⟨w.heap.size + 1, 6, none⟩ = some (.int .u64 b.sg) := hP12.cell 6; have e2a7 : w12.cell? ⟨w.heap.size, 7, none⟩ = some (.int .u64 a.so) := hO12.cell 7; have e2b7 : w12.cell? ⟨w.heap.size + 1, 7, none⟩ = some (.int .u64 b.so) := hP12.cell 7; have e2a8 : w12.cell? ⟨w.heap.size, 8, none⟩ = some (.int .u64 a.eg) := hO12.cell 8; have e2b8 : w12.cell? ⟨w.heap.size + 1, 8, none⟩ = some (.int .u64 b.eg) := hP12.cell 8; have e2a9 : w12.cell? ⟨w.heap.size, 9, none⟩ = some (.int .u64 a.eo) := hO12.cell 9; have e2b9 : w12.cell? ⟨w.heap.size + 1, 9, none⟩ = some (.int .u64 b.eo) := hP12.cell 9; have e2a3 : w12.cell? ⟨w.heap.size, 3, none⟩ = some (.slice nA1 a.nm.length nc1) := hO12.cell 3; have e2b3 : w12.cell? ⟨w.heap.size + 1, 3, none⟩ = some (.slice nA2 b.nm.length nc2) := hP12.cell 3; have e2a12 : w12.cell? ⟨w.heap.size, 12, none⟩ = some (.slice rA1 a.rs.length rc1) := hO12.cell 12; have e2b12 : w12.cell? ⟨w.heap.size + 1, 12, none⟩ = some (.slice rA2 b.rs.length rc2) := hP12.cell 12) | (go_at_call 24; (with_reducible refine (k3 _).mono ?_); rintro e w13 ⟨rfl, hb13⟩; have hO13 := hO12.same hb13; have hP13 := hP12.same hb13; have hB13 := hB12.trans (hb13.mono hB12.size); have hMA13 := hMA12.below hb13; have hMB13 := hMB12.below hb13; have e3a6 : w13.cell? ⟨w.heap.size, 6, none⟩ = some (.int .u64 a.sg) := hO13.cell 6; have e3b6 : w13.cell? ⟨w.heap.size + 1, 6, none⟩ = some (.int .u64 b.sg) := hP13.cell 6; have e3a7 : w13.cell? ⟨w.heap.size, 7, none⟩ = some (.int .u64 a.so) := hO13.cell 7; have e3b7 : w13.cell? ⟨w.heap.size + 1, 7, none⟩ = some (.int .u64 b.so) := hP13.cell 7; have e3a8 : w13.cell? ⟨w.heap.size, 8, none⟩ = some (.int .u64 a.eg) := hO13.cell 8; have e3b8 : w13.cell? ⟨w.heap.size + 1, 8, none⟩ = some (.int .u64 b.eg) := hP13.cell 8; have e3a9 : w13.cell? ⟨w.heap.size, 9, none⟩ = some (.int .u64 a.eo) := hO13.cell 9; have e3b9 : w13.cell? ⟨w.heap.size + 1, 9, none⟩ = some (.int .u64 b.eo) := hP13.cell 9; have e3a3 : w13.cell? ⟨w.heap.size, 3, none⟩ = some (.slice nA1 a.nm.length nc1) := hO13.cell 3; have e3b3 : w13.cell? ⟨w.heap.size + 1, 3, none⟩ = some (.slice nA2 b.nm.length nc2) := hP13.cell 3; have e3a12 : w13.cell? ⟨w.heap.size, 12, none⟩ = some (.slice rA1 a.rs.length rc1) := hO13.cell 12; have e3b12 : w13.cell? ⟨w.heap.size + 1, 12, none⟩ = some (.slice rA2 b.rs.length rc2) := hP13.cell 12) | (go_at_call 24; (with_reducible refine (k4 _).mono ?_); rintro e w14 ⟨rfl, hb14⟩; have hO14 := hO13.same hb14; have hP14 := hP13.same hb14; have hB14 := hB13.trans (hb14.mono hB13.size); have hMA14 := hMA13.below hb14; have hMB14 := hMB13.below hb14; have e4a6 : w14.cell? ⟨w.heap.size, 6, none⟩ = some (.int .u64 a.sg) := hO14.cell 6; have e4b6 : w14.cell? ⟨w.heap.size + 1, 6, none⟩ = some (.int .u64 b.sg) := hP14.cell 6; have e4a7 : w14.cell? ⟨w.heap.size, 7, none⟩ = some (.int .u64 a.so) := hO14.cell 7; have e4b7 : w14.cell? ⟨w.heap.size + 1, 7, none⟩ = some (.int .u64 b.so) := hP14.cell 7; have e4a8 : w14.cell? ⟨w.heap.size, 8, none⟩ = some (.int .u64 a.eg) := hO14.cell 8; have e4b8 : w14.cell? ⟨w.heap.size + 1, 8, none⟩ = some (.int .u64 b.eg) := hP14.cell 8; have e4a9 : w14.cell? ⟨w.heap.size, 9, none⟩ = some (.int .u64 a.eo) := hO14.cell 9; have e4b9 : w14.cell? ⟨w.heap.size + 1, 9, none⟩ = some (.int .u64 b.eo) := hP14.cell 9; have e4a3 : w14.cell? ⟨w.heap.size, 3, none⟩ = some (.slice nA1 a.nm.length nc1) := hO14.cell 3; have e4b3 : w14.cell? ⟨w.heap.size + 1, 3, none⟩ = some (.slice nA2 b.nm.length nc2) := hP14.cell 3; have e4a12 : w14.cell? ⟨w.heap.size, 12, none⟩ = some (.slice rA1 a.rs.length rc1) := hO14.cell 12; have e4b12 : w14.cell? ⟨w.heap.size + 1, 12, none⟩ = some (.slice rA2 b.rs.length rc2) := hP14.cell 12) | (go_at_call 13; (with_reducible refine (q1 _ hMA14.nm hMB14.nm).mono ?_); rintro e w15 ⟨rfl, rfl⟩) | (go_at_call 13; (with_reducible refine (q2 _ hMA14.rs hMB14.rs).mono ?_); rintro e w16 ⟨rfl, rfl⟩))
                                        go_ret
                                        exact ⟨rfl, hB14⟩
                                  · have HQ1 := Lib.hid hq1
                                    clear hq1
                                    have q1 := fun (W : World) (hx : Rd W .u8 (.slice nA1 a.nm.length nc1) a.nm) (hy : Rd W .u8 (.slice nA2 b.nm.length nc2) b.nm) => same_no (.slice nA1 a.nm.length nc1) (.slice nA2 b.nm.length nc2) a.nm b.nm W hx hy ha.nm hb.nm HQ1.out
                                    have hf : R = false := by
                                      cases R with
                                      | false => rfl
                                      | true => exact absurd (congrArg M.nm (HR.out.1 rfl)) HQ1.out
                                    as_aux_lemma =>
                                      subst hf
                                      go_wp2_with (first | (go_at_call 24; (with_reducible refine (k1 _).mono ?_); rintro e w11 ⟨rfl, hb11⟩; have hO11 := hOr.same hb11; have hP11 := hPr.same hb11; have hB11 := hb1r.trans (hb11.mono hb1r.size); have hMA11 := HMA.out.below hb11; have hMB11 := HMB.out.below hb11; have e1a6 : w11.cell? ⟨w.heap.size, 6, none⟩ = some (.int .u64 a.sg) := hO11.cell 6; have e1b6 : w11.cell? ⟨w.heap.size + 1, 6, none⟩ = some (.int .u64 b.sg) := hP11.cell 6; have e1a7 : w11.cell? ⟨w.heap.size, 7, none⟩ = some (.int .u64 a.so) := hO11.cell 7; have e1b7 : w11.cell? ⟨w.heap.size + 1, 7, none⟩ = some (.int .u64 b.so) := hP11.cell 7; have e1a8 : w11.cell? ⟨w.heap.size, 8, none⟩ = some (.int .u64 a.eg) := hO11.cell 8; have e1b8 : w11.cell? ⟨w.heap.size + 1, 8, none⟩ = some (.int .u64 b.eg) := hP11.cell 8; have e1a9 : w11.cell? ⟨w.heap.size, 9, none⟩ = some (.int .u64 a.eo) := hO11.cell 9; have e1b9 : w11.cell? ⟨w.heap.size + 1, 9, none⟩ = some (.int .u64 b.eo) := hP11.cell 9; have e1a3 : w11.cell? ⟨w.heap.size, 3, none⟩ = some (.slice nA1 a.nm.length nc1) := hO11.cell 3; have e1b3 : w11.cell? ⟨w.heap.size + 1, 3, none⟩ = some (.slice nA2 b.nm.length nc2) := hP11.cell 3; have e1a12 : w11.cell? ⟨w.heap.size, 12, none⟩ = some (.slice rA1 a.rs.length rc1) := hO11.cell 12; have e1b12 : w11.cell? ⟨w.heap.size + 1, 12, none⟩ = some (.slice rA2 b.rs.length rc2) := hP11.cell 12) | (go_at_call 24; (with_reducible refine (k2 _).mono ?_); rintro e w12 ⟨rfl, hb12⟩; have hO12 := hO11.same hb12; have hP12 := hP11.same hb12; have hB12 := hB11.trans (hb12.mono hB11.size); have hMA12 := hMA11.below hb12; have hMB12 := hMB11.below hb12; have e2a6 : w12.cell? ⟨w.heap.size, 6, none⟩ = some (.int .u64 a.sg) := hO12.cell 6; have e2b6 : w12.cell? ⟨w.heap.size + 1, 6, none⟩ = some (.int .u64 b.sg) := hP12.cell 6; have e2a7 : w12.cell? ⟨w.heap.size, 7, none⟩ = some (.int .u64 a.so) := hO12.cell 7; have e2b7 : w12.cell? ⟨w.heap.size + 1, 7, none⟩ = some (.int .u64 b.so) := hP12.cell 7; have e2a8 : w12.cell? ⟨w.heap.size, 8, none⟩ = some (.int .u64 a.eg) := hO12.cell 8; have e2b8 : w12.cell? ⟨w.heap.size + 1, 8, none⟩ = some (.int .u64 b.eg) := hP12.cell 8; have e2a9 : w12.cell? ⟨w.heap.size, 9, none⟩ = some (.int .u64 a.eo) := hO12.cell 9; have e2b9 : w12.cell? ⟨w.heap.size + 1, 9, none⟩ = some (.int .u64 b.eo) := hP12.cell 9; have e2a3 : w12.cell? ⟨w.heap.size, 3, none⟩ = some (.slice nA1 a.nm.length nc1) := hO12.cell 3; have e2b3 : w12.cell? ⟨w.heap.size + 1, 3, none⟩ = some (.slice nA2 b.nm.length nc2) := hP12.cell 3; have e2a12 : w12.cell? ⟨w.heap.size, 12, none⟩ = some (.slice rA1 a.rs.length rc1) := hO12.cell 12; have e2b12 : w12.cell? ⟨w.heap.size + 1, 12, none⟩ = some (.slice rA2 b.rs.length rc2) := hP12.cell 12) | (go_at_call 24; (with_reducible refine (k3 _).mono ?_); rintro e w13 ⟨rfl, hb13⟩; have hO13 := hO12.same hb13; have hP13 := hP12.same hb13; have hB13 := hB12.trans (hb13.mono hB12.size); have hMA13 := hMA12.below hb13; have hMB13 := hMB12.below hb13; have e3a6 : w13.cell? ⟨w.heap.size, 6, none⟩ = some (.int .u64 a.sg) := hO13.cell 6; have e3b6 : w13.cell? ⟨w.heap.size + 1, 6, none⟩ = some (.int .u64 b.sg) := hP13.cell 6; have e3a7 : w13.cell? ⟨w.heap.size, 7, none⟩ = some (.int .u64 a.so) := hO13.cell 7; have e3b7 : w13.cell? ⟨w.heap.size + 1, 7, none⟩ = some (.int .u64 b.so) := hP13.cell 7; have e3a8 : w13.cell? ⟨w.heap.size, 8, none⟩ = some (.int .u64 a.eg) := hO13.cell 8; have e3b8 : w13.cell? ⟨w.heap.size + 1, 8, none⟩ = some (.int .u64 b.eg) := hP13.cell 8; have e3a9 : w13.cell? ⟨w.heap.size, 9, none⟩ = some (.int .u64 a.eo) := hO13.cell 9; have e3b9 : w13.cell? ⟨w.heap.size + 1, 9, none⟩ = some (.int .u64 b.eo) := hP13.cell 9; have e3a3 : w13.cell? ⟨w.heap.size, 3, none⟩ = some (.slice nA1 a.nm.length nc1) := hO13.cell 3; have e3b3 : w13.cell? ⟨w.heap.size + 1, 3, none⟩ = some (.slice nA2 b.nm.length nc2) := hP13.cell 3; have e3a12 : w13.cell? ⟨w.heap.size, 12, none⟩ = some (.slice rA1 a.rs.length rc1) := hO13.cell 12; have e3b12 : w13.cell? ⟨w.heap.size + 1, 12, none⟩ = some (.slice rA2 b.rs.length rc2) := hP13.cell 12) | (go_at_call 24; (with_reducible refine (k4 _).mono ?_); rintro e w14 ⟨rfl, hb14⟩; have hO14 := hO13.same hb14; have hP14 := hP13.same hb14; have hB14 := hB13.trans (hb14.mono hB13.size); have hMA14 := hMA13.below hb14; have hMB14 := hMB13.below hb14; have e4a6 : w14.cell? ⟨w.heap.size, 6, none⟩ = some (.int .u64 a.sg) := hO14.cell 6; have e4b6 : w14.cell? ⟨w.heap.size + 1, 6, none⟩ = some (.int .u64 b.sg) := hP14.cell 6; have e4a7 : w14.cell? ⟨w.heap.size, 7, none⟩ = some (.int .u64 a.so) := hO14.cell 7; have e4b7 : w14.cell? ⟨w.heap.size + 1, 7, none⟩ = some (.int .u64 b.so) := hP14.cell 7; have e4a8 : w14.cell? ⟨w.heap.size, 8, none⟩ = some (.int .u64 a.eg) := hO14.cell 8; have e4b8 : w14.cell? ⟨w.heap.size + 1, 8, none⟩ = some (.int .u64 b.eg) := hP14.cell 8; have e4a9 : w14.cell? ⟨w.heap.size, 9, none⟩ = some (.int .u64 a.eo) := hO14.cell 9; have e4b9 : w14.cell? ⟨w.heap.size + 1, 9, none⟩ = some (.int .u64 b.eo) := hP14.cell 9; have e4a3 : w14.cell? ⟨w.heap.size, 3, none⟩ = some (.slice nA1 a.nm.length nc1) := hO14.cell 3; have e4b3 : w14.cell? ⟨w.heap.size + 1, 3, none⟩ = some (.slice nA2 b.nm.length nc2) := hP14.cell 3; have e4a12 : w14.cell? ⟨w.heap.size, 12, none⟩ = some (.slice rA1 a.rs.length rc1) := hO14.cell 12; have e4b12 : w14.cell? ⟨w.heap.size + 1, 12, none⟩ = some (.slice rA2 b.rs.length rc2) := hP14.cell 12) | (go_at_call 13; (with_reducible refine (q1 _ hMA14.nm hMB14.nm).mono ?_); rintro e w15 ⟨rfl, rfl⟩) | (go_at_call 13; (with_reducible refine (q2 _ hMA14.rs hMB14.rs).mono ?_); rintro e w16 ⟨rfl, rfl⟩))
                                      go_ret
                                      exact ⟨rfl, hB14⟩
                                · have hf : R = false := by
                                    cases R with
                                    | false => rfl
                                    | true => have h1 := HR.out.1 rfl; have h2 := HL4.out; rw [h1, ltP_self] at h2; cases h2
                                  as_aux_lemma =>
                                    subst hf
                                    go_wp2_with (first | (go_at_call 24; (with_reducible refine (k1 _).mono ?_); rintro e w11 ⟨rfl, hb11⟩; have hO11 := hOr.same hb11; have hP11 := hPr.same hb11; have hB11 := hb1r.trans (hb11.mono hb1r.size); have hMA11 := HMA.out.below hb11; have hMB11 := HMB.out.below hb11; have e1a6 : w11.cell? ⟨w.heap.size, 6, none⟩ = some (.int .u64 a.sg) := hO11.cell 6; have e1b6 : w11.cell? ⟨w.heap.size + 1, 6, none⟩ = some (.int .u64 b.sg) := hP11.cell 6; have e1a7 : w11.cell? ⟨w.heap.size, 7, none⟩ = some (.int .u64 a.so) := hO11.cell 7; have e1b7 : w11.cell? ⟨w.heap.size + 1, 7, none⟩ = some (.int .u64 b.so) := hP11.cell 7; have e1a8 : w11.cell? ⟨w.heap.size, 8, none⟩ = some (.int .u64 a.eg) := hO11.cell 8; have e1b8 : w11.cell? ⟨w.heap.size + 1, 8, none⟩ = some (.int .u64 b.eg) := hP11.cell 8; have e1a9 : w11.cell? ⟨w.heap.size, 9, none⟩ = some (.int .u64 a.eo) := hO11.cell 9; have e1b9 : w11.cell? ⟨w.heap.size + 1, 9, none⟩ = some (.int .u64 b.eo) := hP11.cell 9; have e1a3 : w11.cell? ⟨w.heap.size, 3, none⟩ = some (.slice nA1 a.nm.length nc1) := hO11.cell 3; have e1b3 : w11.cell? ⟨w.heap.size + 1, 3, none⟩ = some (.slice nA2 b.nm.length nc2) := hP11.cell 3; have e1a12 : w11.cell? ⟨w.heap.size, 12, none⟩ = some (.slice rA1 a.rs.length rc1) := hO11.cell 12; have e1b12 : w11.cell? ⟨w.heap.size + 1, 12, none⟩ = some (.slice rA2 b.rs.length rc2) := hP11.cell 12) | (go_at_call 24; (with_reducible refine (k2 _).mono ?_); rintro e w12 ⟨rfl, hb12⟩; have hO12 := hO11.same hb12; have hP12 := hP11.same hb12; have hB12 := hB11.trans (hb12.mono hB11.size); have hMA12 := hMA11.below hb12; have hMB12 := hMB11.below hb12; have e2a6 : w12.cell? ⟨w.heap.size, 6, none⟩ = some (.int .u64 a.sg) := hO12.cell 6; have e2b6 : w12.cell? ⟨w.heap.size + 1, 6, none⟩ = some (.int .u64 b.sg) := hP12.cell 6; have e2a7 : w12.cell? ⟨w.heap.size, 7, none⟩ = some (.int .u64 a.so) := hO12.cell 7; have e2b7 : w12.cell? ⟨w.heap.size + 1, 7, none⟩ = some (.int .u64 b.so) := hP12.cell 7; have e2a8 : w12.cell? ⟨w.heap.size, 8, none⟩ = some (.int .u64 a.eg) := hO12.cell 8; have e2b8 : w12.cell? ⟨w.heap.size + 1, 8, none⟩ = some (.int .u64 b.eg) := hP12.cell 8; have e2a9 : w12.cell? ⟨w.heap.size, 9, none⟩ = some (.int .u64 a.eo) := hO12.cell 9; have e2b9 : w12.cell? ⟨w.heap.size + 1, 9, none⟩ = some (.int .u64 b.eo) := hP12.cell 9; have e2a3 : w12.cell? ⟨w.heap.size, 3, none⟩ = some (.slice nA1 a.nm.length nc1) := hO12.cell 3; have e2b3 : w12.cell? ⟨w.heap.size + 1, 3, none⟩ = some (.slice nA2 b.nm.length nc2) := hP12.cell 3; have e2a12 : w12.cell? ⟨w.heap.size, 12, none⟩ = some (.slice rA1 a.rs.length rc1) := hO12.cell 12; have e2b12 : w12.cell? ⟨w.heap.size + 1, 12, none⟩ = some (.slice rA2 b.rs.length rc2) := hP12.cell 12) | (go_at_call 24; (with_reducible refine (k3 _).mono ?_); rintro e w13 ⟨rfl, hb13⟩; have hO13 := hO12.same hb13; have hP13 := hP12.same hb13; have hB13 := hB12.trans (hb13.mono hB12.size); have hMA13 := hMA12.below hb13; have hMB13 := hMB12.below hb13; have e3a6 : w13.cell? ⟨w.heap.size, 6, none⟩ = some (.int .u64 a.sg) := hO13.cell 6; have e3b6 : w13.cell? ⟨w.heap.size + 1, 6, none⟩ = some (.int .u64 b.sg) := hP13.cell 6; have e3a7 : w13.cell? ⟨w.heap.size, 7, none⟩ = some (.int .u64 a.so) := hO13.cell 7; have e3b7 : w13.cell? ⟨w.heap.size + 1, 7, none⟩ = some (.int .u64 b.so) := hP13.cell 7; have e3a8 : w13.cell? ⟨w.heap.size, 8, none⟩ = some (.int .u64 a.eg) := hO13.cell 8; have e3b8 : w13.cell? ⟨w.heap.size + 1, 8, none⟩ = some (.int .u64 b.eg) := hP13.cell 8; have e3a9 : w13.cell? ⟨w.heap.size, 9, none⟩ = some (.int .u64 a.eo) := hO13.cell 9; have e3b9 : w13.cell? ⟨w.heap.size + 1, 9, none⟩ = some (.int .u64 b.eo) := hP13.cell 9; have e3a3 : w13.cell? ⟨w.heap.size, 3, none⟩ = some (.slice nA1 a.nm.length nc1) := hO13.cell 3; have e3b3 : w13.cell? ⟨w.heap.size + 1, 3, none⟩ = some (.slice nA2 b.nm.length nc2) := hP13.cell 3; have e3a12 : w13.cell? ⟨w.heap.size, 12, none⟩ = some (.slice rA1 a.rs.length rc1) := hO13.cell 12; have e3b12 : w13.cell? ⟨w.heap.size + 1, 12, none⟩ = some (.slice rA2 b.rs.length rc2) := hP13.cell 12) | (go_at_call 24; (with_reducible refine (k4 _).mono ?_); rintro e w14 ⟨rfl, hb14⟩; have hO14 := hO13.same hb14; have hP14 := hP13.same hb14; have hB14 := hB13.trans (hb14.mono hB13.size); have hMA14 := hMA13.below hb14; have hMB14 := hMB13.below hb14; have e4a6 : w14.cell? ⟨w.heap.size, 6, none⟩ = some (.int .u64 a.sg) := hO14.cell 6; have e4b6 : w14.cell? ⟨w.heap.size + 1, 6, none⟩ = some (.int .u64 b.sg) := hP14.cell 6; have e4a7 : w14.cell? ⟨w.heap.size, 7, none⟩ = some (.int .u64 a.so) := hO14.cell 7; have e4b7 : w14.cell? ⟨w.heap.size + 1, 7, none⟩ = some (.int .u64 b.so) := hP14.cell 7; have e4a8 : w14.cell? ⟨w.heap.size, 8, none⟩ = some (.int .u64 a.eg) := hO14.cell 8; have e4b8 : w14.cell? ⟨w.heap.size + 1, 8, none⟩ = some (.int .u64 b.eg) := hP14.cell 8; have e4a9 : w14.cell? ⟨w.heap.size, 9, none⟩ = some (.int .u64 a.eo) := hO14.cell 9; have e4b9 : w14.cell? ⟨w.heap.size + 1, 9, none⟩ = some (.int .u64 b.eo) := hP14.cell 9; have e4a3 : w14.cell? ⟨w.heap.size, 3, none⟩ = some (.slice nA1 a.nm.length nc1) := hO14.cell 3; have e4b3 : w14.cell? ⟨w.heap.size + 1, 3, none⟩ = some (.slice nA2 b.nm.length nc2) := hP14.cell 3; have e4a12 : w14.cell? ⟨w.heap.size, 12, none⟩ = some (.slice rA1 a.rs.length rc1) := hO14.cell 12; have e4b12 : w14.cell? ⟨w.heap.size + 1, 12, none⟩ = some (.slice rA2 b.rs.length rc2) := hP14.cell 12) | (go_at_call 13; (with_reducible refine (q1 _ hMA14.nm hMB14.nm).mono ?_); rintro e w15 ⟨rfl, rfl⟩) | (go_at_call 13; (with_reducible refine (q2 _ hMA14.rs hMB14.rs).mono ?_); rintro e w16 ⟨rfl, rfl⟩))
                                    go_ret
                                    exact ⟨rfl, hB14⟩
                              · have hf : R = false := by
                                  cases R with
                                  | false => rfl
                                  | true => have h1 := HR.out.1 rfl; have h2 := HL3.out; rw [h1, ltP_self] at h2; cases h2
                                as_aux_lemma =>
                                  subst hf
                                  go_wp2_with (first | (go_at_call 24; (with_reducible refine (k1 _).mono ?_); rintro e w11 ⟨rfl, hb11⟩; have hO11 := hOr.same hb11; have hP11 := hPr.same hb11; have hB11 := hb1r.trans (hb11.mono hb1r.size); have hMA11 := HMA.out.below hb11; have hMB11 := HMB.out.below hb11; have e1a6 : w11.cell? ⟨w.heap.size, 6, none⟩ = some (.int .u64 a.sg) := hO11.cell 6; have e1b6 : w11.cell? ⟨w.heap.size + 1, 6, none⟩ = some (.int .u64 b.sg) := hP11.cell 6; have e1a7 : w11.cell? ⟨w.heap.size, 7, none⟩ = some (.int .u64 a.so) := hO11.cell 7; have e1b7 : w11.cell? ⟨w.heap.size + 1, 7, none⟩ = some (.int .u64 b.so) := hP11.cell 7; have e1a8 : w11.cell? ⟨w.heap.size, 8, none⟩ = some (.int .u64 a.eg) := hO11.cell 8; have e1b8 : w11.cell? ⟨w.heap.size + 1, 8, none⟩ = some (.int .u64 b.eg) := hP11.cell 8; have e1a9 : w11.cell? ⟨w.heap.size, 9, none⟩ = some (.int .u64 a.eo) := hO11.cell 9; have e1b9 : w11.cell? ⟨w.heap.size + 1, 9, none⟩ = some (.int .u64 b.eo) := hP11.cell 9; have e1a3 : w11.cell? ⟨w.heap.size, 3, none⟩ = some (.slice nA1 a.nm.length nc1) := hO11.cell 3; have e1b3 : w11.cell? ⟨w.heap.size + 1, 3, none⟩ = some (.slice nA2 b.nm.length nc2) := hP11.cell 3; have e1a12 : w11.cell? ⟨w.heap.size, 12, none⟩ = some (.slice rA1 a.rs.length rc1) := hO11.cell 12; have e1b12 : w11.cell? ⟨w.heap.size + 1, 12, none⟩ = some (.slice rA2 b.rs.length rc2) := hP11.cell 12) | (go_at_call 24; (with_reducible refine (k2 _).mono ?_); rintro e w12 ⟨rfl, hb12⟩; have hO12 := hO11.same hb12; have hP12 := hP11.same hb12; have hB12 := hB11.trans (hb12.mono hB11.size); have hMA12 := hMA11.below hb12; have hMB12 := hMB11.below hb12; have e2a6 : w12.cell? ⟨w.heap.size, 6, none⟩ = some (.int .u64 a.sg) := hO12.cell 6; have e2b6 : w12.cell? ⟨w.heap.size + 1, 6, none⟩ = some (.int .u64 b.sg) := hP12.cell 6; have e2a7 : w12.cell? ⟨w.heap.size, 7, none⟩ = some (.int .u64 a.so) := hO12.cell 7; have e2b7 : w12.cell? ⟨w.heap.size + 1, 7, none⟩ = some (.int .u64 b.so) := hP12.cell 7; have e2a8 : w12.cell? ⟨w.heap.size, 8, none⟩ = some (.int .u64 a.eg) := hO12.cell 8; have e2b8 : w12.cell? ⟨w.heap.size + 1, 8, none⟩ = some (.int .u64 b.eg) := hP12.cell 8; have e2a9 : w12.cell? ⟨w.heap.size, 9, none⟩ = some (.int .u64 a.eo) := hO12.cell 9; have e2b9 : w12.cell? ⟨w.heap.size + 1, 9, none⟩ = some (.int .u64 b.eo) := hP12.cell 9; have e2a3 : w12.cell? ⟨w.heap.size, 3, none⟩ = some (.slice nA1 a.nm.length nc1) := hO12.cell 3; have e2b3 : w12.cell? ⟨w.heap.size + 1, 3, none⟩ = some (.slice nA2 b.nm.length nc2) := hP12.cell 3; have e2a12 : w12.cell? ⟨w.heap.size, 12, none⟩ = some (.slice rA1 a.rs.length rc1) := hO12.cell 12; have e2b12 : w12.cell? ⟨w.heap.size + 1, 12, none⟩ = some (.slice rA2 b.rs.length rc2) := hP12.cell 12) | (go_at_call 24; (with_reducible refine (k3 _).mono ?_); rintro e w13 ⟨rfl, hb13⟩; have hO13 := hO12.same hb13; have hP13 := hP12.same hb13; have hB13 := hB12.trans (hb13.mono hB12.size); have hMA13 := hMA12.below hb13; have hMB13 := hMB12.below hb13; have e3a6 : w13.cell? ⟨w.heap.size, 6, none⟩ = some (.int .u64 a.sg) := hO13.cell 6; have e3b6 : w13.cell? ⟨w.heap.size + 1, 6, none⟩ = some (.int .u64 b.sg) := hP13.cell 6; have e3a7 : w13.cell? ⟨w.heap.size, 7, none⟩ = some (.int .u64 a.so) := hO13.cell 7; have e3b7 : w13.cell? ⟨w.heap.size + 1, 7, none⟩ = some (.int .u64 b.so) := hP13.cell 7; have e3a8 : w13.cell? ⟨w.heap.size, 8, none⟩ = some (.int .u64 a.eg) := hO13.cell 8; have e3b8 : w13.cell? ⟨w.heap.size + 1, 8, none⟩ = some (.int .u64 b.eg) := hP13.cell 8; have e3a9 : w13.cell? ⟨w.heap.size, 9, none⟩ = some (.int .u64 a.eo) := hO13.cell 9; have e3b9 : w13.cell? ⟨w.heap.size + 1, 9, none⟩ = some (.int .u64 b.eo) := hP13.cell 9; have e3a3 : w13.cell? ⟨w.heap.size, 3, none⟩ = some (.slice nA1 a.nm.length nc1) := hO13.cell 3; have e3b3 : w13.cell? ⟨w.heap.size + 1, 3, none⟩ = some (.slice nA2 b.nm.length nc2) := hP13.cell 3; have e3a12 : w13.cell? ⟨w.heap.size, 12, none⟩ = some (.slice rA1 a.rs.length rc1) := hO13.cell 12; have e3b12 : w13.cell? ⟨w.heap.size + 1, 12, none⟩ = some (.slice rA2 b.rs.length rc2) := hP13.cell 12) | (go_at_call 24; (with_reducible refine (k4 _).mono ?_); rintro e w14 ⟨rfl, hb14⟩; have hO14 := hO13.same hb14; have hP14 := hP13.same hb14; have hB14 := hB13.trans (hb14.mono hB13.size); have hMA14 := hMA13.below hb14; have hMB14 := hMB13.below hb14; have e4a6 : w14.cell? ⟨w.heap.size, 6, none⟩ = some (.int .u64 a.sg) := hO14.cell 6; have e4b6 : w14.cell? ⟨w.heap.size + 1, 6, none⟩ = some (.int .u64 b.sg) := hP14.cell 6; have e4a7 : w14.cell? ⟨w.heap.size, 7, none⟩ = some (.int .u64 a.so) := hO14.cell 7; have e4b7 : w14.cell? ⟨w.heap.size + 1, 7, none⟩ = some (.int .u64 b.so) := hP14.cell 7; have e4a8 : w14.cell? ⟨w.heap.size, 8, none⟩ = some (.int .u64 a.eg) := hO14.cell 8; have e4b8 : w14.cell? ⟨w.heap.size + 1, 8, none⟩ = some (.int .u64 b.eg) := hP14.cell 8; have e4a9 : w14.cell? ⟨w.heap.size, 9, none⟩ = some (.int .u64 a.eo) := hO14.cell 9; have e4b9 : w14.cell? ⟨w.heap.size + 1, 9, none⟩ = some (.int .u64 b.eo) := hP14.cell 9; have e4a3 : w14.cell? ⟨w.heap.size, 3, none⟩ = some (.slice nA1 a.nm.length nc1) := hO14.cell 3; have e4b3 : w14.cell? ⟨w.heap.size + 1, 3, none⟩ = some (.slice nA2 b.nm.length nc2) := hP14.cell 3; have e4a12 : w14.cell? ⟨w.heap.size, 12, none⟩ = some (.slice rA1 a.rs.length rc1) := hO14.cell 12; have e4b12 : w14.cell? ⟨w.heap.size + 1, 12, none⟩ = some (.slice rA2 b.rs.length rc2) := hP14.cell 12) | (go_at_call 13; (with_reducible refine (q1 _ hMA14.nm hMB14.nm).mono ?_); rintro e w15 ⟨rfl, rfl⟩) | (go_at_call 13; (with_reducible refine (q2 _ hMA14.rs hMB14.rs).mono ?_); rintro e w16 ⟨rfl, rfl⟩))
                                  go_ret
                                  exact ⟨rfl, hB13⟩
                            · have hf : R = false := by
                                cases R with
                                | false => rfl
                                | true => have h1 := HR.out.1 rfl; have h2 := HL2.out; rw [h1, ltP_self] at h2; cases h2
                              as_aux_lemma =>
                                subst hf
                                go_wp2_with (first | (go_at_call 24; (with_reducible refine (k1 _).mono ?_); rintro e w11 ⟨rfl, hb11⟩; have hO11 := hOr.same hb11; have hP11 := hPr.same hb11; have hB11 := hb1r.trans (hb11.mono hb1r.size); have hMA11 := HMA.out.below hb11; have hMB11 := HMB.out.below hb11; have e1a6 : w11.cell? ⟨w.heap.size, 6, none⟩ = some (.int .u64 a.sg) := hO11.cell 6; have e1b6 : w11.cell? ⟨w.heap.size + 1, 6, none⟩ = some (.int .u64 b.sg) := hP11.cell 6; have e1a7 : w11.cell? ⟨w.heap.size, 7, none⟩ = some (.int .u64 a.so) := hO11.cell 7; have e1b7 : w11.cell? ⟨w.heap.size + 1, 7, none⟩ = some (.int .u64 b.so) := hP11.cell 7; have e1a8 : w11.cell? ⟨w.heap.size, 8, none⟩ = some (.int .u64 a.eg) := hO11.cell 8; have e1b8 : w11.cell? ⟨w.heap.size + 1, 8, none⟩ = some (.int .u64 b.eg) := hP11.cell 8; have e1a9 : w11.cell? ⟨w.heap.size, 9, none⟩ = some (.int .u64 a.eo) := hO11.cell 9; have e1b9 : w11.cell? ⟨w.heap.size + 1, 9, none⟩ = some (.int .u64 b.eo) := hP11.cell 9; have e1a3 : w11.cell? ⟨w.heap.size, 3, none⟩ = some (.slice nA1 a.nm.length nc1) := hO11.cell 3; have e1b3 : w11.cell? ⟨w.heap.size + 1, 3, none⟩ = some (.slice nA2 b.nm.length nc2) := hP11.cell 3; have e1a12 : w11.cell? ⟨w.heap.size, 12, none⟩ = some (.slice rA1 a.rs.length rc1) := hO11.cell 12; have e1b12 : w11.cell? ⟨w.heap.size + 1, 12, none⟩ = some (.slice rA2 b.rs.length rc2) := hP11.cell 12) | (go_at_call 24; (with_reducible refine (k2 _).mono ?_); rintro e w12 ⟨rfl, hb12⟩; have hO12 := hO11.same hb12; have hP12 := hP11.same hb12; have hB12 := hB11.trans (hb12.mono hB11.size); have hMA12 := hMA11.below hb12; have hMB12 := hMB11.below hb12; have e2a6 : w12.cell? ⟨w.heap.size, 6, none⟩ = some (.int .u64 a.sg) := hO12.cell 6; have e2b6 : w12.cell? ⟨w.heap.size + 1, 6, none⟩ = some (.int .u64 b.sg) := hP12.cell 6; have e2a7 : w12.cell? ⟨w.heap.size, 7, none⟩ = some (.int .u64 a.so) := hO12.cell 7; have e2b7 : w12.cell? ⟨w.heap.size + 1, 7, none⟩ = some (.int .u64 b.so) := hP12.cell 7; have e2a8 : w12.cell? ⟨w.heap.size, 8, none⟩ = some (.int .u64 a.eg) := hO12.cell 8; have e2b8 : w12.cell? ⟨w.heap.size + 1, 8, none⟩ = some (.int .u64 b.eg) := hP12.cell 8; have e2a9 : w12.cell? ⟨w.heap.size, 9, none⟩ = some (.int .u64 a.eo) := hO12.cell 9; have e2b9 : w12.cell? ⟨w.heap.size + 1, 9, none⟩ = some (.int .u64 b.eo) := hP12.cell 9; have e2a3 : w12.cell? ⟨w.heap.size, 3, none⟩ = some (.slice nA1 a.nm.length nc1) := hO12.cell 3; have e2b3 : w12.cell? ⟨w.heap.size + 1, 3, none⟩ = some (.slice nA2 b.nm.length nc2) := hP12.cell 3; have e2a12 : w12.cell? ⟨w.heap.size, 12, none⟩ = some (.slice rA1 a.rs.length rc1) := hO12.cell 12; have e2b12 : w12.cell? ⟨w.heap.size + 1, 12, none⟩ = some (.slice rA2 b.rs.length rc2) := hP12.cell 12) | (go_at_call 24; (with_reducible refine (k3 _).mono ?_); rintro e w13 ⟨rfl, hb13⟩; have hO13 := hO12.same hb13; have hP13 := hP12.same hb13; have hB13 := hB12.trans (hb13.mono hB12.size); have hMA13 := hMA12.below hb13; have hMB13 := hMB12.below hb13; have e3a6 : w13.cell? ⟨w.heap.size, 6, none⟩ = some (.int .u64 a.sg) := hO13.cell 6; have e3b6 : w13.cell? ⟨w.heap.size + 1, 6, none⟩ = some (.int .u64 b.sg) := hP13.cell 6; have e3a7 : w13.cell? ⟨w.heap.size, 7, none⟩ = some (.int .u64 a.so) := hO13.cell 7; have e3b7 : w13.cell? ⟨w.heap.size + 1, 7, none⟩ = some (.int .u64 b.so) := hP13.cell 7; have e3a8 : w13.cell? ⟨w.heap.size, 8, none⟩ = some (.int .u64 a.eg) := hO13.cell 8; have e3b8 : w13.cell? ⟨w.heap.size + 1, 8, none⟩ = some (.int .u64 b.eg) := hP13.cell 8; have e3a9 : w13.cell? ⟨w.heap.size, 9, none⟩ = some (.int .u64 a.eo) := hO13.cell 9; have e3b9 : w13.cell? ⟨w.heap.size + 1, 9, none⟩ = some (.int .u64 b.eo) := hP13.cell 9; have e3a3 : w13.cell? ⟨w.heap.size, 3, none⟩ = some (.slice nA1 a.nm.length nc1) := hO13.cell 3; have e3b3 : w13.cell? ⟨w.heap.size + 1, 3, none⟩ = some (.slice nA2 b.nm.length nc2) := hP13.cell 3; have e3a12 : w13.cell? ⟨w.heap.size, 12, none⟩ = some (.slice rA1 a.rs.length rc1) := hO13.cell 12; have e3b12 : w13.cell? ⟨w.heap.size + 1, 12, none⟩ = some (.slice rA2 b.rs.length rc2) := hP13.cell 12) | (go_at_call 24; (with_reducible refine (k4 _).mono ?_); rintro e w14 ⟨rfl, hb14⟩; have hO14 := hO13.same hb14; have hP14 := hP13.same hb14; have hB14 := hB13.trans (hb14.mono hB13.size); have hMA14 := hMA13.below hb14; have hMB14 := hMB13.below hb14; have e4a6 : w14.cell? ⟨w.heap.size, 6, none⟩ = some (.int .u64 a.sg) := hO14.cell 6; have e4b6 : w14.cell? ⟨w.heap.size + 1, 6, none⟩ = some (.int .u64 b.sg) := hP14.cell 6; have e4a7 : w14.cell? ⟨w.heap.size, 7, none⟩ = some (.int .u64 a.so) := hO14.cell 7; have e4b7 : w14.cell? ⟨w.heap.size + 1, 7, none⟩ = some (.int .u64 b.so) := hP14.cell 7; have e4a8 : w14.cell? ⟨w.heap.size, 8, none⟩ = some (.int .u64 a.eg) := hO14.cell 8; have e4b8 : w14.cell? ⟨w.heap.size + 1, 8, none⟩ = some (.int .u64 b.eg) := hP14.cell 8; have e4a9 : w14.cell? ⟨w.heap.size, 9, none⟩ = some (.int .u64 a.eo) := hO14.cell 9; have e4b9 : w14.cell? ⟨w.heap.size + 1, 9, none⟩ = some (.int .u64 b.eo) := hP14.cell 9; have e4a3 : w14.cell? ⟨w.heap.size, 3, none⟩ = some (.slice nA1 a.nm.length nc1) := hO14.cell 3; have e4b3 : w14.cell? ⟨w.heap.size + 1, 3, none⟩ = some (.slice nA2 b.nm.length nc2) := hP14.cell 3; have e4a12 : w14.cell? ⟨w.heap.size, 12, none⟩ = some (.slice rA1 a.rs.length rc1) := hO14.cell 12; have e4b12 : w14.cell? ⟨w.heap.size + 1, 12, none⟩ = some (.slice rA2 b.rs.length rc2) := hP14.cell 12) | (go_at_call 13; (with_reducible refine (q1 _ hMA14.nm hMB14.nm).mono ?_); rintro e w15 ⟨rfl, rfl⟩) | (go_at_call 13; (with_reducible refine (q2 _ hMA14.rs hMB14.rs).mono ?_); rintro e w16 ⟨rfl, rfl⟩))
                                go_ret
                                exact ⟨rfl, hB12⟩
                          · have hf : R = false := by
                              cases R with
                              | false => rfl
                              | true => have h1 := HR.out.1 rfl; have h2 := HL1.out; rw [h1, ltP_self] at h2; cases h2
                            as_aux_lemma =>
                              subst hf
                              go_wp2_with (first | (go_at_call 24; (with_reducible refine (k1 _).mono ?_); rintro e w11 ⟨rfl, hb11⟩; have hO11 := hOr.same hb11; have hP11 := hPr.same hb11; have hB11 := hb1r.trans (hb11.mono hb1r.size); have hMA11 := HMA.out.below hb11; have hMB11 := HMB.out.below hb11; have e1a6 : w11.cell? ⟨w.heap.size, 6, none⟩ = some (.int .u64 a.sg) := hO11.cell 6; have e1b6 : w11.cell? ⟨w.heap.size + 1, 6, none⟩ = some (.int .u64 b.sg) := hP11.cell 6; have e1a7 : w11.cell? ⟨w.heap.size, 7, none⟩ = some (.int .u64 a.so) := hO11.cell 7; have e1b7 : w11.cell? ⟨w.heap.size + 1, 7, none⟩ = some (.int .u64 b.so) := hP11.cell 7; have e1a8 : w11.cell? ⟨w.heap.size, 8, none⟩ = some (.int .u64 a.eg) := hO11.cell 8; have e1b8 : w11.cell? ⟨w.heap.size + 1, 8, none⟩ = some (.int .u64 b.eg) := hP11.cell 8; have e1a9 : w11.cell? ⟨w.heap.size, 9, none⟩ = some (.int .u64 a.eo) := hO11.cell 9; have e1b9 : w11.cell? ⟨w.heap.size + 1, 9, none⟩ = some (.int .u64 b.eo) := hP11.cell 9; have e1a3 : w11.cell? ⟨w.heap.size, 3, none⟩ = some (.slice nA1 a.nm.length nc1) := hO11.cell 3; have e1b3 : w11.cell? ⟨w.heap.size + 1, 3, none⟩ = some (.slice nA2 b.nm.length nc2) := hP11.cell 3; have e1a12 : w11.cell? ⟨w.heap.size, 12, none⟩ = some (.slice rA1 a.rs.length rc1) := hO11.cell 12; have e1b12 : w11.cell? ⟨w.heap.size + 1, 12, none⟩ = some (.slice rA2 b.rs.length rc2) := hP11.cell 12) | (go_at_call 24; (with_reducible refine (k2 _).mono ?_); rintro e w12 ⟨rfl, hb12⟩; have hO12 := hO11.same hb12; have hP12 := hP11.same hb12; have hB12 := hB11.trans (hb12.mono hB11.size); have hMA12 := hMA11.below hb12; have hMB12 := hMB11.below hb12; have e2a6 : w12.cell? ⟨w.heap.size, 6, none⟩ = some (.int .u64 a.sg) := hO12.cell 6; have e2b6 : w12.cell? ⟨w.heap.size + 1, 6, none⟩ = some (.int .u64 b.sg) := hP12.cell 6; have e2a7 : w12.cell? ⟨w.heap.size, 7, none⟩ = some (.int .u64 a.so) := hO12.cell 7; have e2b7 : w12.cell? ⟨w.heap.size + 1, 7, none⟩ = some (.int .u64 b.so) := hP12.cell 7; have e2a8 : w12.cell? ⟨w.heap.size, 8, none⟩ = some (.int .u64 a.eg) := hO12.cell 8; have e2b8 : w12.cell? ⟨w.heap.size + 1, 8, none⟩ = some (.int .u64 b.eg) := hP12.cell 8; have e2a9 : w12.cell? ⟨w.heap.size, 9, none⟩ = some (.int .u64 a.eo) := hO12.cell 9; have e2b9 : w12.cell? ⟨w.heap.size + 1, 9, none⟩ = some (.int .u64 b.eo) := hP12.cell 9; have e2a3 : w12.cell? ⟨w.heap.size, 3, none⟩ = some (.slice nA1 a.nm.length nc1) := hO12.cell 3; have e2b3 : w12.cell? ⟨w.heap.size + 1, 3, none⟩ = some (.slice nA2 b.nm.length nc2) := hP12.cell 3; have e2a12 : w12.cell? ⟨w.heap.size, 12, none⟩ = some (.slice rA1 a.rs.length rc1) := hO12.cell 12; have e2b12 : w12.cell? ⟨w.heap.size + 1, 12, none⟩ = some (.slice rA2 b.rs.length rc2) := hP12.cell 12) | (go_at_call 24; (with_reducible refine (k3 _).mono ?_); rintro e w13 ⟨rfl, hb13⟩; have hO13 := hO12.same hb13; have hP13 := hP12.same hb13; have hB13 := hB12.trans (hb13.mono hB12.size); have hMA13 := hMA12.below hb13; have hMB13 := hMB12.below hb13; have e3a6 : w13.cell? ⟨w.heap.size, 6, none⟩ = some (.int .u64 a.sg) := hO13.cell 6; have e3b6 : w13.cell? ⟨w.heap.size + 1, 6, none⟩ = some (.int .u64 b.sg) := hP13.cell 6; have e3a7 : w13.cell? ⟨w.heap.size, 7, none⟩ = some (.int .u64 a.so) := hO13.cell 7; have e3b7 : w13.cell? ⟨w.heap.size + 1, 7, none⟩ = some (.int .u64 b.so) := hP13.cell 7; have e3a8 : w13.cell? ⟨w.heap.size, 8, none⟩ = some (.int .u64 a.eg) := hO13.cell 8; have e3b8 : w13.cell? ⟨w.heap.size + 1, 8, none⟩ = some (.int .u64 b.eg) := hP13.cell 8; have e3a9 : w13.cell? ⟨w.heap.size, 9, none⟩ = some (.int .u64 a.eo) := hO13.cell 9; have e3b9 : w13.cell? ⟨w.heap.size + 1, 9, none⟩ = some (.int .u64 b.eo) := hP13.cell 9; have e3a3 : w13.cell? ⟨w.heap.size, 3, none⟩ = some (.slice nA1 a.nm.length nc1) := hO13.cell 3; have e3b3 : w13.cell? ⟨w.heap.size + 1, 3, none⟩ = some (.slice nA2 b.nm.length nc2) := hP13.cell 3; have e3a12 : w13.cell? ⟨w.heap.size, 12, none⟩ = some (.slice rA1 a.rs.length rc1) := hO13.cell 12; have e3b12 : w13.cell? ⟨w.heap.size + 1, 12, none⟩ = some (.slice rA2 b.rs.length rc2) := hP13.cell 12) | (go_at_call 24; (with_reducible refine (k4 _).mono ?_); rintro e w14 ⟨rfl, hb14⟩; have hO14 := hO13.same hb14; have hP14 := hP13.same hb14; have hB14 := hB13.trans (hb14.mono hB13.size); have hMA14 := hMA13.below hb14; have hMB14 := hMB13.below hb14; have e4a6 : w14.cell? ⟨w.heap.size, 6, none⟩ = some (.int .u64 a.sg) := hO14.cell 6; have e4b6 : w14.cell? ⟨w.heap.size + 1, 6, none⟩ = some (.int .u64 b.sg) := hP14.cell 6; have e4a7 : w14.cell? ⟨w.heap.size, 7, none⟩ = some (.int .u64 a.so) := hO14.cell 7; have e4b7 : w14.cell? ⟨w.heap.size + 1, 7, none⟩ = some (.int .u64 b.so) := hP14.cell 7; have e4a8 : w14.cell? ⟨w.heap.size, 8, none⟩ = some (.int .u64 a.eg) := hO14.cell 8; have e4b8 : w14.cell? ⟨w.heap.size + 1, 8, none⟩ = some (.int .u64 b.eg) := hP14.cell 8; have e4a9 : w14.cell? ⟨w.heap.size, 9, none⟩ = some (.int .u64 a.eo) := hO14.cell 9; have e4b9 : w14.cell? ⟨w.heap.size + 1, 9, none⟩ = some (.int .u64 b.eo) := hP14.cell 9; have e4a3 : w14.cell? ⟨w.heap.size, 3, none⟩ = some (.slice nA1 a.nm.length nc1) := hO14.cell 3; have e4b3 : w14.cell? ⟨w.heap.size + 1, 3, none⟩ = some (.slice nA2 b.nm.length nc2) := hP14.cell 3; have e4a12 : w14.cell? ⟨w.heap.size, 12, none⟩ = some (.slice rA1 a.rs.length rc1) := hO14.cell 12; have e4b12 : w14.cell? ⟨w.heap.size + 1, 12, none⟩ = some (.slice rA2 b.rs.length rc2) := hP14.cell 12) | (go_at_call 13; (with_reducible refine (q1 _ hMA14.nm hMB14.nm).mono ?_); rintro e w15 ⟨rfl, rfl⟩) | (go_at_call 13; (with_reducible refine (q2 _ hMA14.rs hMB14.rs).mono ?_); rintro e w16 ⟨rfl, rfl⟩))
                              go_ret
                              exact ⟨rfl, hB11⟩
                        · as_aux_lemma =>
                            have HNE := Lib.hid hne
                            have hne2 : (a.ve == b.ve) = false := by simpa using hne
                            have hf : R = false := by
                              cases R with
                              | false => rfl
                              | true => exact absurd (congrArg M.ve (HR.out.1 rfl)) HNE.out
                            subst hf
                            clear hne
                            go_wp2_with fail
                            go_ret
                            exact ⟨rfl, hb1r⟩
                      · as_aux_lemma =>
                          have HNE := Lib.hid hne
                          have hne2 : (a.n == b.n) = false := by simpa using hne
                          have hf : R = false := by
                            cases R with
                            | false => rfl
                            | true => exact absurd (congrArg M.n (HR.out.1 rfl)) HNE.out
                          subst hf
                          clear hne
                          go_wp2_with fail
                          go_ret
                          exact ⟨rfl, hb1r⟩
                    · as_aux_lemma =>
                        have HNE := Lib.hid hne
                        have hne2 : (a.cd == b.cd) = false := by simpa using hne
                        have hf : R = false := by
                          cases R with
                          | false => rfl
                          | true => exact absurd (congrArg M.cd (HR.out.1 rfl)) HNE.out
                        subst hf
                        clear hne
                        go_wp2_with fail
                        go_ret
                        exact ⟨rfl, hb1r⟩
                  · as_aux_lemma =>
                      have HNE := Lib.hid hne
                      have hne2 : (a.sm == b.sm) = false := by simpa using hne
                      have hf : R = false := by
                        cases R with
                        | false => rfl
                        | true => exact absurd (congrArg M.sm (HR.out.1 rfl)) HNE.out
                      subst hf
                      clear hne
                      go_wp2_with fail
                      go_ret
                      exact ⟨rfl, hb1r⟩
                · as_aux_lemma =>
                    have HNE := Lib.hid hne
                    have hne2 : (a.od == b.od) = false := by simpa using hne
                    have hf : R = false := by
                      cases R with
                      | false => rfl
                      | true => exact absurd (congrArg M.od (HR.out.1 rfl)) HNE.out
                    subst hf
                    clear hne
                    go_wp2_with fail
                    go_ret
                    exact ⟨rfl, hb1r⟩
              · as_aux_lemma =>
                  have HNE := Lib.hid hne
                  have hne2 : (a.pr == b.pr) = false := by simpa using hne
                  have hf : R = false := by
                    cases R with
                    | false => rfl
                    | true => exact absurd (congrArg M.pr (HR.out.1 rfl)) HNE.out
                  subst hf
                  clear hne
                  go_wp2_with fail
                  go_ret
                  exact ⟨rfl, hb1r⟩
            · as_aux_lemma =>
                have HNE := Lib.hid hne
                have hne2 : (a.al == b.al) = false := by simpa using hne
                have hf : R = false := by
                  cases R with
                  | false => rfl
                  | true => exact absurd (congrArg M.al (HR.out.1 rfl)) HNE.out
                subst hf
                clear hne
                go_wp2_with fail
                go_ret
                exact ⟨rfl, hb1r⟩
          · as_aux_lemma =>
              have HNE := Lib.hid hne
              have hne2 : (a.id == b.id) = false := by simpa using hne
              have hf : R = false := by
                cases R with
                | false => rfl
                | true => exact absurd (congrArg M.id (HR.out.1 rfl)) HNE.out
              subst hf
              clear hne
              go_wp2_with fail
              go_ret
              exact ⟨rfl, hb1r⟩
        · as_aux_lemma =>
            have HNE := Lib.hid hne
            have hne2 : (a.kd == b.kd) = false := by simpa using hne
            have hf : R = false := by
              cases R with
              | false => rfl
              | true => exact absurd (congrArg M.kd (HR.out.1 rfl)) HNE.out
            subst hf
            clear hne
            go_wp2_with fail
            go_ret
            exact ⟨rfl, hb1r⟩
  · have hf : R = false := by
      cases R with
      | false => rfl
      | true => exact absurd (congrArg (fun x => x.vs.length) (HR.out.1 rfl)) hl
    subst hf
    have hl2 : ((a.vs.length : Int) == (b.vs.length : Int)) = false := by simp; omega
    go_enter Tryd.func14, Tryd.ntmps14
    go_wp2_with fail
    go_ret
    exact ⟨rfl, hb0⟩

end Go.Proofs.YtjijmbpgfabgcaaDoor
