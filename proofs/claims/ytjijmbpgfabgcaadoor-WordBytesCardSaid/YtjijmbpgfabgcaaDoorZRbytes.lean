/-
  The reference's Bytes. No condition.
-/
import Derived.Test.YtjijmbpgfabgcaaDoorZRrighty
import Derived.Test.YtjijmbpgfabgcaaDoorZRnum
import Derived.Test.YtjijmbpgfabgcaaDoorZI
namespace Go.Proofs.YtjijmbpgfabgcaaDoor
open Go.RowKit
set_option linter.unusedVariables false
set_option linter.unusedSimpArgs false

theorem own_it_ne {w : World} {B e s n k pos : Nat} {v : Value} {xs : List Value} {L : List Int} (h : w.ownsRow B e s v n xs) (hi : ItAt w k L pos) : v.ownBlock ≠ some k := by
  rcases h.2 with ⟨rfl, _⟩ | ⟨g', cap, cur, rfl, _, hh, _⟩
  · simp [Value.ownBlock]
  · intro he
    have e1 : g' = k := by simpa [Value.ownBlock] using he
    exact hi.ne hh e1
theorem fb_take (m : M) (L : List Int) (pos : Nat) (h : pos < L.length) : fb m (L.take (pos + 1)) = fb m (L.take pos) ++ pieceL m (L.getD pos 0) := fold_take _ _ L pos h
set_option maxHeartbeats 4000000 in
set_option maxRecDepth 100000 in
theorem rbytes_no (m : M) (nv rv vv : Value) (w : World) (hM : MV w m nv rv vv) (h : m.Ok) (hf : m.Fit) (hR : ¬ Right m) :
    Calls Tryd.prog 12 #[.agg (m.cells nv rv vv)] w fun e w' => e = .returned (.tuple #[.slice none 0 0, .int .i64 4]) ∧ Below w.heap.size w w' := by
  obtain ⟨nA, nc, rfl⟩ := hM.nm.form
  obtain ⟨rA, rc, rfl⟩ := hM.rs.form
  obtain ⟨vA, vc, rfl⟩ := hM.vs.form
  have hO0 := Blk.new w 28 #[.int .u64 m.kd, .int .u64 m.id, .int .u64 m.al, .slice nA m.nm.length nc, .int .u8 m.pr, .int .u8 m.od, .int .u64 m.sg, .int .u64 m.so, .int .u64 m.eg, .int .u64 m.eo, .bool m.sm, .int .u64 m.cd, .slice rA m.rs.length rc, .int .u64 m.n, .int .u64 m.ve, .slice vA m.vs.length vc]
  have hB0 := (Below.refl w.heap.size w).alloc (Nat.le_refl _) (.cells #[.int .u64 m.kd, .int .u64 m.id, .int .u64 m.al, .slice nA m.nm.length nc, .int .u8 m.pr, .int .u8 m.od, .int .u64 m.sg, .int .u64 m.so, .int .u64 m.eg, .int .u64 m.eo, .bool m.sm, .int .u64 m.cd, .slice rA m.rs.length rc, .int .u64 m.n, .int .u64 m.ve, .slice vA m.vs.length vc] 28)
  have a0 : World.cell? (w.alloc (.cells #[.int .u64 m.kd, .int .u64 m.id, .int .u64 m.al, .slice nA m.nm.length nc, .int .u8 m.pr, .int .u8 m.od, .int .u64 m.sg, .int .u64 m.so, .int .u64 m.eg, .int .u64 m.eo, .bool m.sm, .int .u64 m.cd, .slice rA m.rs.length rc, .int .u64 m.n, .int .u64 m.ve, .slice vA m.vs.length vc] 28)) ⟨w.heap.size, 0, none⟩ = some (.int .u64 m.kd) := hO0.cell 0
  have a1 : World.cell? (w.alloc (.cells #[.int .u64 m.kd, .int .u64 m.id, .int .u64 m.al, .slice nA m.nm.length nc, .int .u8 m.pr, .int .u8 m.od, .int .u64 m.sg, .int .u64 m.so, .int .u64 m.eg, .int .u64 m.eo, .bool m.sm, .int .u64 m.cd, .slice rA m.rs.length rc, .int .u64 m.n, .int .u64 m.ve, .slice vA m.vs.length vc] 28)) ⟨w.heap.size, 1, none⟩ = some (.int .u64 m.id) := hO0.cell 1
  have a2 : World.cell? (w.alloc (.cells #[.int .u64 m.kd, .int .u64 m.id, .int .u64 m.al, .slice nA m.nm.length nc, .int .u8 m.pr, .int .u8 m.od, .int .u64 m.sg, .int .u64 m.so, .int .u64 m.eg, .int .u64 m.eo, .bool m.sm, .int .u64 m.cd, .slice rA m.rs.length rc, .int .u64 m.n, .int .u64 m.ve, .slice vA m.vs.length vc] 28)) ⟨w.heap.size, 2, none⟩ = some (.int .u64 m.al) := hO0.cell 2
  have a3 : World.cell? (w.alloc (.cells #[.int .u64 m.kd, .int .u64 m.id, .int .u64 m.al, .slice nA m.nm.length nc, .int .u8 m.pr, .int .u8 m.od, .int .u64 m.sg, .int .u64 m.so, .int .u64 m.eg, .int .u64 m.eo, .bool m.sm, .int .u64 m.cd, .slice rA m.rs.length rc, .int .u64 m.n, .int .u64 m.ve, .slice vA m.vs.length vc] 28)) ⟨w.heap.size, 3, none⟩ = some (.slice nA m.nm.length nc) := hO0.cell 3
  have a4 : World.cell? (w.alloc (.cells #[.int .u64 m.kd, .int .u64 m.id, .int .u64 m.al, .slice nA m.nm.length nc, .int .u8 m.pr, .int .u8 m.od, .int .u64 m.sg, .int .u64 m.so, .int .u64 m.eg, .int .u64 m.eo, .bool m.sm, .int .u64 m.cd, .slice rA m.rs.length rc, .int .u64 m.n, .int .u64 m.ve, .slice vA m.vs.length vc] 28)) ⟨w.heap.size, 4, none⟩ = some (.int .u8 m.pr) := hO0.cell 4
  have a5 : World.cell? (w.alloc (.cells #[.int .u64 m.kd, .int .u64 m.id, .int .u64 m.al, .slice nA m.nm.length nc, .int .u8 m.pr, .int .u8 m.od, .int .u64 m.sg, .int .u64 m.so, .int .u64 m.eg, .int .u64 m.eo, .bool m.sm, .int .u64 m.cd, .slice rA m.rs.length rc, .int .u64 m.n, .int .u64 m.ve, .slice vA m.vs.length vc] 28)) ⟨w.heap.size, 5, none⟩ = some (.int .u8 m.od) := hO0.cell 5
  have a6 : World.cell? (w.alloc (.cells #[.int .u64 m.kd, .int .u64 m.id, .int .u64 m.al, .slice nA m.nm.length nc, .int .u8 m.pr, .int .u8 m.od, .int .u64 m.sg, .int .u64 m.so, .int .u64 m.eg, .int .u64 m.eo, .bool m.sm, .int .u64 m.cd, .slice rA m.rs.length rc, .int .u64 m.n, .int .u64 m.ve, .slice vA m.vs.length vc] 28)) ⟨w.heap.size, 6, none⟩ = some (.int .u64 m.sg) := hO0.cell 6
  have a7 : World.cell? (w.alloc (.cells #[.int .u64 m.kd, .int .u64 m.id, .int .u64 m.al, .slice nA m.nm.length nc, .int .u8 m.pr, .int .u8 m.od, .int .u64 m.sg, .int .u64 m.so, .int .u64 m.eg, .int .u64 m.eo, .bool m.sm, .int .u64 m.cd, .slice rA m.rs.length rc, .int .u64 m.n, .int .u64 m.ve, .slice vA m.vs.length vc] 28)) ⟨w.heap.size, 7, none⟩ = some (.int .u64 m.so) := hO0.cell 7
  have a8 : World.cell? (w.alloc (.cells #[.int .u64 m.kd, .int .u64 m.id, .int .u64 m.al, .slice nA m.nm.length nc, .int .u8 m.pr, .int .u8 m.od, .int .u64 m.sg, .int .u64 m.so, .int .u64 m.eg, .int .u64 m.eo, .bool m.sm, .int .u64 m.cd, .slice rA m.rs.length rc, .int .u64 m.n, .int .u64 m.ve, .slice vA m.vs.length vc] 28)) ⟨w.heap.size, 8, none⟩ = some (.int .u64 m.eg) := hO0.cell 8
  have a9 : World.cell? (w.alloc (.cells #[.int .u64 m.kd, .int .u64 m.id, .int .u64 m.al, .slice nA m.nm.length nc, .int .u8 m.pr, .int .u8 m.od, .int .u64 m.sg, .int .u64 m.so, .int .u64 m.eg, .int .u64 m.eo, .bool m.sm, .int .u64 m.cd, .slice rA m.rs.length rc, .int .u64 m.n, .int .u64 m.ve, .slice vA m.vs.length vc] 28)) ⟨w.heap.size, 9, none⟩ = some (.int .u64 m.eo) := hO0.cell 9
  have a10 : World.cell? (w.alloc (.cells #[.int .u64 m.kd, .int .u64 m.id, .int .u64 m.al, .slice nA m.nm.length nc, .int .u8 m.pr, .int .u8 m.od, .int .u64 m.sg, .int .u64 m.so, .int .u64 m.eg, .int .u64 m.eo, .bool m.sm, .int .u64 m.cd, .slice rA m.rs.length rc, .int .u64 m.n, .int .u64 m.ve, .slice vA m.vs.length vc] 28)) ⟨w.heap.size, 10, none⟩ = some (.bool m.sm) := hO0.cell 10
  have a11 : World.cell? (w.alloc (.cells #[.int .u64 m.kd, .int .u64 m.id, .int .u64 m.al, .slice nA m.nm.length nc, .int .u8 m.pr, .int .u8 m.od, .int .u64 m.sg, .int .u64 m.so, .int .u64 m.eg, .int .u64 m.eo, .bool m.sm, .int .u64 m.cd, .slice rA m.rs.length rc, .int .u64 m.n, .int .u64 m.ve, .slice vA m.vs.length vc] 28)) ⟨w.heap.size, 11, none⟩ = some (.int .u64 m.cd) := hO0.cell 11
  have a12 : World.cell? (w.alloc (.cells #[.int .u64 m.kd, .int .u64 m.id, .int .u64 m.al, .slice nA m.nm.length nc, .int .u8 m.pr, .int .u8 m.od, .int .u64 m.sg, .int .u64 m.so, .int .u64 m.eg, .int .u64 m.eo, .bool m.sm, .int .u64 m.cd, .slice rA m.rs.length rc, .int .u64 m.n, .int .u64 m.ve, .slice vA m.vs.length vc] 28)) ⟨w.heap.size, 12, none⟩ = some (.slice rA m.rs.length rc) := hO0.cell 12
  have a13 : World.cell? (w.alloc (.cells #[.int .u64 m.kd, .int .u64 m.id, .int .u64 m.al, .slice nA m.nm.length nc, .int .u8 m.pr, .int .u8 m.od, .int .u64 m.sg, .int .u64 m.so, .int .u64 m.eg, .int .u64 m.eo, .bool m.sm, .int .u64 m.cd, .slice rA m.rs.length rc, .int .u64 m.n, .int .u64 m.ve, .slice vA m.vs.length vc] 28)) ⟨w.heap.size, 13, none⟩ = some (.int .u64 m.n) := hO0.cell 13
  have a14 : World.cell? (w.alloc (.cells #[.int .u64 m.kd, .int .u64 m.id, .int .u64 m.al, .slice nA m.nm.length nc, .int .u8 m.pr, .int .u8 m.od, .int .u64 m.sg, .int .u64 m.so, .int .u64 m.eg, .int .u64 m.eo, .bool m.sm, .int .u64 m.cd, .slice rA m.rs.length rc, .int .u64 m.n, .int .u64 m.ve, .slice vA m.vs.length vc] 28)) ⟨w.heap.size, 14, none⟩ = some (.int .u64 m.ve) := hO0.cell 14
  have a15 : World.cell? (w.alloc (.cells #[.int .u64 m.kd, .int .u64 m.id, .int .u64 m.al, .slice nA m.nm.length nc, .int .u8 m.pr, .int .u8 m.od, .int .u64 m.sg, .int .u64 m.so, .int .u64 m.eg, .int .u64 m.eo, .bool m.sm, .int .u64 m.cd, .slice rA m.rs.length rc, .int .u64 m.n, .int .u64 m.ve, .slice vA m.vs.length vc] 28)) ⟨w.heap.size, 15, none⟩ = some (.slice vA m.vs.length vc) := hO0.cell 15
  have hrt := rright_all m _ _ _ _ (hM.below hB0) h hf false ⟨(fun e => by cases e), fun e => absurd e hR⟩
  clear hR
  go_enter Tryd.func12, Tryd.ntmps12
  go_wp2_with fail
  (with_reducible refine hrt.mono ?_)
  rintro e w1 ⟨rfl, hb1⟩
  go_wp2_with fail
  go_ret2
  exact ⟨rfl, hB0.trans (hb1.mono hB0.size)⟩
theorem own_apart {v u : Value} {K : Nat} (hlo : ∀ b, v.ownBlock = some b → b < K) (hhi : ∀ b, u.ownBlock = some b → K ≤ b) : u.ownBlock = none ∨ v.ownBlock ≠ u.ownBlock := by
  rcases hu : u.ownBlock with _ | b
  · exact .inl rfl
  · exact .inr fun e => by have h1 := hlo b e; have h2 := hhi b hu; omega
set_option maxHeartbeats 4000000 in
set_option maxRecDepth 100000 in
theorem rbytes_yes (m : M) (nv rv vv : Value) (w : World) (hM : MV w m nv rv vv) (h : m.Ok) (hf : m.Fit) (hR : Right m) :
    Calls Tryd.prog 12 #[.agg (m.cells nv rv vv)] w fun e w' => ∃ v, e = .returned (.tuple #[v, .int .i64 0]) ∧ w'.ownsRow w.heap.size 5 1 v (bts m).length ((bts m).map (Value.int .u8)) ∧ Below w.heap.size w w' := by
  obtain ⟨i0, hi0, hz0, hz1, hz2⟩ := info_parts infoB
  obtain ⟨nA, nc, rfl⟩ := hM.nm.form
  obtain ⟨rA, rc, rfl⟩ := hM.rs.form
  obtain ⟨vA, vc, rfl⟩ := hM.vs.form
  have hO0 := Blk.new w 28 #[.int .u64 m.kd, .int .u64 m.id, .int .u64 m.al, .slice nA m.nm.length nc, .int .u8 m.pr, .int .u8 m.od, .int .u64 m.sg, .int .u64 m.so, .int .u64 m.eg, .int .u64 m.eo, .bool m.sm, .int .u64 m.cd, .slice rA m.rs.length rc, .int .u64 m.n, .int .u64 m.ve, .slice vA m.vs.length vc]
  have hB0 := (Below.refl w.heap.size w).alloc (Nat.le_refl _) (.cells #[.int .u64 m.kd, .int .u64 m.id, .int .u64 m.al, .slice nA m.nm.length nc, .int .u8 m.pr, .int .u8 m.od, .int .u64 m.sg, .int .u64 m.so, .int .u64 m.eg, .int .u64 m.eo, .bool m.sm, .int .u64 m.cd, .slice rA m.rs.length rc, .int .u64 m.n, .int .u64 m.ve, .slice vA m.vs.length vc] 28)
  have a0 : World.cell? (w.alloc (.cells #[.int .u64 m.kd, .int .u64 m.id, .int .u64 m.al, .slice nA m.nm.length nc, .int .u8 m.pr, .int .u8 m.od, .int .u64 m.sg, .int .u64 m.so, .int .u64 m.eg, .int .u64 m.eo, .bool m.sm, .int .u64 m.cd, .slice rA m.rs.length rc, .int .u64 m.n, .int .u64 m.ve, .slice vA m.vs.length vc] 28)) ⟨w.heap.size, 0, none⟩ = some (.int .u64 m.kd) := hO0.cell 0
  have a1 : World.cell? (w.alloc (.cells #[.int .u64 m.kd, .int .u64 m.id, .int .u64 m.al, .slice nA m.nm.length nc, .int .u8 m.pr, .int .u8 m.od, .int .u64 m.sg, .int .u64 m.so, .int .u64 m.eg, .int .u64 m.eo, .bool m.sm, .int .u64 m.cd, .slice rA m.rs.length rc, .int .u64 m.n, .int .u64 m.ve, .slice vA m.vs.length vc] 28)) ⟨w.heap.size, 1, none⟩ = some (.int .u64 m.id) := hO0.cell 1
  have a2 : World.cell? (w.alloc (.cells #[.int .u64 m.kd, .int .u64 m.id, .int .u64 m.al, .slice nA m.nm.length nc, .int .u8 m.pr, .int .u8 m.od, .int .u64 m.sg, .int .u64 m.so, .int .u64 m.eg, .int .u64 m.eo, .bool m.sm, .int .u64 m.cd, .slice rA m.rs.length rc, .int .u64 m.n, .int .u64 m.ve, .slice vA m.vs.length vc] 28)) ⟨w.heap.size, 2, none⟩ = some (.int .u64 m.al) := hO0.cell 2
  have a3 : World.cell? (w.alloc (.cells #[.int .u64 m.kd, .int .u64 m.id, .int .u64 m.al, .slice nA m.nm.length nc, .int .u8 m.pr, .int .u8 m.od, .int .u64 m.sg, .int .u64 m.so, .int .u64 m.eg, .int .u64 m.eo, .bool m.sm, .int .u64 m.cd, .slice rA m.rs.length rc, .int .u64 m.n, .int .u64 m.ve, .slice vA m.vs.length vc] 28)) ⟨w.heap.size, 3, none⟩ = some (.slice nA m.nm.length nc) := hO0.cell 3
  have a4 : World.cell? (w.alloc (.cells #[.int .u64 m.kd, .int .u64 m.id, .int .u64 m.al, .slice nA m.nm.length nc, .int .u8 m.pr, .int .u8 m.od, .int .u64 m.sg, .int .u64 m.so, .int .u64 m.eg, .int .u64 m.eo, .bool m.sm, .int .u64 m.cd, .slice rA m.rs.length rc, .int .u64 m.n, .int .u64 m.ve, .slice vA m.vs.length vc] 28)) ⟨w.heap.size, 4, none⟩ = some (.int .u8 m.pr) := hO0.cell 4
  have a5 : World.cell? (w.alloc (.cells #[.int .u64 m.kd, .int .u64 m.id, .int .u64 m.al, .slice nA m.nm.length nc, .int .u8 m.pr, .int .u8 m.od, .int .u64 m.sg, .int .u64 m.so, .int .u64 m.eg, .int .u64 m.eo, .bool m.sm, .int .u64 m.cd, .slice rA m.rs.length rc, .int .u64 m.n, .int .u64 m.ve, .slice vA m.vs.length vc] 28)) ⟨w.heap.size, 5, none⟩ = some (.int .u8 m.od) := hO0.cell 5
  have a6 : World.cell? (w.alloc (.cells #[.int .u64 m.kd, .int .u64 m.id, .int .u64 m.al, .slice nA m.nm.length nc, .int .u8 m.pr, .int .u8 m.od, .int .u64 m.sg, .int .u64 m.so, .int .u64 m.eg, .int .u64 m.eo, .bool m.sm, .int .u64 m.cd, .slice rA m.rs.length rc, .int .u64 m.n, .int .u64 m.ve, .slice vA m.vs.length vc] 28)) ⟨w.heap.size, 6, none⟩ = some (.int .u64 m.sg) := hO0.cell 6
  have a7 : World.cell? (w.alloc (.cells #[.int .u64 m.kd, .int .u64 m.id, .int .u64 m.al, .slice nA m.nm.length nc, .int .u8 m.pr, .int .u8 m.od, .int .u64 m.sg, .int .u64 m.so, .int .u64 m.eg, .int .u64 m.eo, .bool m.sm, .int .u64 m.cd, .slice rA m.rs.length rc, .int .u64 m.n, .int .u64 m.ve, .slice vA m.vs.length vc] 28)) ⟨w.heap.size, 7, none⟩ = some (.int .u64 m.so) := hO0.cell 7
  have a8 : World.cell? (w.alloc (.cells #[.int .u64 m.kd, .int .u64 m.id, .int .u64 m.al, .slice nA m.nm.length nc, .int .u8 m.pr, .int .u8 m.od, .int .u64 m.sg, .int .u64 m.so, .int .u64 m.eg, .int .u64 m.eo, .bool m.sm, .int .u64 m.cd, .slice rA m.rs.length rc, .int .u64 m.n, .int .u64 m.ve, .slice vA m.vs.length vc] 28)) ⟨w.heap.size, 8, none⟩ = some (.int .u64 m.eg) := hO0.cell 8
  have a9 : World.cell? (w.alloc (.cells #[.int .u64 m.kd, .int .u64 m.id, .int .u64 m.al, .slice nA m.nm.length nc, .int .u8 m.pr, .int .u8 m.od, .int .u64 m.sg, .int .u64 m.so, .int .u64 m.eg, .int .u64 m.eo, .bool m.sm, .int .u64 m.cd, .slice rA m.rs.length rc, .int .u64 m.n, .int .u64 m.ve, .slice vA m.vs.length vc] 28)) ⟨w.heap.size, 9, none⟩ = some (.int .u64 m.eo) := hO0.cell 9
  have a10 : World.cell? (w.alloc (.cells #[.int .u64 m.kd, .int .u64 m.id, .int .u64 m.al, .slice nA m.nm.length nc, .int .u8 m.pr, .int .u8 m.od, .int .u64 m.sg, .int .u64 m.so, .int .u64 m.eg, .int .u64 m.eo, .bool m.sm, .int .u64 m.cd, .slice rA m.rs.length rc, .int .u64 m.n, .int .u64 m.ve, .slice vA m.vs.length vc] 28)) ⟨w.heap.size, 10, none⟩ = some (.bool m.sm) := hO0.cell 10
  have a11 : World.cell? (w.alloc (.cells #[.int .u64 m.kd, .int .u64 m.id, .int .u64 m.al, .slice nA m.nm.length nc, .int .u8 m.pr, .int .u8 m.od, .int .u64 m.sg, .int .u64 m.so, .int .u64 m.eg, .int .u64 m.eo, .bool m.sm, .int .u64 m.cd, .slice rA m.rs.length rc, .int .u64 m.n, .int .u64 m.ve, .slice vA m.vs.length vc] 28)) ⟨w.heap.size, 11, none⟩ = some (.int .u64 m.cd) := hO0.cell 11
  have a12 : World.cell? (w.alloc (.cells #[.int .u64 m.kd, .int .u64 m.id, .int .u64 m.al, .slice nA m.nm.length nc, .int .u8 m.pr, .int .u8 m.od, .int .u64 m.sg, .int .u64 m.so, .int .u64 m.eg, .int .u64 m.eo, .bool m.sm, .int .u64 m.cd, .slice rA m.rs.length rc, .int .u64 m.n, .int .u64 m.ve, .slice vA m.vs.length vc] 28)) ⟨w.heap.size, 12, none⟩ = some (.slice rA m.rs.length rc) := hO0.cell 12
  have a13 : World.cell? (w.alloc (.cells #[.int .u64 m.kd, .int .u64 m.id, .int .u64 m.al, .slice nA m.nm.length nc, .int .u8 m.pr, .int .u8 m.od, .int .u64 m.sg, .int .u64 m.so, .int .u64 m.eg, .int .u64 m.eo, .bool m.sm, .int .u64 m.cd, .slice rA m.rs.length rc, .int .u64 m.n, .int .u64 m.ve, .slice vA m.vs.length vc] 28)) ⟨w.heap.size, 13, none⟩ = some (.int .u64 m.n) := hO0.cell 13
  have a14 : World.cell? (w.alloc (.cells #[.int .u64 m.kd, .int .u64 m.id, .int .u64 m.al, .slice nA m.nm.length nc, .int .u8 m.pr, .int .u8 m.od, .int .u64 m.sg, .int .u64 m.so, .int .u64 m.eg, .int .u64 m.eo, .bool m.sm, .int .u64 m.cd, .slice rA m.rs.length rc, .int .u64 m.n, .int .u64 m.ve, .slice vA m.vs.length vc] 28)) ⟨w.heap.size, 14, none⟩ = some (.int .u64 m.ve) := hO0.cell 14
  have a15 : World.cell? (w.alloc (.cells #[.int .u64 m.kd, .int .u64 m.id, .int .u64 m.al, .slice nA m.nm.length nc, .int .u8 m.pr, .int .u8 m.od, .int .u64 m.sg, .int .u64 m.so, .int .u64 m.eg, .int .u64 m.eo, .bool m.sm, .int .u64 m.cd, .slice rA m.rs.length rc, .int .u64 m.n, .int .u64 m.ve, .slice vA m.vs.length vc] 28)) ⟨w.heap.size, 15, none⟩ = some (.slice vA m.vs.length vc) := hO0.cell 15
  have hrt := rright_all m _ _ _ _ (hM.below hB0) h hf true ⟨fun _ => hR, fun _ => rfl⟩
  have hk := hR.1
  obtain ⟨hLe0, hLL0⟩ := letters hk
  have hsh := rshape_all m.kd
  have hlen := right_len hR
  have hbts : bts m = vform m.kd (vsz m.kd) ++ [((fb m (shP (prt m.kd).1)).length : Int) / 256, ((fb m (shP (prt m.kd).1)).length : Int) % 256] ++ fb m (shP (prt m.kd).1) := rfl
  have hkd := prt_kd hk
  rw [← hLe0] at hlen hbts
  have hok : ∀ c ∈ shK m.kd, okL m c = true := fun c hc => hR.2.2.2.2 c (by rw [← hLe0]; exact hc)
  have hs := hR.2.2.2.1
  have hr64 := hR.2.2.1
  have hv8 := right_vs hR
  have hl7 : (shK m.kd).length ≤ 7 := by rw [hLe0]; exact shP_len _ (prt_mem _ hk)
  obtain ⟨L, hL⟩ : ∃ L, L = shK m.kd := ⟨_, rfl⟩
  rw [← hL] at hsh hok hLL0 hlen hbts hl7
  have HOKL := Lib.hid hok
  have hLL := hLL0
  have HBTS := Lib.hid hbts
  have HLEN := Lib.hid hlen
  clear hok hLL0 hL hLe0 hk hR hlen hbts
  have hRS := fun (W : World) (hb : Below w.heap.size w W) => hM.below hb
  have hRS2 := hRS
  clear hM
  go_enter Tryd.func12, Tryd.ntmps12
  go_wp2_with fail
  (with_reducible refine hrt.mono ?_)
  clear hrt
  rintro e w1 ⟨rfl, hb1⟩
  have hO1 := hO0.same hb1
  have hB1 := hB0.trans (hb1.mono hB0.size)
  clear hO0 hB0 hb1 a0 a1 a2 a3 a4 a5 a6 a7 a8 a9 a10 a11 a12 a13 a14 a15
  have c0 : World.cell? w1 ⟨w.heap.size, 0, none⟩ = some (.int .u64 m.kd) := hO1.cell 0
  go_wp2_with fail
  (with_reducible refine (hsh _).mono ?_)
  clear hsh
  rintro e w2 ⟨rfl, rfl⟩
  go_wp2_with fail
  have hI0 := ItAt.new w1 L
  have hO2 := hO1.alloc (.stringIter (sbs L) 0)
  have hB2 := hB1.alloc hB1.size (.stringIter (sbs L) 0)
  have hmi : some w.heap.size ≠ some w1.heap.size := by have := hO1.lt; simp; omega
  have hiw := hB1.size
  clear hO1 hB1 c0
  go_loopg [4] L.length (fun gk s4 wr => ∃ pos, gk = L.length - pos ∧ pos ≤ L.length ∧ wr.ownsRow w.heap.size 5 1 s4 (fb m (L.take pos)).length ((fb m (L.take pos)).map (Value.int .u8)) ∧ ItAt wr w1.heap.size L pos ∧ Blk wr w.heap.size 28 #[.int .u64 m.kd, .int .u64 m.id, .int .u64 m.al, .slice nA m.nm.length nc, .int .u8 m.pr, .int .u8 m.od, .int .u64 m.sg, .int .u64 m.so, .int .u64 m.eg, .int .u64 m.eo, .bool m.sm, .int .u64 m.cd, .slice rA m.rs.length rc, .int .u64 m.n, .int .u64 m.ve, .slice vA m.vs.length vc] ∧ Below w.heap.size w wr)
  case atStart => exact ⟨0, rfl, Nat.zero_le _, (by simpa [fb] using World.ownsRow_nil _ _ _ _), hI0, hO2, hB2⟩
  case round =>
    clear hI0 hO2 hB2
    obtain ⟨pos, hgk, hpl, hP, hit, hO, hB⟩ := hrel
    by_cases hlt : pos < L.length
    · obtain ⟨wi, c, hc, hcm, hnx, hit1, hgi⟩ := hit.next (P := Tryd.prog) hlt hLL
      replace hP := own_grown hP hgi (.inr (own_it_ne hP hit))
      replace hO := hO.grown hgi hmi
      replace hB := hB.grown hgi hB.size (fun k hk => by simp only [Option.some.injEq] at hk; omega)
      replace hit := hit1
      have hcl9 := hLL c hcm
      have hcl := hcl9
      clear hit1 hgi
      have hJl : (fb m (L.take pos)).length ≤ 560 := by have := fb_len m hs hr64 (L.take pos) (fun c hc => ⟨hLL c (List.mem_of_mem_take hc), HOKL.out c (List.mem_of_mem_take hc)⟩); rw [List.length_take] at this; omega
      obtain ⟨J, hJ⟩ : ∃ J, J = fb m (L.take pos) := ⟨_, rfl⟩
      rw [← hJ] at hP hJl
      have HJ := Lib.hid hJ
      obtain ⟨AJ, cJ, rfl, -⟩ := sl_of_own hP
      simp only [LETS, List.mem_cons, List.not_mem_nil, or_false] at hcl
      have HHC := Lib.hid hc
      have HCM := Lib.hid hcm
      clear hc hcm hJ
      rcases hcl with rfl | rfl | rfl | rfl | rfl | rfl | rfl | rfl | rfl | rfl | rfl | rfl | rfl | rfl
      · have hql := piece_len m 105 hcl9 hs hr64 (HOKL.out 105 HCM.out)
        have hft := fb_take m L pos hlt
        rw [HHC.out] at hft
        rw [piece_105] at hql hft
        rw [← HJ.out] at hft
        obtain ⟨q, hq⟩ : ∃ q, q = joinN [m.id] := ⟨_, rfl⟩
        rw [← hq] at hql hft
        have HQ := Lib.hid hq
        have HFT := Lib.hid hft
        clear hq hft
        have hbd1 : J.length + q.length ≤ maxLen := by unfold maxLen; omega
        have hbd2 : (J.length + q.length) * 1 ≤ 140737488355328 := by omega
        have c1 : World.cell? wi ⟨w.heap.size, 1, none⟩ = some (.int .u64 m.id) := hO.cell 1
        have hlit : Rd (wi.alloc (.cells #[.int .u64 m.id] 22)) .u64 (.slice (some ⟨wi.heap.size, 0, none⟩) 1 1) [m.id] := rd_lit wi [m.id] (by simp)
        have hnum := rnums [m.id] _ _ hlit (by simp) (fun x hx => by simp only [List.mem_cons, List.not_mem_nil, or_false] at hx; subst hx; exact h.id) (fun x hx => vsz_some (hs x (by simp only [List.mem_cons, List.not_mem_nil, or_false] at hx; subst hx; simp)))
        rw [← HQ.out] at hnum
        have hba : Below wi.heap.size wi (wi.alloc (.cells #[.int .u64 m.id] 22)) := (Below.refl _ _).alloc (Nat.le_refl _) _
        clear hlit
        go_wp2_with fail
        (with_reducible refine hnum.mono ?_)
        clear hnum
        rintro e w3 ⟨u, rfl, ho, hb3⟩
        have hb := hba.trans (hb3.mono hba.size)
        have hPw := own_same hP hb
        have hitw := hit.below hb
        have hOw := hO.same hb
        have hBw := hB.trans (hb.mono hB.size)
        have hBs := hBw.size
        have r1 := rd_of_own (k := .u8) ho
        obtain ⟨A1, cap1, rfl⟩ := r1.form
        have H1 := Lib.hid r1.rdv
        clear r1 ho hb3 hba hb hP hit hO hB c1
        go_wp2_with (at_builtin; refine wpList_append_any _ rfl _ _ 23 rfl w.heap.size 5 i0 _ 1 1 Tryd.underlying23 hi0 hz0 hz1 hz2 rfl (by decide) _ J.length _ rfl hPw A1 q.length cap1 _ rfl H1.out.2.2.2.2 (oneInts _ _) hbd1 hbd2 hBs H1.out.2.1 ?_; intro v5 w5 hown5 hgrow5 hat5; obtain ⟨A5, c5, e5, -⟩ := sl_of_own hown5; subst e5)
        have hit9 := hitw.kept hgrow5 (fun e => own_it_ne hPw hitw e.symm)
        have hO9 := hOw.grown hgrow5 (fun e => own_blk_ne hPw hOw (by decide) e.symm)
        have hB9 := hBw.grown hgrow5 hBw.size (fun b hb => (hPw.lt b hb).1)
        go_roundg (L.length - (pos + 1))
        case measure => omega
        case rel => exact ⟨pos + 1, rfl, hlt, (by rw [HFT.out, List.length_append, List.map_append]; exact hown5), hit9, hO9, hB9⟩
      · have hql := piece_len m 97 hcl9 hs hr64 (HOKL.out 97 HCM.out)
        have hft := fb_take m L pos hlt
        rw [HHC.out] at hft
        rw [piece_97] at hql hft
        rw [← HJ.out] at hft
        obtain ⟨q, hq⟩ : ∃ q, q = joinN [m.al] := ⟨_, rfl⟩
        rw [← hq] at hql hft
        have HQ := Lib.hid hq
        have HFT := Lib.hid hft
        clear hq hft
        have hbd1 : J.length + q.length ≤ maxLen := by unfold maxLen; omega
        have hbd2 : (J.length + q.length) * 1 ≤ 140737488355328 := by omega
        have c2 : World.cell? wi ⟨w.heap.size, 2, none⟩ = some (.int .u64 m.al) := hO.cell 2
        have hlit : Rd (wi.alloc (.cells #[.int .u64 m.al] 22)) .u64 (.slice (some ⟨wi.heap.size, 0, none⟩) 1 1) [m.al] := rd_lit wi [m.al] (by simp)
        have hnum := rnums [m.al] _ _ hlit (by simp) (fun x hx => by simp only [List.mem_cons, List.not_mem_nil, or_false] at hx; subst hx; exact h.al) (fun x hx => vsz_some (hs x (by simp only [List.mem_cons, List.not_mem_nil, or_false] at hx; subst hx; simp)))
        rw [← HQ.out] at hnum
        have hba : Below wi.heap.size wi (wi.alloc (.cells #[.int .u64 m.al] 22)) := (Below.refl _ _).alloc (Nat.le_refl _) _
        clear hlit
        go_wp2_with fail
        (with_reducible refine hnum.mono ?_)
        clear hnum
        rintro e w3 ⟨u, rfl, ho, hb3⟩
        have hb := hba.trans (hb3.mono hba.size)
        have hPw := own_same hP hb
        have hitw := hit.below hb
        have hOw := hO.same hb
        have hBw := hB.trans (hb.mono hB.size)
        have hBs := hBw.size
        have r1 := rd_of_own (k := .u8) ho
        obtain ⟨A1, cap1, rfl⟩ := r1.form
        have H1 := Lib.hid r1.rdv
        clear r1 ho hb3 hba hb hP hit hO hB c2
        go_wp2_with (at_builtin; refine wpList_append_any _ rfl _ _ 23 rfl w.heap.size 5 i0 _ 1 1 Tryd.underlying23 hi0 hz0 hz1 hz2 rfl (by decide) _ J.length _ rfl hPw A1 q.length cap1 _ rfl H1.out.2.2.2.2 (oneInts _ _) hbd1 hbd2 hBs H1.out.2.1 ?_; intro v5 w5 hown5 hgrow5 hat5; obtain ⟨A5, c5, e5, -⟩ := sl_of_own hown5; subst e5)
        have hit9 := hitw.kept hgrow5 (fun e => own_it_ne hPw hitw e.symm)
        have hO9 := hOw.grown hgrow5 (fun e => own_blk_ne hPw hOw (by decide) e.symm)
        have hB9 := hBw.grown hgrow5 hBw.size (fun b hb => (hPw.lt b hb).1)
        go_roundg (L.length - (pos + 1))
        case measure => omega
        case rel => exact ⟨pos + 1, rfl, hlt, (by rw [HFT.out, List.length_append, List.map_append]; exact hown5), hit9, hO9, hB9⟩
      · have hql := piece_len m 116 hcl9 hs hr64 (HOKL.out 116 HCM.out)
        have hft := fb_take m L pos hlt
        rw [HHC.out] at hft
        rw [piece_116] at hql hft
        rw [← HJ.out] at hft
        obtain ⟨q, hq⟩ : ∃ q, q = txtB m.nm := ⟨_, rfl⟩
        rw [← hq] at hql hft
        have HQ := Lib.hid hq
        have HFT := Lib.hid hft
        clear hq hft
        have hbd1 : J.length + q.length ≤ maxLen := by unfold maxLen; omega
        have hbd2 : (J.length + q.length) * 1 ≤ 140737488355328 := by omega
        have c3 : World.cell? wi ⟨w.heap.size, 3, none⟩ = some (.slice nA m.nm.length nc) := hO.cell 3
        have htx := rtxt_any _ m.nm wi (hRS _ hB).nm (by have := hf.1; omega)
        rw [← HQ.out] at htx
        go_wp2_with fail
        (with_reducible refine htx.mono ?_)
        clear htx
        rintro e w3 ⟨u, rfl, ho, hb⟩
        have hPw := own_same hP hb
        have hitw := hit.below hb
        have hOw := hO.same hb
        have hBw := hB.trans (hb.mono hB.size)
        have hBs := hBw.size
        have r1 := rd_of_own (k := .u8) ho
        obtain ⟨A1, cap1, rfl⟩ := r1.form
        have H1 := Lib.hid r1.rdv
        clear r1 ho hb hP hit hO hB c3
        go_wp2_with (at_builtin; refine wpList_append_any _ rfl _ _ 23 rfl w.heap.size 5 i0 _ 1 1 Tryd.underlying23 hi0 hz0 hz1 hz2 rfl (by decide) _ J.length _ rfl hPw A1 q.length cap1 _ rfl H1.out.2.2.2.2 (oneInts _ _) hbd1 hbd2 hBs H1.out.2.1 ?_; intro v5 w5 hown5 hgrow5 hat5; obtain ⟨A5, c5, e5, -⟩ := sl_of_own hown5; subst e5)
        have hit9 := hitw.kept hgrow5 (fun e => own_it_ne hPw hitw e.symm)
        have hO9 := hOw.grown hgrow5 (fun e => own_blk_ne hPw hOw (by decide) e.symm)
        have hB9 := hBw.grown hgrow5 hBw.size (fun b hb => (hPw.lt b hb).1)
        go_roundg (L.length - (pos + 1))
        case measure => omega
        case rel => exact ⟨pos + 1, rfl, hlt, (by rw [HFT.out, List.length_append, List.map_append]; exact hown5), hit9, hO9, hB9⟩
      · have hql := piece_len m 112 hcl9 hs hr64 (HOKL.out 112 HCM.out)
        have hft := fb_take m L pos hlt
        rw [HHC.out] at hft
        rw [piece_112] at hql hft
        rw [← HJ.out] at hft
        obtain ⟨q, hq⟩ : ∃ q, q = [m.pr] := ⟨_, rfl⟩
        rw [← hq] at hql hft
        have HQ := Lib.hid hq
        have HFT := Lib.hid hft
        clear hq hft
        have hbd1 : J.length + q.length ≤ maxLen := by unfold maxLen; omega
        have hbd2 : (J.length + q.length) * 1 ≤ 140737488355328 := by omega
        have hq1 : q.length = 1 := by rw [HQ.out]; rfl
        have c4 : World.cell? wi ⟨w.heap.size, 4, none⟩ = some (.int .u8 m.pr) := hO.cell 4
        have hba : Below wi.heap.size wi (wi.alloc (.cells #[.int .u8 (m.pr)] 5)) := (Below.refl _ _).alloc (Nat.le_refl _) _
        have ho : (wi.alloc (.cells #[.int .u8 m.pr] 5)).ownsRow 0 5 1 (.slice (some ⟨wi.heap.size, 0, none⟩) 1 1) 1 ([m.pr].map (Value.int .u8)) := World.ownsRow_lit (size := 1) (e := 5) wi #[.int .u8 m.pr] 1 (Nat.zero_le _) (by decide) rfl
        have H1 := Lib.hid (rd_of_own (k := .u8) ho).rdv
        have hPw := own_same hP hba
        have hitw := hit.below hba
        have hOw := hO.same hba
        have hBw := hB.trans (hba.mono hB.size)
        have hBs := hBw.size
        clear ho hP hit hO hB hba
        have H2 := Lib.hid (show RdV _ 1 _ 1 (q.map (Value.int .u8)) from by rw [HQ.out]; exact H1.out.2.2.2.2)
        rw [hq1] at hbd1 hbd2
        go_wp2_with (at_builtin; refine wpList_append_any _ rfl _ _ 23 rfl w.heap.size 5 i0 _ 1 1 Tryd.underlying23 hi0 hz0 hz1 hz2 rfl (by decide) _ J.length _ rfl hPw (some ⟨wi.heap.size, 0, none⟩) 1 1 _ rfl H2.out (oneInts _ _) hbd1 hbd2 hBs (fun e => by cases e) ?_; intro v5 w5 hown5 hgrow5 hat5; obtain ⟨A5, c5, e5, -⟩ := sl_of_own hown5; subst e5)
        have hit9 := hitw.kept hgrow5 (fun e => own_it_ne hPw hitw e.symm)
        have hO9 := hOw.grown hgrow5 (fun e => own_blk_ne hPw hOw (by decide) e.symm)
        have hB9 := hBw.grown hgrow5 hBw.size (fun b hb => (hPw.lt b hb).1)
        go_roundg (L.length - (pos + 1))
        case measure => omega
        case rel => exact ⟨pos + 1, rfl, hlt, (by rw [HFT.out, List.length_append, List.map_append, hq1]; exact hown5), hit9, hO9, hB9⟩
      · have hql := piece_len m 111 hcl9 hs hr64 (HOKL.out 111 HCM.out)
        have hft := fb_take m L pos hlt
        rw [HHC.out] at hft
        rw [piece_111] at hql hft
        rw [← HJ.out] at hft
        obtain ⟨q, hq⟩ : ∃ q, q = [m.od] := ⟨_, rfl⟩
        rw [← hq] at hql hft
        have HQ := Lib.hid hq
        have HFT := Lib.hid hft
        clear hq hft
        have hbd1 : J.length + q.length ≤ maxLen := by unfold maxLen; omega
        have hbd2 : (J.length + q.length) * 1 ≤ 140737488355328 := by omega
        have hq1 : q.length = 1 := by rw [HQ.out]; rfl
        have c5 : World.cell? wi ⟨w.heap.size, 5, none⟩ = some (.int .u8 m.od) := hO.cell 5
        have hba : Below wi.heap.size wi (wi.alloc (.cells #[.int .u8 (m.od)] 5)) := (Below.refl _ _).alloc (Nat.le_refl _) _
        have ho : (wi.alloc (.cells #[.int .u8 m.od] 5)).ownsRow 0 5 1 (.slice (some ⟨wi.heap.size, 0, none⟩) 1 1) 1 ([m.od].map (Value.int .u8)) := World.ownsRow_lit (size := 1) (e := 5) wi #[.int .u8 m.od] 1 (Nat.zero_le _) (by decide) rfl
        have H1 := Lib.hid (rd_of_own (k := .u8) ho).rdv
        have hPw := own_same hP hba
        have hitw := hit.below hba
        have hOw := hO.same hba
        have hBw := hB.trans (hba.mono hB.size)
        have hBs := hBw.size
        clear ho hP hit hO hB hba
        have H2 := Lib.hid (show RdV _ 1 _ 1 (q.map (Value.int .u8)) from by rw [HQ.out]; exact H1.out.2.2.2.2)
        rw [hq1] at hbd1 hbd2
        go_wp2_with (at_builtin; refine wpList_append_any _ rfl _ _ 23 rfl w.heap.size 5 i0 _ 1 1 Tryd.underlying23 hi0 hz0 hz1 hz2 rfl (by decide) _ J.length _ rfl hPw (some ⟨wi.heap.size, 0, none⟩) 1 1 _ rfl H2.out (oneInts _ _) hbd1 hbd2 hBs (fun e => by cases e) ?_; intro v5 w5 hown5 hgrow5 hat5; obtain ⟨A5, c5, e5, -⟩ := sl_of_own hown5; subst e5)
        have hit9 := hitw.kept hgrow5 (fun e => own_it_ne hPw hitw e.symm)
        have hO9 := hOw.grown hgrow5 (fun e => own_blk_ne hPw hOw (by decide) e.symm)
        have hB9 := hBw.grown hgrow5 hBw.size (fun b hb => (hPw.lt b hb).1)
        go_roundg (L.length - (pos + 1))
        case measure => omega
        case rel => exact ⟨pos + 1, rfl, hlt, (by rw [HFT.out, List.length_append, List.map_append, hq1]; exact hown5), hit9, hO9, hB9⟩
      · have hql := piece_len m 115 hcl9 hs hr64 (HOKL.out 115 HCM.out)
        have hft := fb_take m L pos hlt
        rw [HHC.out] at hft
        rw [piece_115] at hql hft
        rw [← HJ.out] at hft
        obtain ⟨q, hq⟩ : ∃ q, q = joinN [m.sg, m.so] := ⟨_, rfl⟩
        rw [← hq] at hql hft
        have HQ := Lib.hid hq
        have HFT := Lib.hid hft
        clear hq hft
        have hbd1 : J.length + q.length ≤ maxLen := by unfold maxLen; omega
        have hbd2 : (J.length + q.length) * 1 ≤ 140737488355328 := by omega
        have c6 : World.cell? wi ⟨w.heap.size, 6, none⟩ = some (.int .u64 m.sg) := hO.cell 6
        have c7 : World.cell? wi ⟨w.heap.size, 7, none⟩ = some (.int .u64 m.so) := hO.cell 7
        have hlit : Rd (wi.alloc (.cells #[.int .u64 m.sg, .int .u64 m.so] 22)) .u64 (.slice (some ⟨wi.heap.size, 0, none⟩) 2 2) [m.sg, m.so] := rd_lit wi [m.sg, m.so] (by simp)
        have hnum := rnums [m.sg, m.so] _ _ hlit (by simp) (fun x hx => by simp only [List.mem_cons, List.not_mem_nil, or_false] at hx; rcases hx with rfl | rfl; exact h.sg; exact h.so) (fun x hx => vsz_some (hs x (by simp only [List.mem_cons, List.not_mem_nil, or_false] at hx; rcases hx with rfl | rfl <;> simp)))
        rw [← HQ.out] at hnum
        have hba : Below wi.heap.size wi (wi.alloc (.cells #[.int .u64 m.sg, .int .u64 m.so] 22)) := (Below.refl _ _).alloc (Nat.le_refl _) _
        clear hlit
        go_wp2_with fail
        (with_reducible refine hnum.mono ?_)
        clear hnum
        rintro e w3 ⟨u, rfl, ho, hb3⟩
        have hb := hba.trans (hb3.mono hba.size)
        have hPw := own_same hP hb
        have hitw := hit.below hb
        have hOw := hO.same hb
        have hBw := hB.trans (hb.mono hB.size)
        have hBs := hBw.size
        have r1 := rd_of_own (k := .u8) ho
        obtain ⟨A1, cap1, rfl⟩ := r1.form
        have H1 := Lib.hid r1.rdv
        clear r1 ho hb3 hba hb hP hit hO hB c6 c7
        go_wp2_with (at_builtin; refine wpList_append_any _ rfl _ _ 23 rfl w.heap.size 5 i0 _ 1 1 Tryd.underlying23 hi0 hz0 hz1 hz2 rfl (by decide) _ J.length _ rfl hPw A1 q.length cap1 _ rfl H1.out.2.2.2.2 (oneInts _ _) hbd1 hbd2 hBs H1.out.2.1 ?_; intro v5 w5 hown5 hgrow5 hat5; obtain ⟨A5, c5, e5, -⟩ := sl_of_own hown5; subst e5)
        have hit9 := hitw.kept hgrow5 (fun e => own_it_ne hPw hitw e.symm)
        have hO9 := hOw.grown hgrow5 (fun e => own_blk_ne hPw hOw (by decide) e.symm)
        have hB9 := hBw.grown hgrow5 hBw.size (fun b hb => (hPw.lt b hb).1)
        go_roundg (L.length - (pos + 1))
        case measure => omega
        case rel => exact ⟨pos + 1, rfl, hlt, (by rw [HFT.out, List.length_append, List.map_append]; exact hown5), hit9, hO9, hB9⟩
      · have hql := piece_len m 101 hcl9 hs hr64 (HOKL.out 101 HCM.out)
        have hft := fb_take m L pos hlt
        rw [HHC.out] at hft
        rw [piece_101] at hql hft
        rw [← HJ.out] at hft
        obtain ⟨q, hq⟩ : ∃ q, q = joinN [m.eg, m.eo] := ⟨_, rfl⟩
        rw [← hq] at hql hft
        have HQ := Lib.hid hq
        have HFT := Lib.hid hft
        clear hq hft
        have hbd1 : J.length + q.length ≤ maxLen := by unfold maxLen; omega
        have hbd2 : (J.length + q.length) * 1 ≤ 140737488355328 := by omega
        have c8 : World.cell? wi ⟨w.heap.size, 8, none⟩ = some (.int .u64 m.eg) := hO.cell 8
        have c9 : World.cell? wi ⟨w.heap.size, 9, none⟩ = some (.int .u64 m.eo) := hO.cell 9
        have hlit : Rd (wi.alloc (.cells #[.int .u64 m.eg, .int .u64 m.eo] 22)) .u64 (.slice (some ⟨wi.heap.size, 0, none⟩) 2 2) [m.eg, m.eo] := rd_lit wi [m.eg, m.eo] (by simp)
        have hnum := rnums [m.eg, m.eo] _ _ hlit (by simp) (fun x hx => by simp only [List.mem_cons, List.not_mem_nil, or_false] at hx; rcases hx with rfl | rfl; exact h.eg; exact h.eo) (fun x hx => vsz_some (hs x (by simp only [List.mem_cons, List.not_mem_nil, or_false] at hx; rcases hx with rfl | rfl <;> simp)))
        rw [← HQ.out] at hnum
        have hba : Below wi.heap.size wi (wi.alloc (.cells #[.int .u64 m.eg, .int .u64 m.eo] 22)) := (Below.refl _ _).alloc (Nat.le_refl _) _
        clear hlit
        go_wp2_with fail
        (with_reducible refine hnum.mono ?_)
        clear hnum
        rintro e w3 ⟨u, rfl, ho, hb3⟩
        have hb := hba.trans (hb3.mono hba.size)
        have hPw := own_same hP hb
        have hitw := hit.below hb
        have hOw := hO.same hb
        have hBw := hB.trans (hb.mono hB.size)
        have hBs := hBw.size
        have r1 := rd_of_own (k := .u8) ho
        obtain ⟨A1, cap1, rfl⟩ := r1.form
        have H1 := Lib.hid r1.rdv
        clear r1 ho hb3 hba hb hP hit hO hB c8 c9
        go_wp2_with (at_builtin; refine wpList_append_any _ rfl _ _ 23 rfl w.heap.size 5 i0 _ 1 1 Tryd.underlying23 hi0 hz0 hz1 hz2 rfl (by decide) _ J.length _ rfl hPw A1 q.length cap1 _ rfl H1.out.2.2.2.2 (oneInts _ _) hbd1 hbd2 hBs H1.out.2.1 ?_; intro v5 w5 hown5 hgrow5 hat5; obtain ⟨A5, c5, e5, -⟩ := sl_of_own hown5; subst e5)
        have hit9 := hitw.kept hgrow5 (fun e => own_it_ne hPw hitw e.symm)
        have hO9 := hOw.grown hgrow5 (fun e => own_blk_ne hPw hOw (by decide) e.symm)
        have hB9 := hBw.grown hgrow5 hBw.size (fun b hb => (hPw.lt b hb).1)
        go_roundg (L.length - (pos + 1))
        case measure => omega
        case rel => exact ⟨pos + 1, rfl, hlt, (by rw [HFT.out, List.length_append, List.map_append]; exact hown5), hit9, hO9, hB9⟩
      · have hql := piece_len m 103 hcl9 hs hr64 (HOKL.out 103 HCM.out)
        have hft := fb_take m L pos hlt
        rw [HHC.out] at hft
        rw [piece_103] at hql hft
        rw [← HJ.out] at hft
        obtain ⟨q, hq⟩ : ∃ q, q = joinN [m.eg] := ⟨_, rfl⟩
        rw [← hq] at hql hft
        have HQ := Lib.hid hq
        have HFT := Lib.hid hft
        clear hq hft
        have hbd1 : J.length + q.length ≤ maxLen := by unfold maxLen; omega
        have hbd2 : (J.length + q.length) * 1 ≤ 140737488355328 := by omega
        have c8 : World.cell? wi ⟨w.heap.size, 8, none⟩ = some (.int .u64 m.eg) := hO.cell 8
        have hlit : Rd (wi.alloc (.cells #[.int .u64 m.eg] 22)) .u64 (.slice (some ⟨wi.heap.size, 0, none⟩) 1 1) [m.eg] := rd_lit wi [m.eg] (by simp)
        have hnum := rnums [m.eg] _ _ hlit (by simp) (fun x hx => by simp only [List.mem_cons, List.not_mem_nil, or_false] at hx; subst hx; exact h.eg) (fun x hx => vsz_some (hs x (by simp only [List.mem_cons, List.not_mem_nil, or_false] at hx; subst hx; simp)))
        rw [← HQ.out] at hnum
        have hba : Below wi.heap.size wi (wi.alloc (.cells #[.int .u64 m.eg] 22)) := (Below.refl _ _).alloc (Nat.le_refl _) _
        clear hlit
        go_wp2_with fail
        (with_reducible refine hnum.mono ?_)
        clear hnum
        rintro e w3 ⟨u, rfl, ho, hb3⟩
        have hb := hba.trans (hb3.mono hba.size)
        have hPw := own_same hP hb
        have hitw := hit.below hb
        have hOw := hO.same hb
        have hBw := hB.trans (hb.mono hB.size)
        have hBs := hBw.size
        have r1 := rd_of_own (k := .u8) ho
        obtain ⟨A1, cap1, rfl⟩ := r1.form
        have H1 := Lib.hid r1.rdv
        clear r1 ho hb3 hba hb hP hit hO hB c8
        go_wp2_with (at_builtin; refine wpList_append_any _ rfl _ _ 23 rfl w.heap.size 5 i0 _ 1 1 Tryd.underlying23 hi0 hz0 hz1 hz2 rfl (by decide) _ J.length _ rfl hPw A1 q.length cap1 _ rfl H1.out.2.2.2.2 (oneInts _ _) hbd1 hbd2 hBs H1.out.2.1 ?_; intro v5 w5 hown5 hgrow5 hat5; obtain ⟨A5, c5, e5, -⟩ := sl_of_own hown5; subst e5)
        have hit9 := hitw.kept hgrow5 (fun e => own_it_ne hPw hitw e.symm)
        have hO9 := hOw.grown hgrow5 (fun e => own_blk_ne hPw hOw (by decide) e.symm)
        have hB9 := hBw.grown hgrow5 hBw.size (fun b hb => (hPw.lt b hb).1)
        go_roundg (L.length - (pos + 1))
        case measure => omega
        case rel => exact ⟨pos + 1, rfl, hlt, (by rw [HFT.out, List.length_append, List.map_append]; exact hown5), hit9, hO9, hB9⟩
      · have hql := piece_len m 98 hcl9 hs hr64 (HOKL.out 98 HCM.out)
        have hft := fb_take m L pos hlt
        rw [HHC.out] at hft
        rw [piece_98] at hql hft
        rw [← HJ.out] at hft
        have c10 : World.cell? wi ⟨w.heap.size, 10, none⟩ = some (.bool m.sm) := hO.cell 10
        by_cases hsm : m.sm = true
        · have hsf := hsm
          rw [hsf] at hft hql c10
          clear hsm hsf
          obtain ⟨q, hq⟩ : ∃ q, q = [b01 true] := ⟨_, rfl⟩
          rw [← hq] at hql hft
          have HQ := Lib.hid hq
          have HFT := Lib.hid hft
          clear hq hft
          have hbd1 : J.length + q.length ≤ maxLen := by unfold maxLen; omega
          have hbd2 : (J.length + q.length) * 1 ≤ 140737488355328 := by omega
          have hq1 : q.length = 1 := by rw [HQ.out]; rfl
          have hba : Below wi.heap.size wi (wi.alloc (.cells #[.int .u8 1] 5)) := (Below.refl _ _).alloc (Nat.le_refl _) _
          have ho : (wi.alloc (.cells #[.int .u8 1] 5)).ownsRow 0 5 1 (.slice (some ⟨wi.heap.size, 0, none⟩) 1 1) 1 ([1].map (Value.int .u8)) := World.ownsRow_lit (size := 1) (e := 5) wi #[.int .u8 1] 1 (Nat.zero_le _) (by decide) rfl
          have H1 := Lib.hid (rd_of_own (k := .u8) ho).rdv
          have hPw := own_same hP hba
          have hitw := hit.below hba
          have hOw := hO.same hba
          have hBw := hB.trans (hba.mono hB.size)
          have hBs := hBw.size
          clear ho hP hit hO hB hba
          have H2 := Lib.hid (show RdV _ 1 _ 1 (q.map (Value.int .u8)) from by rw [HQ.out]; exact H1.out.2.2.2.2)
          rw [hq1] at hbd1 hbd2
          go_wp2_with (at_builtin; refine wpList_append_any _ rfl _ _ 23 rfl w.heap.size 5 i0 _ 1 1 Tryd.underlying23 hi0 hz0 hz1 hz2 rfl (by decide) _ J.length _ rfl hPw (some ⟨wi.heap.size, 0, none⟩) 1 1 _ rfl H2.out (oneInts _ _) hbd1 hbd2 hBs (fun e => by cases e) ?_; intro v5 w5 hown5 hgrow5 hat5; obtain ⟨A5, c5, e5, -⟩ := sl_of_own hown5; subst e5)
          have hit9 := hitw.kept hgrow5 (fun e => own_it_ne hPw hitw e.symm)
          have hO9 := hOw.grown hgrow5 (fun e => own_blk_ne hPw hOw (by decide) e.symm)
          have hB9 := hBw.grown hgrow5 hBw.size (fun b hb => (hPw.lt b hb).1)
          go_roundg (L.length - (pos + 1))
          case measure => omega
          case rel => exact ⟨pos + 1, rfl, hlt, (by rw [HFT.out, List.length_append, List.map_append, hq1]; exact hown5), hit9, hO9, hB9⟩
        · have hsf : m.sm = false := by simpa using hsm
          rw [hsf] at hft hql c10
          clear hsm hsf
          obtain ⟨q, hq⟩ : ∃ q, q = [b01 false] := ⟨_, rfl⟩
          rw [← hq] at hql hft
          have HQ := Lib.hid hq
          have HFT := Lib.hid hft
          clear hq hft
          have hbd1 : J.length + q.length ≤ maxLen := by unfold maxLen; omega
          have hbd2 : (J.length + q.length) * 1 ≤ 140737488355328 := by omega
          have hq1 : q.length = 1 := by rw [HQ.out]; rfl
          have hba : Below wi.heap.size wi (wi.alloc (.cells #[.int .u8 0] 5)) := (Below.refl _ _).alloc (Nat.le_refl _) _
          have ho : (wi.alloc (.cells #[.int .u8 0] 5)).ownsRow 0 5 1 (.slice (some ⟨wi.heap.size, 0, none⟩) 1 1) 1 ([0].map (Value.int .u8)) := World.ownsRow_lit (size := 1) (e := 5) wi #[.int .u8 0] 1 (Nat.zero_le _) (by decide) rfl
          have H1 := Lib.hid (rd_of_own (k := .u8) ho).rdv
          have hPw := own_same hP hba
          have hitw := hit.below hba
          have hOw := hO.same hba
          have hBw := hB.trans (hba.mono hB.size)
          have hBs := hBw.size
          clear ho hP hit hO hB hba
          have H2 := Lib.hid (show RdV _ 1 _ 1 (q.map (Value.int .u8)) from by rw [HQ.out]; exact H1.out.2.2.2.2)
          rw [hq1] at hbd1 hbd2
          go_wp2_with (at_builtin; refine wpList_append_any _ rfl _ _ 23 rfl w.heap.size 5 i0 _ 1 1 Tryd.underlying23 hi0 hz0 hz1 hz2 rfl (by decide) _ J.length _ rfl hPw (some ⟨wi.heap.size, 0, none⟩) 1 1 _ rfl H2.out (oneInts _ _) hbd1 hbd2 hBs (fun e => by cases e) ?_; intro v5 w5 hown5 hgrow5 hat5; obtain ⟨A5, c5, e5, -⟩ := sl_of_own hown5; subst e5)
          have hit9 := hitw.kept hgrow5 (fun e => own_it_ne hPw hitw e.symm)
          have hO9 := hOw.grown hgrow5 (fun e => own_blk_ne hPw hOw (by decide) e.symm)
          have hB9 := hBw.grown hgrow5 hBw.size (fun b hb => (hPw.lt b hb).1)
          go_roundg (L.length - (pos + 1))
          case measure => omega
          case rel => exact ⟨pos + 1, rfl, hlt, (by rw [HFT.out, List.length_append, List.map_append, hq1]; exact hown5), hit9, hO9, hB9⟩
      · have hql := piece_len m 99 hcl9 hs hr64 (HOKL.out 99 HCM.out)
        have hft := fb_take m L pos hlt
        rw [HHC.out] at hft
        rw [piece_99] at hql hft
        rw [← HJ.out] at hft
        obtain ⟨q, hq⟩ : ∃ q, q = joinN [m.cd] := ⟨_, rfl⟩
        rw [← hq] at hql hft
        have HQ := Lib.hid hq
        have HFT := Lib.hid hft
        clear hq hft
        have hbd1 : J.length + q.length ≤ maxLen := by unfold maxLen; omega
        have hbd2 : (J.length + q.length) * 1 ≤ 140737488355328 := by omega
        have c11 : World.cell? wi ⟨w.heap.size, 11, none⟩ = some (.int .u64 m.cd) := hO.cell 11
        have hlit : Rd (wi.alloc (.cells #[.int .u64 m.cd] 22)) .u64 (.slice (some ⟨wi.heap.size, 0, none⟩) 1 1) [m.cd] := rd_lit wi [m.cd] (by simp)
        have hnum := rnums [m.cd] _ _ hlit (by simp) (fun x hx => by simp only [List.mem_cons, List.not_mem_nil, or_false] at hx; subst hx; exact h.cd) (fun x hx => vsz_some (hs x (by simp only [List.mem_cons, List.not_mem_nil, or_false] at hx; subst hx; simp)))
        rw [← HQ.out] at hnum
        have hba : Below wi.heap.size wi (wi.alloc (.cells #[.int .u64 m.cd] 22)) := (Below.refl _ _).alloc (Nat.le_refl _) _
        clear hlit
        go_wp2_with fail
        (with_reducible refine hnum.mono ?_)
        clear hnum
        rintro e w3 ⟨u, rfl, ho, hb3⟩
        have hb := hba.trans (hb3.mono hba.size)
        have hPw := own_same hP hb
        have hitw := hit.below hb
        have hOw := hO.same hb
        have hBw := hB.trans (hb.mono hB.size)
        have hBs := hBw.size
        have r1 := rd_of_own (k := .u8) ho
        obtain ⟨A1, cap1, rfl⟩ := r1.form
        have H1 := Lib.hid r1.rdv
        clear r1 ho hb3 hba hb hP hit hO hB c11
        go_wp2_with (at_builtin; refine wpList_append_any _ rfl _ _ 23 rfl w.heap.size 5 i0 _ 1 1 Tryd.underlying23 hi0 hz0 hz1 hz2 rfl (by decide) _ J.length _ rfl hPw A1 q.length cap1 _ rfl H1.out.2.2.2.2 (oneInts _ _) hbd1 hbd2 hBs H1.out.2.1 ?_; intro v5 w5 hown5 hgrow5 hat5; obtain ⟨A5, c5, e5, -⟩ := sl_of_own hown5; subst e5)
        have hit9 := hitw.kept hgrow5 (fun e => own_it_ne hPw hitw e.symm)
        have hO9 := hOw.grown hgrow5 (fun e => own_blk_ne hPw hOw (by decide) e.symm)
        have hB9 := hBw.grown hgrow5 hBw.size (fun b hb => (hPw.lt b hb).1)
        go_roundg (L.length - (pos + 1))
        case measure => omega
        case rel => exact ⟨pos + 1, rfl, hlt, (by rw [HFT.out, List.length_append, List.map_append]; exact hown5), hit9, hO9, hB9⟩
      · have hql := piece_len m 114 hcl9 hs hr64 (HOKL.out 114 HCM.out)
        have hft := fb_take m L pos hlt
        rw [HHC.out] at hft
        rw [piece_114] at hql hft
        rw [← HJ.out] at hft
        obtain ⟨q, hq⟩ : ∃ q, q = txtB m.rs := ⟨_, rfl⟩
        rw [← hq] at hql hft
        have HQ := Lib.hid hq
        have HFT := Lib.hid hft
        clear hq hft
        have hbd1 : J.length + q.length ≤ maxLen := by unfold maxLen; omega
        have hbd2 : (J.length + q.length) * 1 ≤ 140737488355328 := by omega
        have c12 : World.cell? wi ⟨w.heap.size, 12, none⟩ = some (.slice rA m.rs.length rc) := hO.cell 12
        have htx := rtxt_any _ m.rs wi (hRS _ hB).rs (by have := hf.2.1; omega)
        rw [← HQ.out] at htx
        go_wp2_with fail
        (with_reducible refine htx.mono ?_)
        clear htx
        rintro e w3 ⟨u, rfl, ho, hb⟩
        have hPw := own_same hP hb
        have hitw := hit.below hb
        have hOw := hO.same hb
        have hBw := hB.trans (hb.mono hB.size)
        have hBs := hBw.size
        have r1 := rd_of_own (k := .u8) ho
        obtain ⟨A1, cap1, rfl⟩ := r1.form
        have H1 := Lib.hid r1.rdv
        clear r1 ho hb hP hit hO hB c12
        go_wp2_with (at_builtin; refine wpList_append_any _ rfl _ _ 23 rfl w.heap.size 5 i0 _ 1 1 Tryd.underlying23 hi0 hz0 hz1 hz2 rfl (by decide) _ J.length _ rfl hPw A1 q.length cap1 _ rfl H1.out.2.2.2.2 (oneInts _ _) hbd1 hbd2 hBs H1.out.2.1 ?_; intro v5 w5 hown5 hgrow5 hat5; obtain ⟨A5, c5, e5, -⟩ := sl_of_own hown5; subst e5)
        have hit9 := hitw.kept hgrow5 (fun e => own_it_ne hPw hitw e.symm)
        have hO9 := hOw.grown hgrow5 (fun e => own_blk_ne hPw hOw (by decide) e.symm)
        have hB9 := hBw.grown hgrow5 hBw.size (fun b hb => (hPw.lt b hb).1)
        go_roundg (L.length - (pos + 1))
        case measure => omega
        case rel => exact ⟨pos + 1, rfl, hlt, (by rw [HFT.out, List.length_append, List.map_append]; exact hown5), hit9, hO9, hB9⟩
      · have hql := piece_len m 110 hcl9 hs hr64 (HOKL.out 110 HCM.out)
        have hft := fb_take m L pos hlt
        rw [HHC.out] at hft
        rw [piece_110] at hql hft
        rw [← HJ.out] at hft
        obtain ⟨q, hq⟩ : ∃ q, q = joinN [m.n] := ⟨_, rfl⟩
        rw [← hq] at hql hft
        have HQ := Lib.hid hq
        have HFT := Lib.hid hft
        clear hq hft
        have hbd1 : J.length + q.length ≤ maxLen := by unfold maxLen; omega
        have hbd2 : (J.length + q.length) * 1 ≤ 140737488355328 := by omega
        have c13 : World.cell? wi ⟨w.heap.size, 13, none⟩ = some (.int .u64 m.n) := hO.cell 13
        have hlit : Rd (wi.alloc (.cells #[.int .u64 m.n] 22)) .u64 (.slice (some ⟨wi.heap.size, 0, none⟩) 1 1) [m.n] := rd_lit wi [m.n] (by simp)
        have hnum := rnums [m.n] _ _ hlit (by simp) (fun x hx => by simp only [List.mem_cons, List.not_mem_nil, or_false] at hx; subst hx; exact h.n) (fun x hx => vsz_some (hs x (by simp only [List.mem_cons, List.not_mem_nil, or_false] at hx; subst hx; simp)))
        rw [← HQ.out] at hnum
        have hba : Below wi.heap.size wi (wi.alloc (.cells #[.int .u64 m.n] 22)) := (Below.refl _ _).alloc (Nat.le_refl _) _
        clear hlit
        go_wp2_with fail
        (with_reducible refine hnum.mono ?_)
        clear hnum
        rintro e w3 ⟨u, rfl, ho, hb3⟩
        have hb := hba.trans (hb3.mono hba.size)
        have hPw := own_same hP hb
        have hitw := hit.below hb
        have hOw := hO.same hb
        have hBw := hB.trans (hb.mono hB.size)
        have hBs := hBw.size
        have r1 := rd_of_own (k := .u8) ho
        obtain ⟨A1, cap1, rfl⟩ := r1.form
        have H1 := Lib.hid r1.rdv
        clear r1 ho hb3 hba hb hP hit hO hB c13
        go_wp2_with (at_builtin; refine wpList_append_any _ rfl _ _ 23 rfl w.heap.size 5 i0 _ 1 1 Tryd.underlying23 hi0 hz0 hz1 hz2 rfl (by decide) _ J.length _ rfl hPw A1 q.length cap1 _ rfl H1.out.2.2.2.2 (oneInts _ _) hbd1 hbd2 hBs H1.out.2.1 ?_; intro v5 w5 hown5 hgrow5 hat5; obtain ⟨A5, c5, e5, -⟩ := sl_of_own hown5; subst e5)
        have hit9 := hitw.kept hgrow5 (fun e => own_it_ne hPw hitw e.symm)
        have hO9 := hOw.grown hgrow5 (fun e => own_blk_ne hPw hOw (by decide) e.symm)
        have hB9 := hBw.grown hgrow5 hBw.size (fun b hb => (hPw.lt b hb).1)
        go_roundg (L.length - (pos + 1))
        case measure => omega
        case rel => exact ⟨pos + 1, rfl, hlt, (by rw [HFT.out, List.length_append, List.map_append]; exact hown5), hit9, hO9, hB9⟩
      · have hql := piece_len m 118 hcl9 hs hr64 (HOKL.out 118 HCM.out)
        have hft := fb_take m L pos hlt
        rw [HHC.out] at hft
        rw [piece_118] at hql hft
        rw [← HJ.out] at hft
        obtain ⟨q, hq⟩ : ∃ q, q = joinN [m.ve] := ⟨_, rfl⟩
        rw [← hq] at hql hft
        have HQ := Lib.hid hq
        have HFT := Lib.hid hft
        clear hq hft
        have hbd1 : J.length + q.length ≤ maxLen := by unfold maxLen; omega
        have hbd2 : (J.length + q.length) * 1 ≤ 140737488355328 := by omega
        have c14 : World.cell? wi ⟨w.heap.size, 14, none⟩ = some (.int .u64 m.ve) := hO.cell 14
        have hlit : Rd (wi.alloc (.cells #[.int .u64 m.ve] 22)) .u64 (.slice (some ⟨wi.heap.size, 0, none⟩) 1 1) [m.ve] := rd_lit wi [m.ve] (by simp)
        have hnum := rnums [m.ve] _ _ hlit (by simp) (fun x hx => by simp only [List.mem_cons, List.not_mem_nil, or_false] at hx; subst hx; exact h.ve) (fun x hx => vsz_some (hs x (by simp only [List.mem_cons, List.not_mem_nil, or_false] at hx; subst hx; simp)))
        rw [← HQ.out] at hnum
        have hba : Below wi.heap.size wi (wi.alloc (.cells #[.int .u64 m.ve] 22)) := (Below.refl _ _).alloc (Nat.le_refl _) _
        clear hlit
        go_wp2_with fail
        (with_reducible refine hnum.mono ?_)
        clear hnum
        rintro e w3 ⟨u, rfl, ho, hb3⟩
        have hb := hba.trans (hb3.mono hba.size)
        have hPw := own_same hP hb
        have hitw := hit.below hb
        have hOw := hO.same hb
        have hBw := hB.trans (hb.mono hB.size)
        have hBs := hBw.size
        have r1 := rd_of_own (k := .u8) ho
        obtain ⟨A1, cap1, rfl⟩ := r1.form
        have H1 := Lib.hid r1.rdv
        clear r1 ho hb3 hba hb hP hit hO hB c14
        go_wp2_with (at_builtin; refine wpList_append_any _ rfl _ _ 23 rfl w.heap.size 5 i0 _ 1 1 Tryd.underlying23 hi0 hz0 hz1 hz2 rfl (by decide) _ J.length _ rfl hPw A1 q.length cap1 _ rfl H1.out.2.2.2.2 (oneInts _ _) hbd1 hbd2 hBs H1.out.2.1 ?_; intro v5 w5 hown5 hgrow5 hat5; obtain ⟨A5, c5, e5, -⟩ := sl_of_own hown5; subst e5)
        have hit9 := hitw.kept hgrow5 (fun e => own_it_ne hPw hitw e.symm)
        have hO9 := hOw.grown hgrow5 (fun e => own_blk_ne hPw hOw (by decide) e.symm)
        have hB9 := hBw.grown hgrow5 hBw.size (fun b hb => (hPw.lt b hb).1)
        go_roundg (L.length - (pos + 1))
        case measure => omega
        case rel => exact ⟨pos + 1, rfl, hlt, (by rw [HFT.out, List.length_append, List.map_append]; exact hown5), hit9, hO9, hB9⟩
      · have hql := piece_len m 108 hcl9 hs hr64 (HOKL.out 108 HCM.out)
        have hft := fb_take m L pos hlt
        rw [HHC.out] at hft
        rw [piece_108] at hql hft
        rw [← HJ.out] at hft
        obtain ⟨q1, hq1⟩ : ∃ q, q = joinN [(m.vs.length : Int)] := ⟨_, rfl⟩
        obtain ⟨q2, hq2⟩ : ∃ q, q = joinN m.vs := ⟨_, rfl⟩
        rw [← hq1, ← hq2] at hft hql
        rw [List.length_append] at hql
        have HQ1 := Lib.hid hq1
        have HQ2 := Lib.hid hq2
        have HFT := Lib.hid hft
        clear hq1 hq2 hft
        have hs10 := ((small_iff m).1 hs).2.2.2.2.2.2.2.2.2
        have hbd1 : J.length + q1.length ≤ maxLen := by unfold maxLen; omega
        have hbd2 : (J.length + q1.length) * 1 ≤ 140737488355328 := by omega
        have hbd3 : J.length + q1.length + q2.length ≤ maxLen := by unfold maxLen; omega
        have hbd4 : (J.length + q1.length + q2.length) * 1 ≤ 140737488355328 := by omega
        have hvl : 0 ≤ (m.vs.length : Int) ∧ (m.vs.length : Int) ≤ 8 := by omega
        have hwr : IntKind.u64.wrap (m.vs.length : Int) = (m.vs.length : Int) := by rw [IntKind.wrap_u64]; omega
        have c15 : World.cell? wi.drew ⟨w.heap.size, 15, none⟩ = some (.slice vA m.vs.length vc) := hO.cell 15
        go_upto_region 38 with fail
        refine wp_region_held_drew (S := fun w' => w'.cell? ⟨w.heap.size, 15, none⟩ = some (.slice vA m.vs.length vc)) (by kernel_rfl) (by first | exact c15 | exact a15 | exact b15 | exact d15 | exact e15 | exact f15) (fun _ => ?_)
        refine wpAnyH_take (i := 0) (oi := ({ dst := some 132, op := Op.move (Operand.tmp 4), type := 23, pos := _, after := #[], guard := none } : Oper)) (v := ?_) rfl (by kernel_rfl) (by kernel_rfl) (by kernel_rfl) (fun _ _ _ h => h) (Or.inl ⟨by rfl, ?_⟩) (by first | exact c15 | exact a15 | exact b15 | exact d15 | exact e15 | exact f15) ?_
        rotate_left
        · intro w hSw
          try dsimp only at hSw
          go_simp
          try with_reducible rfl
        try simp only [Act.put, List.setIfInBounds_toArray, List.set_cons_zero, List.set_cons_succ]
        refine wpAnyH_take (i := 1) (oi := ({ dst := some 133, op := Op.fieldAddr 28 (Operand.tmp 1) 13, type := 0, pos := _, after := #[], guard := none } : Oper)) (v := ?_) rfl (by kernel_rfl) (by kernel_rfl) (by kernel_rfl) (fun _ _ _ h => h) (Or.inl ⟨by rfl, ?_⟩) (by first | exact c15 | exact a15 | exact b15 | exact d15 | exact e15 | exact f15) ?_
        rotate_left
        · intro w hSw
          try dsimp only at hSw
          go_simp
          try with_reducible rfl
        try simp only [Act.put, List.setIfInBounds_toArray, List.set_cons_zero, List.set_cons_succ]
        refine wpAnyH_take (i := 2) (oi := ({ dst := some 134, op := Op.load 26 (Operand.tmp 133), type := 26, pos := _, after := #[{ on := 1, ground := Ground.data }], guard := none } : Oper)) (v := ?_) rfl (by kernel_rfl) (by kernel_rfl) (by kernel_rfl) (fun _ _ _ h => h) (Or.inl ⟨by rfl, ?_⟩) (by first | exact c15 | exact a15 | exact b15 | exact d15 | exact e15 | exact f15) ?_
        rotate_left
        · intro w hSw
          try dsimp only at hSw
          go_simp
          try with_reducible rfl
        try simp only [Act.put, List.setIfInBounds_toArray, List.set_cons_zero, List.set_cons_succ]
        refine wpAnyH_take (i := 3) (oi := ({ dst := some 135, op := Op.call { callee := Callee.builtin Builtin.len, args := #[Operand.tmp 134], argTypes := #[26] }, type := 3, pos := _, after := #[{ on := 2, ground := Ground.data }], guard := none } : Oper)) (v := ?_) rfl (by kernel_rfl) (by kernel_rfl) (by kernel_rfl) (fun _ _ _ h => h) (Or.inl ⟨by rfl, ?_⟩) (by first | exact c15 | exact a15 | exact b15 | exact d15 | exact e15 | exact f15) ?_
        rotate_left
        · intro w hSw
          try dsimp only at hSw
          go_simp
          try with_reducible rfl
        try simp only [Act.put, List.setIfInBounds_toArray, List.set_cons_zero, List.set_cons_succ]
        refine wpAnyH_take (i := 4) (oi := ({ dst := some 136, op := Op.convert 3 22 (Operand.tmp 135), type := 22, pos := _, after := #[{ on := 3, ground := Ground.data }], guard := none } : Oper)) (v := ?_) rfl (by kernel_rfl) (by kernel_rfl) (by kernel_rfl) (fun _ _ _ h => h) (Or.inl ⟨by rfl, ?_⟩) (by first | exact c15 | exact a15 | exact b15 | exact d15 | exact e15 | exact f15) ?_
        rotate_left
        · intro w hSw
          try dsimp only at hSw
          go_simp
          try with_reducible rfl
        try simp only [Act.put, List.setIfInBounds_toArray, List.set_cons_zero, List.set_cons_succ]
        refine wpAnyH_take (i := 8) (oi := ({ dst := some 140, op := Op.fieldAddr 28 (Operand.tmp 1) 13, type := 0, pos := _, after := #[], guard := none } : Oper)) (v := ?_) rfl (by kernel_rfl) (by kernel_rfl) (by kernel_rfl) (fun _ _ _ h => h) (Or.inl ⟨by rfl, ?_⟩) (by first | exact c15 | exact a15 | exact b15 | exact d15 | exact e15 | exact f15) ?_
        rotate_left
        · intro w hSw
          try dsimp only at hSw
          go_simp
          try with_reducible rfl
        try simp only [Act.put, List.setIfInBounds_toArray, List.set_cons_zero, List.set_cons_succ]
        refine wpAnyH_take (i := 9) (oi := ({ dst := some 141, op := Op.load 26 (Operand.tmp 140), type := 26, pos := _, after := #[{ on := 8, ground := Ground.data }], guard := none } : Oper)) (v := ?_) rfl (by kernel_rfl) (by kernel_rfl) (by kernel_rfl) (fun _ _ _ h => h) (Or.inl ⟨by rfl, ?_⟩) (by first | exact c15 | exact a15 | exact b15 | exact d15 | exact e15 | exact f15) ?_
        rotate_left
        · intro w hSw
          try dsimp only at hSw
          go_simp
          try with_reducible rfl
        try simp only [Act.put, List.setIfInBounds_toArray, List.set_cons_zero, List.set_cons_succ]
        refine wpAnyH_ready (rs := [5]) (by kernel_rfl) (by simp) ?_
        refine AllReadyH.cons (o := ({ dst := some 137, op := Op.buildSlice 26 1 #[(0, Operand.tmp 136)], type := 26, pos := _, after := #[{ on := 4, ground := Ground.data }], guard := none } : Oper)) rfl (fun K hK => ?_) AllReadyH.nil
        go_simp
        have hba : Below wi.heap.size wi (wi.alloc (.cells #[.int .u64 (m.vs.length : Int)] 22)).drew := below_drewN ((Below.refl _ _).alloc (Nat.le_refl _) _) 1
        have a15 : World.cell? (wi.alloc (.cells #[.int .u64 (m.vs.length : Int)] 22)).drew ⟨w.heap.size, 15, none⟩ = some (.slice vA m.vs.length vc) := (hO.same hba).cell 15
        have hlit : Rd (wi.alloc (.cells #[.int .u64 (m.vs.length : Int)] 22)).drew .u64 (.slice (some ⟨wi.heap.size, 0, none⟩) 1 1) [(m.vs.length : Int)] := rd_lit wi [(m.vs.length : Int)] (by simp)
        have hnum := rnums [(m.vs.length : Int)] _ _ hlit (by simp) (fun x hx => by simp only [List.mem_cons, List.not_mem_nil, or_false] at hx; subst hx; omega) (fun x hx => vsz_some (by simp only [List.mem_cons, List.not_mem_nil, or_false] at hx; subst hx; omega))
        rw [← HQ1.out] at hnum
        clear hlit
        refine hK.out _ _ (by first | exact c15 | exact a15 | exact b15 | exact d15 | exact e15 | exact f15) (fun _ => ?_)
        clear hK K
        try simp only [Act.put, List.setIfInBounds_toArray, List.set_cons_zero, List.set_cons_succ]
        refine wpAnyH_ready (rs := [6]) (by kernel_rfl) (by simp) ?_
        refine AllReadyH.cons (o := ({ dst := some 138, op := Op.call { callee := Callee.value (Operand.func 32), args := #[Operand.tmp 137], argTypes := #[26] }, type := 23, pos := _, after := #[{ on := 5, ground := Ground.data }], guard := none } : Oper)) rfl (fun K hK => ?_) AllReadyH.nil
        go_simp
        go_at_call 32
        (with_reducible refine hnum.mono ?_)
        clear hnum
        rintro e w3 ⟨u, rfl, ho, hb3⟩
        have hb := hba.trans (hb3.mono hba.size)
        have hPw := own_same hP hb
        have hitw := hit.below hb
        have hOw := hO.same hb
        have hBw := hB.trans (hb.mono hB.size)
        have hBs := hBw.size
        have b15 : World.cell? w3 ⟨w.heap.size, 15, none⟩ = some (.slice vA m.vs.length vc) := hOw.cell 15
        have r1 := rd_of_own (k := .u8) ho
        obtain ⟨A1, cap1, rfl⟩ := r1.form
        have H1 := Lib.hid r1.rdv
        clear r1 ho hb3 hba hb
        refine hK.out _ _ (by first | exact c15 | exact a15 | exact b15 | exact d15 | exact e15 | exact f15) (fun _ => ?_)
        clear hK K
        try simp only [Act.put, List.setIfInBounds_toArray, List.set_cons_zero, List.set_cons_succ]
        refine wpAnyH_ready (rs := [7]) (by kernel_rfl) (by simp) ?_
        refine AllReadyH.cons (o := ({ dst := some 139, op := Op.call { callee := Callee.builtin Builtin.append, args := #[Operand.tmp 132, Operand.tmp 138], argTypes := #[23, 23] }, type := 23, pos := _, after := #[{ on := 0, ground := Ground.data }, { on := 6, ground := Ground.data }, { on := 6, ground := Ground.chain }], guard := none } : Oper)) rfl (fun K hK => ?_) AllReadyH.nil
        refine step_append_any _ rfl _ _ 23 rfl w.heap.size 5 i0 _ 1 1 Tryd.underlying23 hi0 hz0 hz1 hz2 rfl (by decide) (.slice AJ J.length cJ) J.length _ rfl hPw A1 q1.length cap1 _ rfl H1.out.2.2.2.2 (oneInts _ _) hbd1 hbd2 hBs H1.out.2.1 ?_
        intro v5 w5 hown5 hgrow5 hat5
        obtain ⟨A5, c5, e5, -⟩ := sl_of_own hown5
        subst e5
        have hit5 := hitw.kept hgrow5 (fun e => own_it_ne hPw hitw e.symm)
        have hO5 := hOw.grown hgrow5 (fun e => own_blk_ne hPw hOw (by decide) e.symm)
        have hB5 := hBw.grown hgrow5 hBw.size (fun b hb => (hPw.lt b hb).1)
        have d15 : World.cell? w5 ⟨w.heap.size, 15, none⟩ = some (.slice vA m.vs.length vc) := hO5.cell 15
        have hnum2 := rnums m.vs _ w5 (hRS _ hB5).vs (by omega) h.vs (fun x hx => vsz_some (hs10 x hx))
        rw [← HQ2.out] at hnum2
        clear hPw hitw hOw hBw hBs hgrow5 hat5
        refine hK.out _ _ (by first | exact c15 | exact a15 | exact b15 | exact d15 | exact e15 | exact f15) (fun _ => ?_)
        clear hK K
        try simp only [Act.put, List.setIfInBounds_toArray, List.set_cons_zero, List.set_cons_succ]
        refine wpAnyH_ready (rs := [10]) (by kernel_rfl) (by simp) ?_
        refine AllReadyH.cons (o := ({ dst := some 142, op := Op.call { callee := Callee.value (Operand.func 32), args := #[Operand.tmp 141], argTypes := #[26] }, type := 23, pos := _, after := #[{ on := 9, ground := Ground.data }, { on := 7, ground := Ground.chain }], guard := none } : Oper)) rfl (fun K hK => ?_) AllReadyH.nil
        go_simp
        go_at_call 32
        (with_reducible refine hnum2.mono ?_)
        clear hnum2
        rintro e w6 ⟨u2, rfl, ho2, hb6⟩
        have hP6 := own_same hown5 hb6
        have hit6 := hit5.below hb6
        have hO6 := hO5.same hb6
        have hB6 := hB5.trans (hb6.mono hB5.size)
        have hBs6 := hB6.size
        have e15 : World.cell? w6 ⟨w.heap.size, 15, none⟩ = some (.slice vA m.vs.length vc) := hO6.cell 15
        have r2 := rd_of_own (k := .u8) ho2
        obtain ⟨A2, cap2, rfl⟩ := r2.form
        have H2 := Lib.hid r2.rdv
        refine hK.out _ _ (by first | exact c15 | exact a15 | exact b15 | exact d15 | exact e15 | exact f15) (fun _ => ?_)
        clear hK K
        try simp only [Act.put, List.setIfInBounds_toArray, List.set_cons_zero, List.set_cons_succ]
        refine wpAnyH_ready (rs := [11]) (by kernel_rfl) (by simp) ?_
        refine AllReadyH.cons (o := ({ dst := some 143, op := Op.call { callee := Callee.builtin Builtin.append, args := #[Operand.tmp 139, Operand.tmp 142], argTypes := #[23, 23] }, type := 23, pos := _, after := #[{ on := 7, ground := Ground.data }, { on := 10, ground := Ground.data }, { on := 10, ground := Ground.chain }], guard := none } : Oper)) rfl (fun K hK => ?_) AllReadyH.nil
        refine step_append_any _ rfl _ _ 23 rfl w.heap.size 5 i0 _ 1 1 Tryd.underlying23 hi0 hz0 hz1 hz2 rfl (by decide) (.slice A5 (J.length + q1.length) c5) (J.length + q1.length) _ rfl hP6 A2 q2.length cap2 _ rfl H2.out.2.2.2.2 (oneInts _ _) hbd3 hbd4 hBs6 H2.out.2.1 ?_
        intro v7 w7 hown7 hgrow7 hat7
        obtain ⟨A7, c7, e7, -⟩ := sl_of_own hown7
        subst e7
        have hit9 := hit6.kept hgrow7 (fun e => own_it_ne hP6 hit6 e.symm)
        have hO9 := hO6.grown hgrow7 (fun e => own_blk_ne hP6 hO6 (by decide) e.symm)
        have hB9 := hB6.grown hgrow7 hB6.size (fun b hb => (hP6.lt b hb).1)
        have f15 : World.cell? w7 ⟨w.heap.size, 15, none⟩ = some (.slice vA m.vs.length vc) := hO9.cell 15
        refine hK.out _ _ (by first | exact c15 | exact a15 | exact b15 | exact d15 | exact e15 | exact f15) (fun _ => ?_)
        clear hK K
        try simp only [Act.put, List.setIfInBounds_toArray, List.set_cons_zero, List.set_cons_succ]
        refine wpAnyH_take (i := 12) (oi := ({ dst := some 4, op := Op.assign (Operand.tmp 143), type := 23, pos := _, after := #[{ on := 11, ground := Ground.data }, { on := 11, ground := Ground.chain }, { on := 0, ground := Ground.phase }, { on := 1, ground := Ground.phase }, { on := 2, ground := Ground.phase }, { on := 3, ground := Ground.phase }, { on := 4, ground := Ground.phase }, { on := 5, ground := Ground.phase }, { on := 6, ground := Ground.phase }, { on := 7, ground := Ground.phase }, { on := 8, ground := Ground.phase }, { on := 9, ground := Ground.phase }, { on := 10, ground := Ground.phase }, { on := 11, ground := Ground.phase }], guard := none } : Oper)) (v := ?_) rfl (by kernel_rfl) (by kernel_rfl) (by kernel_rfl) (fun _ _ _ h => h) (Or.inl ⟨by rfl, ?_⟩) (by first | exact c15 | exact a15 | exact b15 | exact d15 | exact e15 | exact f15) ?_
        rotate_left
        · intro w hSw
          try dsimp only at hSw
          go_simp
          try with_reducible rfl
        try simp only [Act.put, List.setIfInBounds_toArray, List.set_cons_zero, List.set_cons_succ]
        refine wpAnyH_done (by kernel_rfl) ?_ _
        go_wp2_with fail
        go_roundg (L.length - (pos + 1))
        case measure => omega
        case rel => exact ⟨pos + 1, rfl, hlt, (by rw [HFT.out, List.length_append, List.map_append, List.length_append, List.map_append, ← Nat.add_assoc, ← List.append_assoc]; exact hown7), hit9, hO9, hB9⟩
    · have hnx := hit.end_ (P := Tryd.prog) hlt
      have htk : L.take pos = L := List.take_of_length_le (by omega)
      rw [htk] at hP
      obtain ⟨J, hJ⟩ : ∃ J, J = fb m L := ⟨_, rfl⟩
      have hJl := HLEN.out
      rw [← hJ] at hP hJl
      have HJ := Lib.hid hJ
      obtain ⟨AJ, cJ, rfl, -⟩ := sl_of_own hP
      clear hJ htk hit
      have c0 : World.cell? wr ⟨w.heap.size, 0, none⟩ = some (.int .u64 m.kd) := hO.cell 0
      have hba : Below wr.heap.size wr (wr.alloc (.cells #[.int .u64 m.kd] 22)) := (Below.refl _ _).alloc (Nat.le_refl _) _
      have hlit : Rd (wr.alloc (.cells #[.int .u64 m.kd] 22)) .u64 (.slice (some ⟨wr.heap.size, 0, none⟩) 1 1) [m.kd] := rd_lit wr [m.kd] (by simp)
      have hnum := rnums [m.kd] _ _ hlit (by simp) (fun x hx => by simp only [List.mem_cons, List.not_mem_nil, or_false] at hx; subst hx; exact h.kd) (fun x hx => vsz_some (by simp only [List.mem_cons, List.not_mem_nil, or_false] at hx; subst hx; omega))
      have hkq := joinN_len [m.kd] (fun x hx => vsz_some (by simp only [List.mem_cons, List.not_mem_nil, or_false] at hx; subst hx; omega))
      have hke := joinN_one m.kd []
      rw [List.append_nil, List.append_nil] at hke
      obtain ⟨q, hq⟩ : ∃ q, q = joinN [m.kd] := ⟨_, rfl⟩
      rw [← hq] at hnum hkq hke
      have HKE := Lib.hid hke
      have HQ := Lib.hid hq
      clear hq hke hlit
      rw [List.length_singleton] at hkq
      have hn0 : 0 ≤ (J.length : Int) / 256 ∧ (J.length : Int) / 256 ≤ 255 := by omega
      have hn1 : 0 ≤ (J.length : Int) % 256 ∧ (J.length : Int) % 256 ≤ 255 := by omega
      go_wp2_with fail
      (with_reducible refine hnum.mono ?_)
      clear hnum
      rintro e w3 ⟨u, rfl, ho, hb3⟩
      have hb := hba.trans (hb3.mono hba.size)
      have hPw := own_same hP hb
      have hBw := hB.trans (hb.mono hB.size)
      obtain ⟨A1, c1, rfl, -⟩ := sl_of_own ho
      have hap := own_apart (K := wr.heap.size) (fun b e => (hP.lt b e).2) (fun b e => Nat.le_trans hba.size (ho.lt b e).1)
      replace ho := own_base ho (Nat.le_trans hB.size hba.size)
      have HAP := Lib.hid hap
      clear hap
      clear hb hba hb3 hB hP hO c0
      have hw0 : IntKind.u8.wrap ((J.length : Int) / 256) = (J.length : Int) / 256 := by rw [IntKind.wrap_u8]; omega
      have hw1 : IntKind.u8.wrap ((J.length : Int) % 256) = (J.length : Int) % 256 := by rw [IntKind.wrap_u8]; omega
      have hd0 : (J.length : Int).tdiv 256 = (J.length : Int) / 256 := Int.tdiv_eq_ediv_of_nonneg (by omega)
      have hd1 : (J.length : Int).tmod 256 = (J.length : Int) % 256 := Int.tmod_eq_emod_of_nonneg (by omega)
      have hbx : Below w3.heap.size w3 (w3.alloc (.cells #[.int .u8 ((J.length : Int) / 256), .int .u8 ((J.length : Int) % 256)] 5)) := (Below.refl _ _).alloc (Nat.le_refl _) _
      have hox : (w3.alloc (.cells #[.int .u8 ((J.length : Int) / 256), .int .u8 ((J.length : Int) % 256)] 5)).ownsRow 0 5 1 (.slice (some ⟨w3.heap.size, 0, none⟩) 2 2) 2 ([(J.length : Int) / 256, (J.length : Int) % 256].map (Value.int .u8)) := World.ownsRow_lit (size := 1) (e := 5) w3 #[.int .u8 ((J.length : Int) / 256), .int .u8 ((J.length : Int) % 256)] 2 (Nat.zero_le _) (by decide) rfl
      have H1 := Lib.hid (rd_of_own (k := .u8) hox).rdv
      have ho2 := own_same ho hbx
      have hP2 := own_same hPw hbx
      have hB2 := hBw.trans (hbx.mono hBw.size)
      have hBs := hB2.size
      have hbd1 : q.length + 2 ≤ maxLen := by unfold maxLen; omega
      have hbd2 : (q.length + 2) * 1 ≤ 140737488355328 := by omega
      have hbd3 : q.length + 2 + J.length ≤ maxLen := by unfold maxLen; omega
      have hbd4 : (q.length + 2 + J.length) * 1 ≤ 140737488355328 := by omega
      clear hox ho hbx hPw hBw
      go_wp2_with (at_builtin; first | (refine wpList_append_any _ rfl _ _ 23 rfl w.heap.size 5 i0 _ 1 1 Tryd.underlying23 hi0 hz0 hz1 hz2 rfl (by decide) (.slice A1 q.length c1) q.length _ rfl ho2 (some ⟨w3.heap.size, 0, none⟩) 2 2 _ rfl H1.out.2.2.2.2 (oneInts _ _) hbd1 hbd2 hBs (fun e => by cases e) ?_; intro v5 w5 hown5 hgrow5 hat5; obtain ⟨A5, c5, e5, -⟩ := sl_of_own hown5; subst e5; have hP5 := own_grown hP2 hgrow5 HAP.out; have H5 := Lib.hid (rd_of_own (k := .u8) hP5).rdv; have hB5 := hB2.grown hgrow5 hB2.size (fun b hb => (ho2.lt b hb).1); have hBs5 := hB5.size) | (refine wpList_append_any _ rfl _ _ 23 rfl w.heap.size 5 i0 _ 1 1 Tryd.underlying23 hi0 hz0 hz1 hz2 rfl (by decide) (.slice A5 (q.length + 2) c5) (q.length + 2) _ rfl hown5 AJ J.length cJ _ rfl H5.out.2.2.2.2 (oneInts _ _) hbd3 hbd4 hBs5 H5.out.2.1 ?_; intro v7 w7 hown7 hgrow7 hat7; obtain ⟨A7, c7, e7, -⟩ := sl_of_own hown7; subst e7; have hB7 := hB5.grown hgrow7 hB5.size (fun b hb => (hown5.lt b hb).1)))
      go_ret2
      exact ⟨_, rfl, (by rw [HBTS.out, ← HJ.out, ← HKE.out, List.length_append, List.length_append, List.map_append, List.map_append]; exact hown7), hB7⟩

end Go.Proofs.YtjijmbpgfabgcaaDoor
