/-
  Few: a message that isn't too long. No condition.
-/
import Derived.Test.YtjijmbpgfabgcaaDoorZJ
import Derived.Test.YtjijmbpgfabgcaaDoorZL
import Derived.Deep.DeepCutAuto
import Derived.Deep.CutBlock
import Derived.Test.YtjijmbpgfabgcaaDoorZA
import Derived.Test.YtjijmbpgfabgcaaDoorZB
namespace Go.Proofs.YtjijmbpgfabgcaaDoor
open Go.RowKit
set_option linter.unusedVariables false
set_option linter.unusedSimpArgs false

theorem cut_lit (v : Value) (l : List Int) (z : Int) (n : Nat) (hz : z = (n : Int)) (w : World) (ha : Rd w .u8 v l) (hn : n ≤ 1099511627776) : Calls Tryd.prog 15 #[v, .int .i64 z] w fun e w' => ∃ v', e = .returned v' ∧ w'.ownsRow w.heap.size 5 1 v' (l.take n).length ((l.take n).map (Value.int .u8)) ∧ Below w.heap.size w w' := by
  subst hz
  exact cut_any v l n w ha hn
theorem cut40 (v : Value) (l : List Int) (w : World) (ha : Rd w .u8 v l) : Calls Tryd.prog 15 #[v, .int .i64 40] w fun e w' => ∃ v', e = .returned v' ∧ w'.ownsRow w.heap.size 5 1 v' (l.take 40).length ((l.take 40).map (Value.int .u8)) ∧ Below w.heap.size w w' := cut_lit v l 40 40 rfl w ha (by decide)
theorem cut80 (v : Value) (l : List Int) (w : World) (ha : Rd w .u8 v l) : Calls Tryd.prog 15 #[v, .int .i64 80] w fun e w' => ∃ v', e = .returned v' ∧ w'.ownsRow w.heap.size 5 1 v' (l.take 80).length ((l.take 80).map (Value.int .u8)) ∧ Below w.heap.size w w' := cut_lit v l 80 80 rfl w ha (by decide)
theorem rd_old {w w' : World} {k : IntKind} {v : Value} {l : List Int} (h : Rd w k v l) (hb : Below w.heap.size w w') : Rd w' k v l := h.below hb
/-- A message that isn't too long. -/
def few (m : M) : M := { m with nm := m.nm.take 40, rs := m.rs.take 80, vs := m.vs.take 12 }
set_option maxHeartbeats 4000000 in
set_option maxRecDepth 100000 in
theorem few_any (m : M) (nv rv vv : Value) (w : World) (hM : MV w m nv rv vv) :
    Calls Tryd.prog 10 #[.agg (m.cells nv rv vv)] w fun e w' => ∃ nv' rv' vv', e = .returned (.agg ((few m).cells nv' rv' vv')) ∧ RdT w' nv' (few m).nm ∧ RdT w' rv' (few m).rs ∧ w'.ownsRow w.heap.size 22 1 vv' (few m).vs.length ((few m).vs.map (Value.int .u64)) ∧ Below w.heap.size w w' := by
  obtain ⟨iU, hiU, hzU⟩ := Option.map_eq_some_iff.1 infoU64
  simp only [Prod.mk.injEq] at hzU
  obtain ⟨hu0, hu1, hu2⟩ := hzU
  obtain ⟨nA, nc, rfl⟩ := hM.nm.form
  obtain ⟨rA, rc, rfl⟩ := hM.rs.form
  obtain ⟨vA, vc, rfl⟩ := hM.vs.form
  have hO0 := Blk.new w 28 #[.int .u64 m.kd, .int .u64 m.id, .int .u64 m.al, .slice nA m.nm.length nc, .int .u8 m.pr, .int .u8 m.od, .int .u64 m.sg, .int .u64 m.so, .int .u64 m.eg, .int .u64 m.eo, .bool m.sm, .int .u64 m.cd, .slice rA m.rs.length rc, .int .u64 m.n, .int .u64 m.ve, .slice vA m.vs.length vc]
  have hZ0 := Blk.new (w.alloc (.cells #[.int .u64 m.kd, .int .u64 m.id, .int .u64 m.al, .slice nA m.nm.length nc, .int .u8 m.pr, .int .u8 m.od, .int .u64 m.sg, .int .u64 m.so, .int .u64 m.eg, .int .u64 m.eo, .bool m.sm, .int .u64 m.cd, .slice rA m.rs.length rc, .int .u64 m.n, .int .u64 m.ve, .slice vA m.vs.length vc] 28)) 28 #[.int .u64 0, .int .u64 0, .int .u64 0, .slice none 0 0, .int .u8 0, .int .u8 0, .int .u64 0, .int .u64 0, .int .u64 0, .int .u64 0, .bool false, .int .u64 0, .slice none 0 0, .int .u64 0, .int .u64 0, .slice none 0 0]
  rw [show (w.alloc (.cells #[.int .u64 m.kd, .int .u64 m.id, .int .u64 m.al, .slice nA m.nm.length nc, .int .u8 m.pr, .int .u8 m.od, .int .u64 m.sg, .int .u64 m.so, .int .u64 m.eg, .int .u64 m.eo, .bool m.sm, .int .u64 m.cd, .slice rA m.rs.length rc, .int .u64 m.n, .int .u64 m.ve, .slice vA m.vs.length vc] 28)).heap.size = w.heap.size + 1 by simp] at hZ0
  have hb0 : Below w.heap.size w ((w.alloc (.cells #[.int .u64 m.kd, .int .u64 m.id, .int .u64 m.al, .slice nA m.nm.length nc, .int .u8 m.pr, .int .u8 m.od, .int .u64 m.sg, .int .u64 m.so, .int .u64 m.eg, .int .u64 m.eo, .bool m.sm, .int .u64 m.cd, .slice rA m.rs.length rc, .int .u64 m.n, .int .u64 m.ve, .slice vA m.vs.length vc] 28)).alloc (.cells #[.int .u64 0, .int .u64 0, .int .u64 0, .slice none 0 0, .int .u8 0, .int .u8 0, .int .u64 0, .int .u64 0, .int .u64 0, .int .u64 0, .bool false, .int .u64 0, .slice none 0 0, .int .u64 0, .int .u64 0, .slice none 0 0] 28)) := ((Below.refl w.heap.size w).alloc (Nat.le_refl _) _).alloc (by simp) _
  go_enter Tryd.func10, Tryd.ntmps10
  go_wp2_with fail
  refine wp_world (fun wz => Blk wz w.heap.size 28 #[.int .u64 m.kd, .int .u64 m.id, .int .u64 m.al, .slice nA m.nm.length nc, .int .u8 m.pr, .int .u8 m.od, .int .u64 m.sg, .int .u64 m.so, .int .u64 m.eg, .int .u64 m.eo, .bool m.sm, .int .u64 m.cd, .slice rA m.rs.length rc, .int .u64 m.n, .int .u64 m.ve, .slice vA m.vs.length vc] ∧ Blk wz (w.heap.size + 1) 28 #[.int .u64 0, .int .u64 0, .int .u64 0, .slice none 0 0, .int .u8 0, .int .u8 0, .int .u64 0, .int .u64 0, .int .u64 0, .int .u64 0, .bool false, .int .u64 0, .slice none 0 0, .int .u64 0, .int .u64 0, .slice none 0 0] ∧ MV wz m (.slice nA m.nm.length nc) (.slice rA m.rs.length rc) (.slice vA m.vs.length vc) ∧ Below w.heap.size w wz) ⟨hO0.alloc _, hZ0, hM.below hb0, hb0⟩ ?_
  clear hO0 hZ0 hb0
  rintro w1 ⟨hO1, hZ1, hM1, hB1⟩
  have hne : w.heap.size ≠ w.heap.size + 1 := by omega
  obtain ⟨LN, hLN⟩ : ∃ L, L = m.nm.take 40 := ⟨_, rfl⟩
  obtain ⟨LR, hLR⟩ : ∃ L, L = m.rs.take 80 := ⟨_, rfl⟩
  have HLN := Lib.hid hLN
  have HLR := Lib.hid hLR
  clear hLN hLR
  go_cut [] (fun wc => ∃ nA2 nc2 rA2 rc2, Blk wc w.heap.size 28 #[.int .u64 m.kd, .int .u64 m.id, .int .u64 m.al, .slice nA2 LN.length nc2, .int .u8 m.pr, .int .u8 m.od, .int .u64 m.sg, .int .u64 m.so, .int .u64 m.eg, .int .u64 m.eo, .bool m.sm, .int .u64 m.cd, .slice rA2 LR.length rc2, .int .u64 m.n, .int .u64 m.ve, .slice vA m.vs.length vc] ∧ RdT wc (.slice nA2 LN.length nc2) LN ∧ RdT wc (.slice rA2 LR.length rc2) LR ∧ Blk wc (w.heap.size + 1) 28 #[.int .u64 0, .int .u64 0, .int .u64 0, .slice none 0 0, .int .u8 0, .int .u8 0, .int .u64 0, .int .u64 0, .int .u64 0, .int .u64 0, .bool false, .int .u64 0, .slice none 0 0, .int .u64 0, .int .u64 0, .slice none 0 0] ∧ Below w.heap.size w wc)
  case first =>
    have hn1 : Rd w1.drew .u8 (.slice nA m.nm.length nc) m.nm := hM1.nm
    have hs1 : w.heap.size ≤ w1.heap.size := hB1.size
    have c3 : World.cell? w1 ⟨w.heap.size, 3, none⟩ = some (.slice nA m.nm.length nc) := hO1.cell 3; have c12 : World.cell? w1 ⟨w.heap.size, 12, none⟩ = some (.slice rA m.rs.length rc) := hO1.cell 12
    go_region_law (first | (go_simp; go_at_call 15; (with_reducible refine (cut40 (.slice nA m.nm.length nc) m.nm w1.drew hn1).mono ?_); rintro e w2 ⟨v1, rfl, ho1, hb1⟩; rw [← HLN.out] at ho1; obtain ⟨nA2, nc2, rfl, _⟩ := sl_of_own ho1; have hO2 := hO1.drew.same hb1; have hZ2 := hZ1.drew.same hb1; have hr2 := hM1.rs.drew.below hb1; have hv2 := hM1.vs.drew.below hb1; have hB2 : Below w.heap.size w w2 := hB1.trans ((below_drewN (Below.refl _ _) 1).trans (hb1.mono hs1)); have d3 : World.cell? w2 ⟨w.heap.size, 3, none⟩ = some (.slice nA m.nm.length nc) := hO2.cell 3; have d12 : World.cell? w2 ⟨w.heap.size, 12, none⟩ = some (.slice rA m.rs.length rc) := hO2.cell 12) | (go_simp; go_at_call 15; (with_reducible refine (cut80 (.slice rA m.rs.length rc) m.rs w2 hr2).mono ?_); rintro e w3 ⟨v2, rfl, ho2, hb2⟩; rw [← HLR.out] at ho2; obtain ⟨rA2, rc2, rfl, _⟩ := sl_of_own ho2; have hO3 := hO2.same hb2; have hZ3 := hZ2.same hb2; have hn3 := (rdt_of_own ho1).below hb2; have hr3 := rdt_of_own ho2; have hv3 := hv2.below hb2; have hB3 := hB2.trans (hb2.mono hB2.size); have e3 : World.cell? w3 ⟨w.heap.size, 3, none⟩ = some (.slice nA m.nm.length nc) := hO3.cell 3; have e12 : World.cell? w3 ⟨w.heap.size, 12, none⟩ = some (.slice rA m.rs.length rc) := hO3.cell 12; have f3 := hO3.frozen 3; have f12 := hO3.frozen 12))
    all_goals go_wp2_with fail
    all_goals go_meet
    all_goals exact ⟨_, _, _, _, by simpa using (hO3.set_ 3 (.slice nA2 LN.length nc2)).set_ 12 (.slice rA2 LR.length rc2), rdt_set (rdt_set hn3 hO3 (by decide) 3 _) (hO3.set_ 3 _) (by decide) 12 _, rdt_set (rdt_set hr3 hO3 (by decide) 3 _) (hO3.set_ 3 _) (by decide) 12 _, (hZ3.far (p := ⟨w.heap.size, 3, none⟩) (Ne.symm hne) _).far (p := ⟨w.heap.size, 12, none⟩) (Ne.symm hne) _, (hB3.setCell (p := ⟨w.heap.size, 3, none⟩) (Nat.le_refl _) _).setCell (p := ⟨w.heap.size, 12, none⟩) (Nat.le_refl _) _⟩
  clear hO1 hZ1 hM1 hB1
  obtain ⟨w4, hwe⟩ : ∃ x, x = wc := ⟨_, rfl⟩
  subst hwe
  obtain ⟨nA2, nc2, rA2, rc2, hO4, hn4, hr4, hZ4, hB4⟩ := hcut
  have hv4 : Rd w4 .u64 (.slice vA m.vs.length vc) m.vs := rd_old hM.vs hB4
  obtain ⟨K, hK⟩ : ∃ K, K = Nat.min m.vs.length 12 := ⟨_, rfl⟩
  have hKl : K ≤ m.vs.length := by rw [hK]; exact Nat.min_le_left _ _
  have hK12 : K ≤ 12 := by rw [hK]; exact Nat.min_le_right _ _
  have hKd : (m.vs.length ≤ 12 ∧ K = m.vs.length) ∨ (12 < m.vs.length ∧ K = 12) := by
    rcases Nat.lt_or_ge 12 m.vs.length with h | h
    · exact .inr ⟨h, by rw [hK]; exact Nat.min_eq_right (by omega)⟩
    · exact .inl ⟨h, by rw [hK]; exact Nat.min_eq_left h⟩
  have hmin : (if (12 : Int) < (m.vs.length : Int) then (12 : Int) else (m.vs.length : Int)) = (K : Int) := by split <;> omega
  have hmin2 : min (m.vs.length : Int) 12 = (K : Int) := by omega
  have HKD := Lib.hid hKd
  clear hKd
  have hcap := hv4.rdv.2.2.1
  have hKc : (K : Int) ≤ (vc : Int) := by omega
  have HK := Lib.hid hK
  have hvK : Rd w4 .u64 (.slice vA K vc) (m.vs.take K) := by have := hv4.pre (m := K) hKl; exact this
  have hbX : Below w4.heap.size w4 (w4.alloc (.cells #[] 22)) := (Below.refl _ _).alloc (Nat.le_refl _) _
  have hOX := hO4.same hbX
  have hZX := hZ4.same hbX
  have hoX : (w4.alloc (.cells #[] 22)).ownsRow w.heap.size 22 1 (.slice (some ⟨w4.heap.size, 0, none⟩) 0 0) 0 [] := World.ownsRow_lit (size := 1) (e := 22) w4 #[] 0 hB4.size (by decide) rfl
  have hvX := (hvK.below hbX).rdv
  have x15 : World.cell? (w4.alloc (.cells #[] 22)) ⟨w.heap.size, 15, none⟩ = some (.slice vA m.vs.length vc) := hOX.cell 15
  have hBX := hB4.trans (hbX.mono hB4.size)
  have hlK : (m.vs.take K).length = K := by rw [List.length_take]; omega
  have hp1 : 0 + K ≤ maxLen := by unfold maxLen; omega
  have hp2 : (0 + K) * 8 ≤ 140737488355328 := by omega
  have HV := Lib.hid hvX.2.2.2.2
  have HA := Lib.hid hvX.2.1
  clear hK hvX hvK hv4
  go_upto_region 3 with (at_builtin; refine wpList_append_any _ rfl _ _ 26 rfl w.heap.size 22 iU _ 1 8 Tryd.underlying26 hiU hu0 hu1 hu2 rfl (by decide) (.slice (some ⟨w4.heap.size, 0, none⟩) 0 0) 0 [] rfl hoX vA K vc _ rfl HV.out (oneInts _ _) hp1 hp2 hBX.size HA.out ?_; intro v5 w5 ho5 hg5 hat5; obtain ⟨vA5, vc5, rfl, _⟩ := sl_of_own ho5; have hO5 := hOX.grown hg5 (Ne.symm (own_blk_ne hoX hOX (by decide))); have hZ5 := hZX.grown hg5 (Ne.symm (own_blk_ne hoX hZX (by decide))); have y15 : World.cell? w5 ⟨w.heap.size, 15, none⟩ = some (.slice vA m.vs.length vc) := hO5.cell 15; have g15 := hO5.frozen 15)
  have hown5 : w5.ownsRow w.heap.size 22 1 (.slice vA5 K vc5) K ((m.vs.take K).map (Value.int .u64)) := by simpa using ho5
  have hn5 := rdt_own22 (hn4.below hbX) hoX hg5
  have hr5 := rdt_own22 (hr4.below hbX) hoX hg5
  have hB5 := hBX.grown hg5 hBX.size (fun b hb => (hoX.lt b hb).1)
  try simp only [Nat.zero_add]
  refine wp_world (fun wz => Blk wz w.heap.size 28 #[.int .u64 m.kd, .int .u64 m.id, .int .u64 m.al, .slice nA2 LN.length nc2, .int .u8 m.pr, .int .u8 m.od, .int .u64 m.sg, .int .u64 m.so, .int .u64 m.eg, .int .u64 m.eo, .bool m.sm, .int .u64 m.cd, .slice rA2 LR.length rc2, .int .u64 m.n, .int .u64 m.ve, .slice vA5 K vc5] ∧ Blk wz (w.heap.size + 1) 28 #[.int .u64 0, .int .u64 0, .int .u64 0, .slice none 0 0, .int .u8 0, .int .u8 0, .int .u64 0, .int .u64 0, .int .u64 0, .int .u64 0, .bool false, .int .u64 0, .slice none 0 0, .int .u64 0, .int .u64 0, .slice none 0 0] ∧ RdT wz (.slice nA2 LN.length nc2) LN ∧ RdT wz (.slice rA2 LR.length rc2) LR ∧ wz.ownsRow w.heap.size 22 1 (.slice vA5 K vc5) K ((m.vs.take K).map (Value.int .u64)) ∧ Below w.heap.size w wz) ⟨by simpa using hO5.set_ 15 (.slice vA5 K vc5), hZ5.far (p := ⟨w.heap.size, 15, none⟩) (Ne.symm hne) _, rdt_set hn5 hO5 (by decide) 15 _, rdt_set hr5 hO5 (by decide) 15 _, own_far hown5 (own_blk_ne hown5 hO5 (by decide)) _, hB5.setCell (p := ⟨w.heap.size, 15, none⟩) (Nat.le_refl _) _⟩ ?_
  clear hO5 hZ5 hn5 hr5 hown5 hB5 hg5 hoX hOX hZX hBX hbX hO4 hn4 hr4 hZ4 hB4 x15 y15 g15 hat5 ho5
  rintro w6 ⟨hO6, hZ6, hn6, hr6, hv6, hB6⟩
  have x0 : w6.cell? ⟨w.heap.size, 0, none⟩ = some (.int .u64 m.kd) := hO6.cell 0
  have y0 : w6.cell? ⟨w.heap.size + 1, 0, none⟩ = some (.int .u64 0) := hZ6.cell 0
  have f0 := hZ6.frozen 0
  have x1 : w6.cell? ⟨w.heap.size, 1, none⟩ = some (.int .u64 m.id) := hO6.cell 1
  have y1 : w6.cell? ⟨w.heap.size + 1, 1, none⟩ = some (.int .u64 0) := hZ6.cell 1
  have f1 := hZ6.frozen 1
  have x2 : w6.cell? ⟨w.heap.size, 2, none⟩ = some (.int .u64 m.al) := hO6.cell 2
  have y2 : w6.cell? ⟨w.heap.size + 1, 2, none⟩ = some (.int .u64 0) := hZ6.cell 2
  have f2 := hZ6.frozen 2
  have x3 : w6.cell? ⟨w.heap.size, 3, none⟩ = some (.slice nA2 LN.length nc2) := hO6.cell 3
  have y3 : w6.cell? ⟨w.heap.size + 1, 3, none⟩ = some (.slice none 0 0) := hZ6.cell 3
  have f3 := hZ6.frozen 3
  have x4 : w6.cell? ⟨w.heap.size, 4, none⟩ = some (.int .u8 m.pr) := hO6.cell 4
  have y4 : w6.cell? ⟨w.heap.size + 1, 4, none⟩ = some (.int .u8 0) := hZ6.cell 4
  have f4 := hZ6.frozen 4
  have x5 : w6.cell? ⟨w.heap.size, 5, none⟩ = some (.int .u8 m.od) := hO6.cell 5
  have y5 : w6.cell? ⟨w.heap.size + 1, 5, none⟩ = some (.int .u8 0) := hZ6.cell 5
  have f5 := hZ6.frozen 5
  have x6 : w6.cell? ⟨w.heap.size, 6, none⟩ = some (.int .u64 m.sg) := hO6.cell 6
  have y6 : w6.cell? ⟨w.heap.size + 1, 6, none⟩ = some (.int .u64 0) := hZ6.cell 6
  have f6 := hZ6.frozen 6
  have x7 : w6.cell? ⟨w.heap.size, 7, none⟩ = some (.int .u64 m.so) := hO6.cell 7
  have y7 : w6.cell? ⟨w.heap.size + 1, 7, none⟩ = some (.int .u64 0) := hZ6.cell 7
  have f7 := hZ6.frozen 7
  have x8 : w6.cell? ⟨w.heap.size, 8, none⟩ = some (.int .u64 m.eg) := hO6.cell 8
  have y8 : w6.cell? ⟨w.heap.size + 1, 8, none⟩ = some (.int .u64 0) := hZ6.cell 8
  have f8 := hZ6.frozen 8
  have x9 : w6.cell? ⟨w.heap.size, 9, none⟩ = some (.int .u64 m.eo) := hO6.cell 9
  have y9 : w6.cell? ⟨w.heap.size + 1, 9, none⟩ = some (.int .u64 0) := hZ6.cell 9
  have f9 := hZ6.frozen 9
  have x10 : w6.cell? ⟨w.heap.size, 10, none⟩ = some (.bool m.sm) := hO6.cell 10
  have y10 : w6.cell? ⟨w.heap.size + 1, 10, none⟩ = some (.bool false) := hZ6.cell 10
  have f10 := hZ6.frozen 10
  have x11 : w6.cell? ⟨w.heap.size, 11, none⟩ = some (.int .u64 m.cd) := hO6.cell 11
  have y11 : w6.cell? ⟨w.heap.size + 1, 11, none⟩ = some (.int .u64 0) := hZ6.cell 11
  have f11 := hZ6.frozen 11
  have x12 : w6.cell? ⟨w.heap.size, 12, none⟩ = some (.slice rA2 LR.length rc2) := hO6.cell 12
  have y12 : w6.cell? ⟨w.heap.size + 1, 12, none⟩ = some (.slice none 0 0) := hZ6.cell 12
  have f12 := hZ6.frozen 12
  have x13 : w6.cell? ⟨w.heap.size, 13, none⟩ = some (.int .u64 m.n) := hO6.cell 13
  have y13 : w6.cell? ⟨w.heap.size + 1, 13, none⟩ = some (.int .u64 0) := hZ6.cell 13
  have f13 := hZ6.frozen 13
  have x14 : w6.cell? ⟨w.heap.size, 14, none⟩ = some (.int .u64 m.ve) := hO6.cell 14
  have y14 : w6.cell? ⟨w.heap.size + 1, 14, none⟩ = some (.int .u64 0) := hZ6.cell 14
  have f14 := hZ6.frozen 14
  have x15 : w6.cell? ⟨w.heap.size, 15, none⟩ = some (.slice vA5 K vc5) := hO6.cell 15
  have y15 : w6.cell? ⟨w.heap.size + 1, 15, none⟩ = some (.slice none 0 0) := hZ6.cell 15
  have f15 := hZ6.frozen 15
  go_wp2_with fail
  have hOf := hZ6.set16 (.int .u64 m.kd) (.int .u64 m.id) (.int .u64 m.al) (.slice nA2 LN.length nc2) (.int .u8 m.pr) (.int .u8 m.od) (.int .u64 m.sg) (.int .u64 m.so) (.int .u64 m.eg) (.int .u64 m.eo) (.bool m.sm) (.int .u64 m.cd) (.slice rA2 LR.length rc2) (.int .u64 m.n) (.int .u64 m.ve) (.slice vA5 K vc5)
  have hBf := below16 hB6 (Nat.le_succ w.heap.size) (.int .u64 m.kd) (.int .u64 m.id) (.int .u64 m.al) (.slice nA2 LN.length nc2) (.int .u8 m.pr) (.int .u8 m.od) (.int .u64 m.sg) (.int .u64 m.so) (.int .u64 m.eg) (.int .u64 m.eo) (.bool m.sm) (.int .u64 m.cd) (.slice rA2 LR.length rc2) (.int .u64 m.n) (.int .u64 m.ve) (.slice vA5 K vc5)
  have hKf := fun (g : Nat) (t : TypeId) (cs : Array Value) (x : Blk w6 g t cs) (n1 : t ≠ 28) => far16 x (x.ne_ hZ6 n1) (.int .u64 m.kd) (.int .u64 m.id) (.int .u64 m.al) (.slice nA2 LN.length nc2) (.int .u8 m.pr) (.int .u8 m.od) (.int .u64 m.sg) (.int .u64 m.so) (.int .u64 m.eg) (.int .u64 m.eo) (.bool m.sm) (.int .u64 m.cd) (.slice rA2 LR.length rc2) (.int .u64 m.n) (.int .u64 m.ve) (.slice vA5 K vc5)
  replace y0 : World.cell? _ ⟨w.heap.size + 1, 0, none⟩ = some (.int .u64 m.kd) := hOf.cell 0
  replace y1 : World.cell? _ ⟨w.heap.size + 1, 1, none⟩ = some (.int .u64 m.id) := hOf.cell 1
  replace y2 : World.cell? _ ⟨w.heap.size + 1, 2, none⟩ = some (.int .u64 m.al) := hOf.cell 2
  replace y3 : World.cell? _ ⟨w.heap.size + 1, 3, none⟩ = some (.slice nA2 LN.length nc2) := hOf.cell 3
  replace y4 : World.cell? _ ⟨w.heap.size + 1, 4, none⟩ = some (.int .u8 m.pr) := hOf.cell 4
  replace y5 : World.cell? _ ⟨w.heap.size + 1, 5, none⟩ = some (.int .u8 m.od) := hOf.cell 5
  replace y6 : World.cell? _ ⟨w.heap.size + 1, 6, none⟩ = some (.int .u64 m.sg) := hOf.cell 6
  replace y7 : World.cell? _ ⟨w.heap.size + 1, 7, none⟩ = some (.int .u64 m.so) := hOf.cell 7
  replace y8 : World.cell? _ ⟨w.heap.size + 1, 8, none⟩ = some (.int .u64 m.eg) := hOf.cell 8
  replace y9 : World.cell? _ ⟨w.heap.size + 1, 9, none⟩ = some (.int .u64 m.eo) := hOf.cell 9
  replace y10 : World.cell? _ ⟨w.heap.size + 1, 10, none⟩ = some (.bool m.sm) := hOf.cell 10
  replace y11 : World.cell? _ ⟨w.heap.size + 1, 11, none⟩ = some (.int .u64 m.cd) := hOf.cell 11
  replace y12 : World.cell? _ ⟨w.heap.size + 1, 12, none⟩ = some (.slice rA2 LR.length rc2) := hOf.cell 12
  replace y13 : World.cell? _ ⟨w.heap.size + 1, 13, none⟩ = some (.int .u64 m.n) := hOf.cell 13
  replace y14 : World.cell? _ ⟨w.heap.size + 1, 14, none⟩ = some (.int .u64 m.ve) := hOf.cell 14
  replace y15 : World.cell? _ ⟨w.heap.size + 1, 15, none⟩ = some (.slice vA5 K vc5) := hOf.cell 15
  refine bodyPost_ret (v := .agg #[.int .u64 m.kd, .int .u64 m.id, .int .u64 m.al, .slice nA2 LN.length nc2, .int .u8 m.pr, .int .u8 m.od, .int .u64 m.sg, .int .u64 m.so, .int .u64 m.eg, .int .u64 m.eo, .bool m.sm, .int .u64 m.cd, .slice rA2 LR.length rc2, .int .u64 m.n, .int .u64 m.ve, .slice vA5 K vc5]) (by simp [results, Tryd.results10, go_sem, y0, y1, y2, y3, y4, y5, y6, y7, y8, y9, y10, y11, y12, y13, y14, y15]) rfl ?_
  have e1 : (few m).nm = LN := HLN.out.symm
  have e2 : (few m).rs = LR := HLR.out.symm
  have e3 : (few m).vs = m.vs.take K := by
    show m.vs.take 12 = m.vs.take K
    rcases HKD.out with ⟨h, k⟩ | ⟨h, k⟩
    · rw [k, List.take_length, List.take_of_length_le h]
    · rw [k]
  rw [e1, e2, e3, hlK]
  exact ⟨_, _, _, rfl, rdt_blk hn6 (fun g cs x => hKf g 5 cs x (by decide)) (by simp), rdt_blk hr6 (fun g cs x => hKf g 5 cs x (by decide)) (by simp), own_blks hv6 (fun g cs x => hKf g 22 cs x (by decide)), hBf⟩

end Go.Proofs.YtjijmbpgfabgcaaDoor
