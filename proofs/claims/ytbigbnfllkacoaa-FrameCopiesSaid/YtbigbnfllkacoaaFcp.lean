/-
  A frame cut, a frame copied, two frames held against one another.
-/
import Derived.Test.YtbigbnfllkacoaaFawk
import Derived.Test.YtbigbnfllkacoaaRanges
namespace Go.Proofs.Ytbigbnfllkacoaa
open Go.RowKit
set_option linter.unusedVariables false
set_option linter.unusedSimpArgs false


theorem infoR : (Try.prog.info? 31).map (fun i => (i.zero, i.size, i.bytes)) = some (some (.agg #[.int .u64 0, .int .u64 0]), 2, 16) := by kernel_rfl
theorem cut1300 (v : Value) (l L : List Int) (hL : L = l.take 1300) (w : World) (ha : Rd w .u8 v l) : Calls Try.prog 14 #[v, .int .i64 1300] w fun e w' => ∃ v', e = .returned v' ∧ w'.ownsRow w.heap.size 5 1 v' L.length (L.map (Value.int .u8)) ∧ Below w.heap.size w w' := hL ▸ cut_any v l 1300 w ha (by decide)
theorem cut40 (v : Value) (l L : List Int) (hL : L = l.take 40) (w : World) (ha : Rd w .u8 v l) : Calls Try.prog 14 #[v, .int .i64 40] w fun e w' => ∃ v', e = .returned v' ∧ w'.ownsRow w.heap.size 5 1 v' L.length (L.map (Value.int .u8)) ∧ Below w.heap.size w w' := hL ▸ cut_any v l 40 w ha (by decide)
theorem own_base' {w : World} {base base' : Nat} {e : TypeId} {size n : Nat} {v : Value} {xs : List Value} (h : w.ownsRow base e size v n xs) (hb : base' ≤ base) : w.ownsRow base' e size v n xs := own_base h hb
set_option maxHeartbeats 4000000 in
set_option maxRecDepth 100000 in
theorem few_any (k i o n c : Int) (fin : Bool) (D T R : Value) (ld lt : List Int) (lr : List (Int × Int)) (w : World) (hD : Rd w .u8 D ld) (hT : Rd w .u8 T lt) (hR : RdP w R lr) :
    Calls Try.prog 6 #[.agg #[.int .u64 k, .int .u64 i, .int .u64 o, .int .u64 n, .int .u64 c, .bool fin, D, T, R]] w fun e w' => ∃ D' T' R', e = .returned (.agg #[.int .u64 k, .int .u64 i, .int .u64 o, .int .u64 n, .int .u64 c, .bool fin, D', T', R']) ∧ w'.ownsRow w.heap.size 5 1 D' (ld.take 1300).length ((ld.take 1300).map (Value.int .u8)) ∧ w'.ownsRow w.heap.size 5 1 T' (lt.take 40).length ((lt.take 40).map (Value.int .u8)) ∧ w'.ownsRow w.heap.size 31 2 R' (lr.take 30).length (pcs (lr.take 30)) ∧ Below w.heap.size w w' := by
  obtain ⟨j0, hj, hy0, hy1, hy2⟩ := info_parts infoR
  obtain ⟨lD, hlD⟩ : ∃ lD, lD = ld.take 1300 := ⟨_, rfl⟩
  obtain ⟨lT, hlT⟩ : ∃ lT, lT = lt.take 40 := ⟨_, rfl⟩
  rw [← hlD, ← hlT]
  have HLD := Lib.hid hlD
  have HLT := Lib.hid hlT
  clear hlD hlT
  obtain ⟨Ad, cd, rfl⟩ := hD.form
  obtain ⟨At, ct, rfl⟩ := hT.form
  obtain ⟨Ar, cr, rfl⟩ := hR.form
  have HD := Lib.hid hD
  have HT := Lib.hid hT
  have HR := Lib.hid hR
  clear hD hT hR
  have hO := (Blk.new w 26 #[.int .u64 k, .int .u64 i, .int .u64 o, .int .u64 n, .int .u64 c, .bool fin, .slice Ad ld.length cd, .slice At lt.length ct, .slice Ar lr.length cr]).alloc (.cells #[.int .u64 0, .int .u64 0, .int .u64 0, .int .u64 0, .int .u64 0, .bool false, .slice none 0 0, .slice none 0 0, .slice none 0 0] 26)
  have hZ := Blk.new (w.alloc (.cells #[.int .u64 k, .int .u64 i, .int .u64 o, .int .u64 n, .int .u64 c, .bool fin, .slice Ad ld.length cd, .slice At lt.length ct, .slice Ar lr.length cr] 26)) 26 #[.int .u64 0, .int .u64 0, .int .u64 0, .int .u64 0, .int .u64 0, .bool false, .slice none 0 0, .slice none 0 0, .slice none 0 0]
  rw [World.size_alloc] at hZ
  have hB := ((Below.refl w.heap.size w).alloc (Nat.le_refl _) (.cells #[.int .u64 k, .int .u64 i, .int .u64 o, .int .u64 n, .int .u64 c, .bool fin, .slice Ad ld.length cd, .slice At lt.length ct, .slice Ar lr.length cr] 26)).alloc (by simp) (.cells #[.int .u64 0, .int .u64 0, .int .u64 0, .int .u64 0, .int .u64 0, .bool false, .slice none 0 0, .slice none 0 0, .slice none 0 0] 26)
  go_enter Try.func6, Try.ntmps6
  go_wp2_with fail
  refine wp_world (fun wz => Blk wz w.heap.size 26 #[.int .u64 k, .int .u64 i, .int .u64 o, .int .u64 n, .int .u64 c, .bool fin, .slice Ad ld.length cd, .slice At lt.length ct, .slice Ar lr.length cr] ∧ Blk wz (w.heap.size + 1) 26 #[.int .u64 0, .int .u64 0, .int .u64 0, .int .u64 0, .int .u64 0, .bool false, .slice none 0 0, .slice none 0 0, .slice none 0 0] ∧ Below w.heap.size w wz) ⟨hO, hZ, hB⟩ ?_
  clear hO hZ hB
  rintro w1 ⟨hO, hZ, hB⟩
  have c6 : World.cell? w1 ⟨w.heap.size, 6, none⟩ = some (.slice Ad ld.length cd) := hO.cell 6
  have c7 : World.cell? w1 ⟨w.heap.size, 7, none⟩ = some (.slice At lt.length ct) := hO.cell 7
  have f6 := hO.frozen 6
  have f7 := hO.frozen 7
  go_upto_region 2 with (fail)
  go_cut [] (fun wx => ∃ AD kD AT kT, Blk wx w.heap.size 26 #[.int .u64 k, .int .u64 i, .int .u64 o, .int .u64 n, .int .u64 c, .bool fin, .slice AD lD.length kD, .slice AT lT.length kT, .slice Ar lr.length cr] ∧ wx.ownsRow w.heap.size 5 1 (.slice AD lD.length kD) lD.length (lD.map (Value.int .u8)) ∧ wx.ownsRow w.heap.size 5 1 (.slice AT lT.length kT) lT.length (lT.map (Value.int .u8)) ∧ Blk wx (w.heap.size + 1) 26 #[.int .u64 0, .int .u64 0, .int .u64 0, .int .u64 0, .int .u64 0, .bool false, .slice none 0 0, .slice none 0 0, .slice none 0 0] ∧ Below w.heap.size w wx)
  case first =>
    go_region_law
      (first
      | (go_simp; go_at_call 14; ((with_reducible refine (cut1300 (.slice Ad ld.length cd) ld lD HLD.out _ (HD.out.below (hB.trans (Below.mono (by (repeat (first | with_reducible exact Below.refl _ _ | with_reducible assumption | with_reducible refine keepB_drew ?_ | with_reducible refine keepB_drewN ?_ _ | with_reducible refine keepB_alloc ?_ _ | with_reducible refine keepB_call ?_ hbT))) hB.size)))).mono ?_); rintro e wD ⟨D', rfl, hoD, hbD⟩; obtain ⟨AD, kD, rfl⟩ := (rd_of_own (k := .u8) hoD).form; have c7 : wD.cell? ⟨w.heap.size, 7, none⟩ = some (.slice At lt.length ct) := (hO.same (by (repeat (first | with_reducible exact Below.refl _ _ | with_reducible assumption | with_reducible refine keepB_drew ?_ | with_reducible refine keepB_drewN ?_ _ | with_reducible refine keepB_alloc ?_ _ | with_reducible refine keepB_call ?_ hbD | with_reducible refine keepB_call ?_ hbT)))).cell 7))
      | (go_simp; go_at_call 14; ((with_reducible refine (cut40 (.slice At lt.length ct) lt lT HLT.out _ (HT.out.below (hB.trans (Below.mono (by (repeat (first | with_reducible exact Below.refl _ _ | with_reducible assumption | with_reducible refine keepB_drew ?_ | with_reducible refine keepB_drewN ?_ _ | with_reducible refine keepB_alloc ?_ _ | with_reducible refine keepB_call ?_ hbD))) hB.size)))).mono ?_); rintro e wT ⟨T', rfl, hoT, hbT⟩; obtain ⟨AT, kT, rfl⟩ := (rd_of_own (k := .u8) hoT).form; have hO2 : Blk wT w.heap.size 26 #[.int .u64 k, .int .u64 i, .int .u64 o, .int .u64 n, .int .u64 c, .bool fin, .slice Ad ld.length cd, .slice At lt.length ct, .slice Ar lr.length cr] := hO.same (by (repeat (first | with_reducible exact Below.refl _ _ | with_reducible assumption | with_reducible refine keepB_drew ?_ | with_reducible refine keepB_drewN ?_ _ | with_reducible refine keepB_alloc ?_ _ | with_reducible refine keepB_call ?_ hbD | with_reducible refine keepB_call ?_ hbT))); have c6 : wT.cell? ⟨w.heap.size, 6, none⟩ = some (.slice Ad ld.length cd) := hO2.cell 6; have c7 : wT.cell? ⟨w.heap.size, 7, none⟩ = some (.slice At lt.length ct) := hO2.cell 7; have g6 := hO2.frozen 6; have g7 := hO2.frozen 7; have hZ2 : Blk wT (w.heap.size + 1) 26 #[.int .u64 0, .int .u64 0, .int .u64 0, .int .u64 0, .int .u64 0, .bool false, .slice none 0 0, .slice none 0 0, .slice none 0 0] := hZ.same (by (repeat (first | with_reducible exact Below.refl _ _ | with_reducible assumption | with_reducible refine keepB_drew ?_ | with_reducible refine keepB_drewN ?_ _ | with_reducible refine keepB_alloc ?_ _ | with_reducible refine keepB_call ?_ hbD | with_reducible refine keepB_call ?_ hbT))); have hD2 : wT.ownsRow w.heap.size 5 1 (.slice AD lD.length kD) lD.length (lD.map (Value.int .u8)) := own_base (own_same hoD (by (repeat (first | with_reducible exact Below.refl _ _ | with_reducible assumption | with_reducible refine keepB_drew ?_ | with_reducible refine keepB_drewN ?_ _ | with_reducible refine keepB_alloc ?_ _ | with_reducible refine keepB_call ?_ hbT)))) (Nat.le_trans hB.size (szB (by (repeat (first | with_reducible exact Below.refl _ _ | with_reducible assumption | with_reducible refine keepB_drew ?_ | with_reducible refine keepB_drewN ?_ _ | with_reducible refine keepB_alloc ?_ _))))); have hT2 : wT.ownsRow w.heap.size 5 1 (.slice AT lT.length kT) lT.length (lT.map (Value.int .u8)) := own_base hoT (Nat.le_trans hB.size (szB (by (repeat (first | with_reducible exact Below.refl _ _ | with_reducible assumption | with_reducible refine keepB_drew ?_ | with_reducible refine keepB_drewN ?_ _ | with_reducible refine keepB_alloc ?_ _ | with_reducible refine keepB_call ?_ hbD))))); have hB2 : Below w.heap.size w wT := hB.trans (Below.mono (by (repeat (first | with_reducible exact Below.refl _ _ | with_reducible assumption | with_reducible refine keepB_drew ?_ | with_reducible refine keepB_drewN ?_ _ | with_reducible refine keepB_alloc ?_ _ | with_reducible refine keepB_call ?_ hbT | with_reducible refine keepB_call ?_ hbD))) hB.size))))
    all_goals go_wp2_with fail
    all_goals go_meet
    all_goals exact ⟨AD, kD, AT, kT, (hO2.set_ 6 _).set_ 7 _, own_far (own_far hD2 (own_blk_ne hD2 hO2 (by decide)) _) (own_blk_ne hD2 hO2 (by decide)) _, own_far (own_far hT2 (own_blk_ne hT2 hO2 (by decide)) _) (own_blk_ne hT2 hO2 (by decide)) _, (hZ2.far (by simp) _).far (by simp) _, (hB2.setCell (by simp) _).setCell (by simp) _⟩
  case rest =>
    obtain ⟨AD, kD, AT, kT, hO, hD, hT, hZ, hB⟩ := hcut
    clear f6 f7 c6 c7
    have hR := HR.out.below hB
    have hRc := hR.parts.2.2
    have hcr : lr.length ≤ cr ∧ cr ≤ 9223372036854775807 := by obtain ⟨h1, h2, _⟩ := hRc; unfold maxLen at h2; omega
    clear hRc
    obtain ⟨hcr1, hcr2⟩ := hcr
    have c0 : World.cell? wc ⟨w.heap.size, 0, none⟩ = some (.int .u64 k) := hO.cell 0
    have c1 : World.cell? wc ⟨w.heap.size, 1, none⟩ = some (.int .u64 i) := hO.cell 1
    have c2 : World.cell? wc ⟨w.heap.size, 2, none⟩ = some (.int .u64 o) := hO.cell 2
    have c3 : World.cell? wc ⟨w.heap.size, 3, none⟩ = some (.int .u64 n) := hO.cell 3
    have c4 : World.cell? wc ⟨w.heap.size, 4, none⟩ = some (.int .u64 c) := hO.cell 4
    have c5 : World.cell? wc ⟨w.heap.size, 5, none⟩ = some (.bool fin) := hO.cell 5
    have c6 : World.cell? wc ⟨w.heap.size, 6, none⟩ = some (.slice AD lD.length kD) := hO.cell 6
    have c7 : World.cell? wc ⟨w.heap.size, 7, none⟩ = some (.slice AT lT.length kT) := hO.cell 7
    have c8 : World.cell? wc ⟨w.heap.size, 8, none⟩ = some (.slice Ar lr.length cr) := hO.cell 8
    have z0 : World.cell? wc ⟨w.heap.size + 1, 0, none⟩ = some (.int .u64 0) := hZ.cell 0
    have z1 : World.cell? wc ⟨w.heap.size + 1, 1, none⟩ = some (.int .u64 0) := hZ.cell 1
    have z2 : World.cell? wc ⟨w.heap.size + 1, 2, none⟩ = some (.int .u64 0) := hZ.cell 2
    have z3 : World.cell? wc ⟨w.heap.size + 1, 3, none⟩ = some (.int .u64 0) := hZ.cell 3
    have z4 : World.cell? wc ⟨w.heap.size + 1, 4, none⟩ = some (.int .u64 0) := hZ.cell 4
    have z5 : World.cell? wc ⟨w.heap.size + 1, 5, none⟩ = some (.bool false) := hZ.cell 5
    have z6 : World.cell? wc ⟨w.heap.size + 1, 6, none⟩ = some (.slice none 0 0) := hZ.cell 6
    have z7 : World.cell? wc ⟨w.heap.size + 1, 7, none⟩ = some (.slice none 0 0) := hZ.cell 7
    have z8 : World.cell? wc ⟨w.heap.size + 1, 8, none⟩ = some (.slice none 0 0) := hZ.cell 8
    have f0 := hO.frozen 0
    have f1 := hO.frozen 1
    have f2 := hO.frozen 2
    have f3 := hO.frozen 3
    have f4 := hO.frozen 4
    have f5 := hO.frozen 5
    have f6 := hO.frozen 6
    have f7 := hO.frozen 7
    have f8 := hO.frozen 8
    have g0 := hZ.frozen 0
    have g1 := hZ.frozen 1
    have g2 := hZ.frozen 2
    have g3 := hZ.frozen 3
    have g4 := hZ.frozen 4
    have g5 := hZ.frozen 5
    have g6 := hZ.frozen 6
    have g7 := hZ.frozen 7
    have g8 := hZ.frozen 8
    have hown0 := World.ownsRow_lit (size := 2) (e := 31) wc #[] 0 hB.size (by decide) rfl
    have hszw := hZ.lt
    have hszw2 := hO.lt
    by_cases h30 : 30 < lr.length
    · have hsrc := ((hR.pre (m := 30) (by omega)).alloc (.cells #[] 31)).parts
      have HS := Lib.hid hsrc
      have HL : Hid ((lr.take 30).length = 30) := Lib.hid (by simp; omega)
      clear hsrc hR
      skip
      go_wp2_with (at_builtin; refine wpList_append_any _ rfl _ _ 24 rfl w.heap.size 31 j0 _ 2 16 Try.underlying24 hj hy0 hy1 hy2 rfl (by decide) (.slice (some ⟨wc.heap.size, 0, none⟩) 0 0) 0 [] rfl hown0 Ar 30 cr (pcs (lr.take 30)) rfl HS.out.2.2.2.2 (pcs_one _) (by unfold maxLen; omega) (by omega) (Nat.le_trans hB.size (by simp)) HS.out.2.1 ?_; intro v9 w9 hown9 hgrow9 hat9; rw [Nat.zero_add, List.nil_append] at hown9; obtain ⟨A9, c9, rfl, _⟩ := sl_of_own hown9; have hb9 := lit_grown hgrow9; have hO9 := hO.same hb9; have hZ9 := hZ.same hb9; have hD9 := own_same hD hb9; have hT9 := own_same hT hb9; have hB9 := hB.trans (hb9.mono hB.size); have p0 : w9.cell? ⟨w.heap.size, 0, none⟩ = some (.int .u64 k) := hO9.cell 0; have p1 : w9.cell? ⟨w.heap.size, 1, none⟩ = some (.int .u64 i) := hO9.cell 1; have p2 : w9.cell? ⟨w.heap.size, 2, none⟩ = some (.int .u64 o) := hO9.cell 2; have p3 : w9.cell? ⟨w.heap.size, 3, none⟩ = some (.int .u64 n) := hO9.cell 3; have p4 : w9.cell? ⟨w.heap.size, 4, none⟩ = some (.int .u64 c) := hO9.cell 4; have p5 : w9.cell? ⟨w.heap.size, 5, none⟩ = some (.bool fin) := hO9.cell 5; have p6 : w9.cell? ⟨w.heap.size, 6, none⟩ = some (.slice AD lD.length kD) := hO9.cell 6; have p7 : w9.cell? ⟨w.heap.size, 7, none⟩ = some (.slice AT lT.length kT) := hO9.cell 7; have p8 : w9.cell? ⟨w.heap.size, 8, none⟩ = some (.slice Ar lr.length cr) := hO9.cell 8; have q0 : w9.cell? ⟨w.heap.size + 1, 0, none⟩ = some (.int .u64 0) := hZ9.cell 0; have q1 : w9.cell? ⟨w.heap.size + 1, 1, none⟩ = some (.int .u64 0) := hZ9.cell 1; have q2 : w9.cell? ⟨w.heap.size + 1, 2, none⟩ = some (.int .u64 0) := hZ9.cell 2; have q3 : w9.cell? ⟨w.heap.size + 1, 3, none⟩ = some (.int .u64 0) := hZ9.cell 3; have q4 : w9.cell? ⟨w.heap.size + 1, 4, none⟩ = some (.int .u64 0) := hZ9.cell 4; have q5 : w9.cell? ⟨w.heap.size + 1, 5, none⟩ = some (.bool false) := hZ9.cell 5; have q6 : w9.cell? ⟨w.heap.size + 1, 6, none⟩ = some (.slice none 0 0) := hZ9.cell 6; have q7 : w9.cell? ⟨w.heap.size + 1, 7, none⟩ = some (.slice none 0 0) := hZ9.cell 7; have q8 : w9.cell? ⟨w.heap.size + 1, 8, none⟩ = some (.slice none 0 0) := hZ9.cell 8; have r0 := hO9.frozen 0; have r1 := hO9.frozen 1; have r2 := hO9.frozen 2; have r3 := hO9.frozen 3; have r4 := hO9.frozen 4; have r5 := hO9.frozen 5; have r6 := hO9.frozen 6; have r7 := hO9.frozen 7; have r8 := hO9.frozen 8; have s0 := hZ9.frozen 0; have s1 := hZ9.frozen 1; have s2 := hZ9.frozen 2; have s3 := hZ9.frozen 3; have s4 := hZ9.frozen 4; have s5 := hZ9.frozen 5; have s6 := hZ9.frozen 6; have s7 := hZ9.frozen 7; have s8 := hZ9.frozen 8)
      have nDO := own_blk_ne hD9 hO9 (by decide)
      have nDZ := own_blk_ne hD9 hZ9 (by decide)
      have nTO := own_blk_ne hT9 hO9 (by decide)
      have nTZ := own_blk_ne hT9 hZ9 (by decide)
      have nRO := own_blk_ne hown9 hO9 (by decide)
      have nRZ := own_blk_ne hown9 hZ9 (by decide)
      have hne0 : w.heap.size ≠ w.heap.size + 1 := by omega
      refine bodyPost_ret (v := .agg #[.int .u64 k, .int .u64 i, .int .u64 o, .int .u64 n, .int .u64 c, .bool fin, .slice AD lD.length kD, .slice AT lT.length kT, .slice A9 30 c9]) (by simp [results, Try.results6, go_sem, p0, p1, p2, p3, p4, p5, p6, p7, p8, q0, q1, q2, q3, q4, q5, q6, q7, q8]) rfl ⟨_, _, _, rfl, ?_, ?_, ?_, ?_⟩
      · (repeat (first | with_reducible exact hD9 | with_reducible refine own_far ?_ nDO _ | with_reducible refine own_far ?_ nDZ _))
      · (repeat (first | with_reducible exact hT9 | with_reducible refine own_far ?_ nTO _ | with_reducible refine own_far ?_ nTZ _))
      · rw [show min 30 lr.length = 30 by omega]
        (repeat (first | with_reducible exact hown9 | with_reducible refine own_far ?_ nRO _ | with_reducible refine own_far ?_ nRZ _))
      · (repeat (first | with_reducible exact hB9 | with_reducible refine Below.setCell ?_ (by simp) _))
    · have hsrc := (hR.alloc (.cells #[] 31)).parts
      have HS := Lib.hid hsrc
      have HL : Hid (lr.take 30 = lr) := Lib.hid (List.take_of_length_le (by omega))
      clear hsrc hR
      skip
      go_wp2_with (at_builtin; refine wpList_append_any _ rfl _ _ 24 rfl w.heap.size 31 j0 _ 2 16 Try.underlying24 hj hy0 hy1 hy2 rfl (by decide) (.slice (some ⟨wc.heap.size, 0, none⟩) 0 0) 0 [] rfl hown0 Ar lr.length cr (pcs lr) rfl HS.out.2.2.2.2 (pcs_one _) (by unfold maxLen; omega) (by omega) (Nat.le_trans hB.size (by simp)) HS.out.2.1 ?_; intro v9 w9 hown9 hgrow9 hat9; rw [Nat.zero_add, List.nil_append] at hown9; obtain ⟨A9, c9, rfl, _⟩ := sl_of_own hown9; have hb9 := lit_grown hgrow9; have hO9 := hO.same hb9; have hZ9 := hZ.same hb9; have hD9 := own_same hD hb9; have hT9 := own_same hT hb9; have hB9 := hB.trans (hb9.mono hB.size); have p0 : w9.cell? ⟨w.heap.size, 0, none⟩ = some (.int .u64 k) := hO9.cell 0; have p1 : w9.cell? ⟨w.heap.size, 1, none⟩ = some (.int .u64 i) := hO9.cell 1; have p2 : w9.cell? ⟨w.heap.size, 2, none⟩ = some (.int .u64 o) := hO9.cell 2; have p3 : w9.cell? ⟨w.heap.size, 3, none⟩ = some (.int .u64 n) := hO9.cell 3; have p4 : w9.cell? ⟨w.heap.size, 4, none⟩ = some (.int .u64 c) := hO9.cell 4; have p5 : w9.cell? ⟨w.heap.size, 5, none⟩ = some (.bool fin) := hO9.cell 5; have p6 : w9.cell? ⟨w.heap.size, 6, none⟩ = some (.slice AD lD.length kD) := hO9.cell 6; have p7 : w9.cell? ⟨w.heap.size, 7, none⟩ = some (.slice AT lT.length kT) := hO9.cell 7; have p8 : w9.cell? ⟨w.heap.size, 8, none⟩ = some (.slice Ar lr.length cr) := hO9.cell 8; have q0 : w9.cell? ⟨w.heap.size + 1, 0, none⟩ = some (.int .u64 0) := hZ9.cell 0; have q1 : w9.cell? ⟨w.heap.size + 1, 1, none⟩ = some (.int .u64 0) := hZ9.cell 1; have q2 : w9.cell? ⟨w.heap.size + 1, 2, none⟩ = some (.int .u64 0) := hZ9.cell 2; have q3 : w9.cell? ⟨w.heap.size + 1, 3, none⟩ = some (.int .u64 0) := hZ9.cell 3; have q4 : w9.cell? ⟨w.heap.size + 1, 4, none⟩ = some (.int .u64 0) := hZ9.cell 4; have q5 : w9.cell? ⟨w.heap.size + 1, 5, none⟩ = some (.bool false) := hZ9.cell 5; have q6 : w9.cell? ⟨w.heap.size + 1, 6, none⟩ = some (.slice none 0 0) := hZ9.cell 6; have q7 : w9.cell? ⟨w.heap.size + 1, 7, none⟩ = some (.slice none 0 0) := hZ9.cell 7; have q8 : w9.cell? ⟨w.heap.size + 1, 8, none⟩ = some (.slice none 0 0) := hZ9.cell 8; have r0 := hO9.frozen 0; have r1 := hO9.frozen 1; have r2 := hO9.frozen 2; have r3 := hO9.frozen 3; have r4 := hO9.frozen 4; have r5 := hO9.frozen 5; have r6 := hO9.frozen 6; have r7 := hO9.frozen 7; have r8 := hO9.frozen 8; have s0 := hZ9.frozen 0; have s1 := hZ9.frozen 1; have s2 := hZ9.frozen 2; have s3 := hZ9.frozen 3; have s4 := hZ9.frozen 4; have s5 := hZ9.frozen 5; have s6 := hZ9.frozen 6; have s7 := hZ9.frozen 7; have s8 := hZ9.frozen 8)
      have nDO := own_blk_ne hD9 hO9 (by decide)
      have nDZ := own_blk_ne hD9 hZ9 (by decide)
      have nTO := own_blk_ne hT9 hO9 (by decide)
      have nTZ := own_blk_ne hT9 hZ9 (by decide)
      have nRO := own_blk_ne hown9 hO9 (by decide)
      have nRZ := own_blk_ne hown9 hZ9 (by decide)
      have hne0 : w.heap.size ≠ w.heap.size + 1 := by omega
      refine bodyPost_ret (v := .agg #[.int .u64 k, .int .u64 i, .int .u64 o, .int .u64 n, .int .u64 c, .bool fin, .slice AD lD.length kD, .slice AT lT.length kT, .slice A9 lr.length c9]) (by simp [results, Try.results6, go_sem, p0, p1, p2, p3, p4, p5, p6, p7, p8, q0, q1, q2, q3, q4, q5, q6, q7, q8]) rfl ⟨_, _, _, rfl, ?_, ?_, ?_, ?_⟩
      · (repeat (first | with_reducible exact hD9 | with_reducible refine own_far ?_ nDO _ | with_reducible refine own_far ?_ nDZ _))
      · (repeat (first | with_reducible exact hT9 | with_reducible refine own_far ?_ nTO _ | with_reducible refine own_far ?_ nTZ _))
      · rw [show min 30 lr.length = lr.length by omega, HL.out]
        (repeat (first | with_reducible exact hown9 | with_reducible refine own_far ?_ nRO _ | with_reducible refine own_far ?_ nRZ _))
      · (repeat (first | with_reducible exact hB9 | with_reducible refine Below.setCell ?_ (by simp) _))

set_option maxHeartbeats 4000000 in
set_option maxRecDepth 100000 in
theorem sameR_yes (va vb : Value) (l : List (Int × Int)) (w : World) (ha : RdP w va l) (hb : RdP w vb l) :
    Calls Try.prog 17 #[va, vb] w fun e w' => e = .returned (.bool true) ∧ ∃ m, w.drewN m = w' := by
  obtain ⟨A, ca, rfl⟩ := ha.form
  obtain ⟨A', cb, rfl⟩ := hb.form
  obtain ⟨_, _, pa1, pa2, _⟩ := ha.parts
  obtain ⟨_, _, pb1, pb2, _⟩ := hb.parts
  have hq : ca ≤ 9223372036854775807 := by unfold maxLen at pa2; omega
  have hq' : cb ≤ 9223372036854775807 := by unfold maxLen at pb2; omega
  clear pa2 pb2
  have H := Lib.hid ha
  have H' := Lib.hid hb
  clear ha hb
  obtain ⟨n, hn⟩ : ∃ n, n = l.length := ⟨_, rfl⟩
  rw [← hn] at pa1 pb1 ⊢
  have HN := Lib.hid hn
  clear hn
  go_enter Try.func17, Try.ntmps17
  go_wp2_with fail
  go_loopw [13] (fun i wr => ∃ (k m : Nat), k ≤ n ∧ i = .int .i64 k ∧ wr = w.drewN m) (fun i _ => n - (intOf i).toNat)
  case atStart => exact ⟨0, 0, Nat.zero_le _, rfl, rfl⟩
  case round =>
    obtain ⟨k, m, hkn, rfl, rfl⟩ := hrel
    by_cases hlt : k < n
    · obtain ⟨b, off, e, hb, c0, c1⟩ := H.out.at_ k (HN.out ▸ hlt)
      obtain ⟨b', off', e', hb', d0, d1⟩ := H'.out.at_ k (HN.out ▸ hlt)
      subst e
      subst e'
      obtain ⟨x, hx⟩ : ∃ x, x = l.getD k (0, 0) := ⟨_, rfl⟩
      rw [← hx] at c0 c1 d0 d1
      clear hx
      obtain ⟨x0, x1⟩ := x
      simp only at c0 c1 d0 d1
      go_wp2_with (go_quiet (fail))
      go_roundw
      case rel => exact ⟨k + 1, _, by omega, by go_num, rfl⟩
      case measure => simp [intOf]; omega
    · go_wp2_with fail
      go_ret
      exact ⟨rfl, _, rfl⟩
set_option maxHeartbeats 4000000 in
set_option maxRecDepth 100000 in
theorem cloneR_any (v : Value) (l : List (Int × Int)) (w : World) (ha : RdP w v l) (hl : l.length ≤ 1000000) :
    Calls Try.prog 16 #[v] w fun e w' => ∃ v', e = .returned v' ∧ w'.ownsRow w.heap.size 31 2 v' l.length (pcs l) ∧ Below w.heap.size w w' := by
  obtain ⟨j0, hj, hy0, hy1, hy2⟩ := info_parts infoR
  obtain ⟨A, cap, rfl⟩ := ha.form
  obtain ⟨_, hA, hlc, hcm, hrd⟩ := ha.parts
  have hrd1 := (ha.alloc (.cells #[] 31)).parts.2.2.2.2
  have hown0 := World.ownsRow_lit (size := 2) (e := 31) w #[] 0 (Nat.le_refl _) (by decide) rfl
  have hnil := fun W : World => Lib.run_eql_slice_nil (P := Try.prog) W 24 31 A l.length cap 0 0 Try.underlying24
  rcases A with _ | ad
  · have h0 : l = [] := List.eq_nil_of_length_eq_zero (hA rfl)
    subst h0
    simp only [List.length_nil] at hnil
    go_enter Try.func16, Try.ntmps16
    go_wp2
    go_ret
    exact ⟨_, rfl, World.ownsRow_nil _ _ _ _, Below.refl _ _⟩
  · go_enter Try.func16, Try.ntmps16
    go_wp2_with (at_builtin; refine wpList_append_any _ rfl _ _ 24 rfl w.heap.size 31 j0 _ 2 16 Try.underlying24 hj hy0 hy1 hy2 rfl (by decide) (.slice (some ⟨w.heap.size, 0, none⟩) 0 0) 0 [] rfl hown0 (some ad) l.length cap _ rfl hrd1 (pcs_one _) (by unfold maxLen; omega) (by omega) (by simp) hA ?_; intro v1 w1 hown1 hgrow1 hat1)
    go_ret
    exact ⟨_, rfl, by simpa using hown1, ((Below.refl _ _).alloc (Nat.le_refl _) _).grown hgrow1 (by simp) (by simp [Value.ownBlock])⟩

def Apt (a b : Value) : Prop := ∀ g, a.ownBlock = some g → b.ownBlock ≠ some g
theorem apt_of {w X w' : World} {base : Nat} {e e' : TypeId} {sz sz' n n' : Nat} {a b : Value} {xs ys : List Value} (ha : w.ownsRow base e sz a n xs) (hX : Below w.heap.size w X) (hb : w'.ownsRow X.heap.size e' sz' b n' ys) : Apt a b := fun g h1 h2 => by
  have := (ha.lt g h1).2
  have := (hb.lt g h2).1
  have := hX.size
  omega
set_option maxHeartbeats 4000000 in
set_option maxRecDepth 100000 in
theorem copy_any (k i o n c : Int) (fin : Bool) (D T R : Value) (ld lt : List Int) (lr : List (Int × Int)) (w : World) (hD : Rd w .u8 D ld) (hT : Rd w .u8 T lt) (hR : RdP w R lr) (ld1 : ld.length ≤ 1300) (lt1 : lt.length ≤ 40) (lr1 : lr.length ≤ 30) :
    Calls Try.prog 7 #[.agg #[.int .u64 k, .int .u64 i, .int .u64 o, .int .u64 n, .int .u64 c, .bool fin, D, T, R]] w fun e w' => ∃ D' T' R', e = .returned (.agg #[.int .u64 k, .int .u64 i, .int .u64 o, .int .u64 n, .int .u64 c, .bool fin, D', T', R']) ∧ w'.ownsRow w.heap.size 5 1 D' ld.length (ld.map (Value.int .u8)) ∧ w'.ownsRow w.heap.size 5 1 T' lt.length (lt.map (Value.int .u8)) ∧ w'.ownsRow w.heap.size 31 2 R' lr.length (pcs lr) ∧ Apt D' T' ∧ Below w.heap.size w w' := by
  have ld2 : ld.length ≤ 1099511627776 := by omega
  have lt2 : lt.length ≤ 1099511627776 := by omega
  have lr2 : lr.length ≤ 1000000 := by omega
  obtain ⟨Ad, cd, rfl⟩ := hD.form
  obtain ⟨At, ct, rfl⟩ := hT.form
  obtain ⟨Ar, cr, rfl⟩ := hR.form
  have HD := Lib.hid hD
  have HT := Lib.hid hT
  have HR := Lib.hid hR
  clear hD hT hR
  have hO := (Blk.new w 26 #[.int .u64 k, .int .u64 i, .int .u64 o, .int .u64 n, .int .u64 c, .bool fin, .slice Ad ld.length cd, .slice At lt.length ct, .slice Ar lr.length cr]).alloc (.cells #[.int .u64 0, .int .u64 0, .int .u64 0, .int .u64 0, .int .u64 0, .bool false, .slice none 0 0, .slice none 0 0, .slice none 0 0] 26)
  have hZ := Blk.new (w.alloc (.cells #[.int .u64 k, .int .u64 i, .int .u64 o, .int .u64 n, .int .u64 c, .bool fin, .slice Ad ld.length cd, .slice At lt.length ct, .slice Ar lr.length cr] 26)) 26 #[.int .u64 0, .int .u64 0, .int .u64 0, .int .u64 0, .int .u64 0, .bool false, .slice none 0 0, .slice none 0 0, .slice none 0 0]
  rw [World.size_alloc] at hZ
  have hB := ((Below.refl w.heap.size w).alloc (Nat.le_refl _) (.cells #[.int .u64 k, .int .u64 i, .int .u64 o, .int .u64 n, .int .u64 c, .bool fin, .slice Ad ld.length cd, .slice At lt.length ct, .slice Ar lr.length cr] 26)).alloc (by simp) (.cells #[.int .u64 0, .int .u64 0, .int .u64 0, .int .u64 0, .int .u64 0, .bool false, .slice none 0 0, .slice none 0 0, .slice none 0 0] 26)
  go_enter Try.func7, Try.ntmps7
  go_wp2_with fail
  refine wp_world (fun wz => Blk wz w.heap.size 26 #[.int .u64 k, .int .u64 i, .int .u64 o, .int .u64 n, .int .u64 c, .bool fin, .slice Ad ld.length cd, .slice At lt.length ct, .slice Ar lr.length cr] ∧ Blk wz (w.heap.size + 1) 26 #[.int .u64 0, .int .u64 0, .int .u64 0, .int .u64 0, .int .u64 0, .bool false, .slice none 0 0, .slice none 0 0, .slice none 0 0] ∧ Below w.heap.size w wz) ⟨hO, hZ, hB⟩ ?_
  clear hO hZ hB
  rintro w1 ⟨hO, hZ, hB⟩
  have c6 : World.cell? w1 ⟨w.heap.size, 6, none⟩ = some (.slice Ad ld.length cd) := hO.cell 6
  have c7 : World.cell? w1 ⟨w.heap.size, 7, none⟩ = some (.slice At lt.length ct) := hO.cell 7
  have c8 : World.cell? w1 ⟨w.heap.size, 8, none⟩ = some (.slice Ar lr.length cr) := hO.cell 8
  have f6 := hO.frozen 6
  have f7 := hO.frozen 7
  have f8 := hO.frozen 8
  go_upto_region 2 with (fail)
  go_cut [] (fun wx => ∃ AD kD AT kT AR kR, Blk wx w.heap.size 26 #[.int .u64 k, .int .u64 i, .int .u64 o, .int .u64 n, .int .u64 c, .bool fin, .slice AD ld.length kD, .slice AT lt.length kT, .slice AR lr.length kR] ∧ wx.ownsRow w.heap.size 5 1 (.slice AD ld.length kD) ld.length (ld.map (Value.int .u8)) ∧ wx.ownsRow w.heap.size 5 1 (.slice AT lt.length kT) lt.length (lt.map (Value.int .u8)) ∧ wx.ownsRow w.heap.size 31 2 (.slice AR lr.length kR) lr.length (pcs lr) ∧ Apt (.slice AD ld.length kD) (.slice AT lt.length kT) ∧ Blk wx (w.heap.size + 1) 26 #[.int .u64 0, .int .u64 0, .int .u64 0, .int .u64 0, .int .u64 0, .bool false, .slice none 0 0, .slice none 0 0, .slice none 0 0] ∧ Below w.heap.size w wx)
  case first =>
    go_region_law
      (first
      | (go_simp; go_at_call 15; ((with_reducible refine (clone_any (.slice Ad ld.length cd) ld _ (HD.out.below (hB.trans (Below.mono (by (repeat (first | with_reducible exact Below.refl _ _ | with_reducible assumption | with_reducible refine keepB_drew ?_ | with_reducible refine keepB_drewN ?_ _ | with_reducible refine keepB_alloc ?_ _))) hB.size))) ld2).mono ?_); rintro e wD ⟨D', rfl, hoD, hbD⟩; obtain ⟨AD, kD, rfl⟩ := (rd_of_own (k := .u8) hoD).form; have hO2 : Blk wD w.heap.size 26 #[.int .u64 k, .int .u64 i, .int .u64 o, .int .u64 n, .int .u64 c, .bool fin, .slice Ad ld.length cd, .slice At lt.length ct, .slice Ar lr.length cr] := hO.same (by (repeat (first | with_reducible exact Below.refl _ _ | with_reducible assumption | with_reducible refine keepB_drew ?_ | with_reducible refine keepB_drewN ?_ _ | with_reducible refine keepB_alloc ?_ _ | with_reducible refine keepB_call ?_ hbD))); have c7 : wD.cell? ⟨w.heap.size, 7, none⟩ = some (.slice At lt.length ct) := hO2.cell 7; have c8 : wD.cell? ⟨w.heap.size, 8, none⟩ = some (.slice Ar lr.length cr) := hO2.cell 8; clear hO2))
      | (go_simp; go_at_call 15; ((with_reducible refine (clone_any (.slice At lt.length ct) lt _ (HT.out.below (hB.trans (Below.mono (by (repeat (first | with_reducible exact Below.refl _ _ | with_reducible assumption | with_reducible refine keepB_drew ?_ | with_reducible refine keepB_drewN ?_ _ | with_reducible refine keepB_alloc ?_ _ | with_reducible refine keepB_call ?_ hbD))) hB.size))) lt2).mono ?_); rintro e wT ⟨T', rfl, hoT, hbT⟩; obtain ⟨AT, kT, rfl⟩ := (rd_of_own (k := .u8) hoT).form; have hap : Apt (.slice AD ld.length kD) (.slice AT lt.length kT) := apt_of hoD (by (repeat (first | with_reducible exact Below.refl _ _ | with_reducible assumption | with_reducible refine keepB_drew ?_ | with_reducible refine keepB_drewN ?_ _ | with_reducible refine keepB_alloc ?_ _))) hoT; have hO3 : Blk wT w.heap.size 26 #[.int .u64 k, .int .u64 i, .int .u64 o, .int .u64 n, .int .u64 c, .bool fin, .slice Ad ld.length cd, .slice At lt.length ct, .slice Ar lr.length cr] := hO.same (by (repeat (first | with_reducible exact Below.refl _ _ | with_reducible assumption | with_reducible refine keepB_drew ?_ | with_reducible refine keepB_drewN ?_ _ | with_reducible refine keepB_alloc ?_ _ | with_reducible refine keepB_call ?_ hbT | with_reducible refine keepB_call ?_ hbD))); have c7 : wT.cell? ⟨w.heap.size, 7, none⟩ = some (.slice At lt.length ct) := hO3.cell 7; have c8 : wT.cell? ⟨w.heap.size, 8, none⟩ = some (.slice Ar lr.length cr) := hO3.cell 8; clear hO3))
      | (go_simp; go_at_call 16; ((with_reducible refine (cloneR_any (.slice Ar lr.length cr) lr _ (HR.out.below (hB.trans (Below.mono (by (repeat (first | with_reducible exact Below.refl _ _ | with_reducible assumption | with_reducible refine keepB_drew ?_ | with_reducible refine keepB_drewN ?_ _ | with_reducible refine keepB_alloc ?_ _ | with_reducible refine keepB_call ?_ hbT | with_reducible refine keepB_call ?_ hbD))) hB.size))) lr2).mono ?_); rintro e wR ⟨R', rfl, hoR, hbR⟩; obtain ⟨AR, kR, rfl⟩ := (rdp_of_own hoR).form; have hO2 : Blk wR w.heap.size 26 #[.int .u64 k, .int .u64 i, .int .u64 o, .int .u64 n, .int .u64 c, .bool fin, .slice Ad ld.length cd, .slice At lt.length ct, .slice Ar lr.length cr] := hO.same (by (repeat (first | with_reducible exact Below.refl _ _ | with_reducible assumption | with_reducible refine keepB_drew ?_ | with_reducible refine keepB_drewN ?_ _ | with_reducible refine keepB_alloc ?_ _ | with_reducible refine keepB_call ?_ hbR | with_reducible refine keepB_call ?_ hbT | with_reducible refine keepB_call ?_ hbD))); have g6 := hO2.frozen 6; have g7 := hO2.frozen 7; have g8 := hO2.frozen 8; have d6 := hO2.cell 6; have d7 := hO2.cell 7; have d8 := hO2.cell 8; have hZ2 : Blk wR (w.heap.size + 1) 26 #[.int .u64 0, .int .u64 0, .int .u64 0, .int .u64 0, .int .u64 0, .bool false, .slice none 0 0, .slice none 0 0, .slice none 0 0] := hZ.same (by (repeat (first | with_reducible exact Below.refl _ _ | with_reducible assumption | with_reducible refine keepB_drew ?_ | with_reducible refine keepB_drewN ?_ _ | with_reducible refine keepB_alloc ?_ _ | with_reducible refine keepB_call ?_ hbR | with_reducible refine keepB_call ?_ hbT | with_reducible refine keepB_call ?_ hbD))); have hD2 : wR.ownsRow w.heap.size 5 1 (.slice AD ld.length kD) ld.length (ld.map (Value.int .u8)) := own_base (own_same hoD (by (repeat (first | with_reducible exact Below.refl _ _ | with_reducible assumption | with_reducible refine keepB_drew ?_ | with_reducible refine keepB_drewN ?_ _ | with_reducible refine keepB_alloc ?_ _ | with_reducible refine keepB_call ?_ hbR | with_reducible refine keepB_call ?_ hbT)))) (Nat.le_trans hB.size (szB (by (repeat (first | with_reducible exact Below.refl _ _ | with_reducible assumption | with_reducible refine keepB_drew ?_ | with_reducible refine keepB_drewN ?_ _ | with_reducible refine keepB_alloc ?_ _))))); have hT2 : wR.ownsRow w.heap.size 5 1 (.slice AT lt.length kT) lt.length (lt.map (Value.int .u8)) := own_base (own_same hoT (by (repeat (first | with_reducible exact Below.refl _ _ | with_reducible assumption | with_reducible refine keepB_drew ?_ | with_reducible refine keepB_drewN ?_ _ | with_reducible refine keepB_alloc ?_ _ | with_reducible refine keepB_call ?_ hbR)))) (Nat.le_trans hB.size (szB (by (repeat (first | with_reducible exact Below.refl _ _ | with_reducible assumption | with_reducible refine keepB_drew ?_ | with_reducible refine keepB_drewN ?_ _ | with_reducible refine keepB_alloc ?_ _ | with_reducible refine keepB_call ?_ hbD))))); have hR2 : wR.ownsRow w.heap.size 31 2 (.slice AR lr.length kR) lr.length (pcs lr) := own_base hoR (Nat.le_trans hB.size (szB (by (repeat (first | with_reducible exact Below.refl _ _ | with_reducible assumption | with_reducible refine keepB_drew ?_ | with_reducible refine keepB_drewN ?_ _ | with_reducible refine keepB_alloc ?_ _ | with_reducible refine keepB_call ?_ hbT | with_reducible refine keepB_call ?_ hbD))))); have hB2 : Below w.heap.size w wR := hB.trans (Below.mono (by (repeat (first | with_reducible exact Below.refl _ _ | with_reducible assumption | with_reducible refine keepB_drew ?_ | with_reducible refine keepB_drewN ?_ _ | with_reducible refine keepB_alloc ?_ _ | with_reducible refine keepB_call ?_ hbR | with_reducible refine keepB_call ?_ hbT | with_reducible refine keepB_call ?_ hbD))) hB.size))))
    all_goals go_wp2_with fail
    all_goals go_meet
    all_goals refine ⟨AD, kD, AT, kT, AR, kR, ((hO2.set_ 6 _).set_ 7 _).set_ 8 _, ?_, ?_, ?_, hap, ((hZ2.far (by simp) _).far (by simp) _).far (by simp) _, ((hB2.setCell (by simp) _).setCell (by simp) _).setCell (by simp) _⟩
    all_goals first | exact own_far (own_far (own_far hD2 (own_blk_ne hD2 hO2 (by decide)) _) (own_blk_ne hD2 hO2 (by decide)) _) (own_blk_ne hD2 hO2 (by decide)) _ | exact own_far (own_far (own_far hT2 (own_blk_ne hT2 hO2 (by decide)) _) (own_blk_ne hT2 hO2 (by decide)) _) (own_blk_ne hT2 hO2 (by decide)) _ | exact own_far (own_far (own_far hR2 (own_blk_ne hR2 hO2 (by decide)) _) (own_blk_ne hR2 hO2 (by decide)) _) (own_blk_ne hR2 hO2 (by decide)) _
  case rest =>
    obtain ⟨AD, kD, AT, kT, AR, kR, hO, hD, hT, hR, hap, hZ, hB⟩ := hcut
    clear f6 f7 f8 c6 c7 c8
    have c0 : World.cell? wc ⟨w.heap.size, 0, none⟩ = some (.int .u64 k) := hO.cell 0
    have c1 : World.cell? wc ⟨w.heap.size, 1, none⟩ = some (.int .u64 i) := hO.cell 1
    have c2 : World.cell? wc ⟨w.heap.size, 2, none⟩ = some (.int .u64 o) := hO.cell 2
    have c3 : World.cell? wc ⟨w.heap.size, 3, none⟩ = some (.int .u64 n) := hO.cell 3
    have c4 : World.cell? wc ⟨w.heap.size, 4, none⟩ = some (.int .u64 c) := hO.cell 4
    have c5 : World.cell? wc ⟨w.heap.size, 5, none⟩ = some (.bool fin) := hO.cell 5
    have c6 : World.cell? wc ⟨w.heap.size, 6, none⟩ = some (.slice AD ld.length kD) := hO.cell 6
    have c7 : World.cell? wc ⟨w.heap.size, 7, none⟩ = some (.slice AT lt.length kT) := hO.cell 7
    have c8 : World.cell? wc ⟨w.heap.size, 8, none⟩ = some (.slice AR lr.length kR) := hO.cell 8
    have z0 : World.cell? wc ⟨w.heap.size + 1, 0, none⟩ = some (.int .u64 0) := hZ.cell 0
    have z1 : World.cell? wc ⟨w.heap.size + 1, 1, none⟩ = some (.int .u64 0) := hZ.cell 1
    have z2 : World.cell? wc ⟨w.heap.size + 1, 2, none⟩ = some (.int .u64 0) := hZ.cell 2
    have z3 : World.cell? wc ⟨w.heap.size + 1, 3, none⟩ = some (.int .u64 0) := hZ.cell 3
    have z4 : World.cell? wc ⟨w.heap.size + 1, 4, none⟩ = some (.int .u64 0) := hZ.cell 4
    have z5 : World.cell? wc ⟨w.heap.size + 1, 5, none⟩ = some (.bool false) := hZ.cell 5
    have z6 : World.cell? wc ⟨w.heap.size + 1, 6, none⟩ = some (.slice none 0 0) := hZ.cell 6
    have z7 : World.cell? wc ⟨w.heap.size + 1, 7, none⟩ = some (.slice none 0 0) := hZ.cell 7
    have z8 : World.cell? wc ⟨w.heap.size + 1, 8, none⟩ = some (.slice none 0 0) := hZ.cell 8
    have f0 := hO.frozen 0
    have f1 := hO.frozen 1
    have f2 := hO.frozen 2
    have f3 := hO.frozen 3
    have f4 := hO.frozen 4
    have f5 := hO.frozen 5
    have f6 := hO.frozen 6
    have f7 := hO.frozen 7
    have f8 := hO.frozen 8
    have g0 := hZ.frozen 0
    have g1 := hZ.frozen 1
    have g2 := hZ.frozen 2
    have g3 := hZ.frozen 3
    have g4 := hZ.frozen 4
    have g5 := hZ.frozen 5
    have g6 := hZ.frozen 6
    have g7 := hZ.frozen 7
    have g8 := hZ.frozen 8
    have hszw := hZ.lt
    have hszw2 := hO.lt
    have nDZ := own_blk_ne hD hZ (by decide)
    have nTZ := own_blk_ne hT hZ (by decide)
    have nRZ := own_blk_ne hR hZ (by decide)
    have hne0 : w.heap.size ≠ w.heap.size + 1 := by omega
    go_wp2_with fail
    refine bodyPost_ret (v := .agg #[.int .u64 k, .int .u64 i, .int .u64 o, .int .u64 n, .int .u64 c, .bool fin, .slice AD ld.length kD, .slice AT lt.length kT, .slice AR lr.length kR]) (by simp [results, Try.results7, go_sem, c0, c1, c2, c3, c4, c5, c6, c7, c8, z0, z1, z2, z3, z4, z5, z6, z7, z8]) rfl ⟨_, _, _, rfl, ?_, ?_, ?_, hap, ?_⟩
    · (repeat (first | with_reducible exact hD | with_reducible refine own_far ?_ nDZ _))
    · (repeat (first | with_reducible exact hT | with_reducible refine own_far ?_ nTZ _))
    · (repeat (first | with_reducible exact hR | with_reducible refine own_far ?_ nRZ _))
    · (repeat (first | with_reducible exact hB | with_reducible refine Below.setCell ?_ (by simp) _))

set_option maxHeartbeats 4000000 in
set_option maxRecDepth 100000 in
theorem sameF_yes (k i o n c : Int) (fin : Bool) (D T R D' T' R' : Value) (ld lt : List Int) (lr : List (Int × Int)) (w : World) (hD : Rd w .u8 D ld) (hT : Rd w .u8 T lt) (hR : RdP w R lr) (hD' : Rd w .u8 D' ld) (hT' : Rd w .u8 T' lt) (hR' : RdP w R' lr) :
    Calls Try.prog 8 #[.agg #[.int .u64 k, .int .u64 i, .int .u64 o, .int .u64 n, .int .u64 c, .bool fin, D, T, R], .agg #[.int .u64 k, .int .u64 i, .int .u64 o, .int .u64 n, .int .u64 c, .bool fin, D', T', R']] w fun e w' => e = .returned (.bool true) ∧ Below w.heap.size w w' := by
  have hO := (Blk.new w 26 #[.int .u64 k, .int .u64 i, .int .u64 o, .int .u64 n, .int .u64 c, .bool fin, D, T, R]).alloc (.cells #[.int .u64 k, .int .u64 i, .int .u64 o, .int .u64 n, .int .u64 c, .bool fin, D', T', R'] 26)
  have hZ := Blk.new (w.alloc (.cells #[.int .u64 k, .int .u64 i, .int .u64 o, .int .u64 n, .int .u64 c, .bool fin, D, T, R] 26)) 26 #[.int .u64 k, .int .u64 i, .int .u64 o, .int .u64 n, .int .u64 c, .bool fin, D', T', R']
  rw [World.size_alloc] at hZ
  have hB := ((Below.refl w.heap.size w).alloc (Nat.le_refl _) (.cells #[.int .u64 k, .int .u64 i, .int .u64 o, .int .u64 n, .int .u64 c, .bool fin, D, T, R] 26)).alloc (by simp) (.cells #[.int .u64 k, .int .u64 i, .int .u64 o, .int .u64 n, .int .u64 c, .bool fin, D', T', R'] 26)
  replace hD := hD.below hB
  replace hT := hT.below hB
  replace hR := hR.below hB
  replace hD' := hD'.below hB
  replace hT' := hT'.below hB
  replace hR' := hR'.below hB
  have c0 : World.cell? _ ⟨w.heap.size, 0, none⟩ = some (.int .u64 k) := hO.cell 0
  have c1 : World.cell? _ ⟨w.heap.size, 1, none⟩ = some (.int .u64 i) := hO.cell 1
  have c2 : World.cell? _ ⟨w.heap.size, 2, none⟩ = some (.int .u64 o) := hO.cell 2
  have c3 : World.cell? _ ⟨w.heap.size, 3, none⟩ = some (.int .u64 n) := hO.cell 3
  have c4 : World.cell? _ ⟨w.heap.size, 4, none⟩ = some (.int .u64 c) := hO.cell 4
  have c5 : World.cell? _ ⟨w.heap.size, 5, none⟩ = some (.bool fin) := hO.cell 5
  have c6 : World.cell? _ ⟨w.heap.size, 6, none⟩ = some (D) := hO.cell 6
  have c7 : World.cell? _ ⟨w.heap.size, 7, none⟩ = some (T) := hO.cell 7
  have c8 : World.cell? _ ⟨w.heap.size, 8, none⟩ = some (R) := hO.cell 8
  have z0 : World.cell? _ ⟨w.heap.size + 1, 0, none⟩ = some (.int .u64 k) := hZ.cell 0
  have z1 : World.cell? _ ⟨w.heap.size + 1, 1, none⟩ = some (.int .u64 i) := hZ.cell 1
  have z2 : World.cell? _ ⟨w.heap.size + 1, 2, none⟩ = some (.int .u64 o) := hZ.cell 2
  have z3 : World.cell? _ ⟨w.heap.size + 1, 3, none⟩ = some (.int .u64 n) := hZ.cell 3
  have z4 : World.cell? _ ⟨w.heap.size + 1, 4, none⟩ = some (.int .u64 c) := hZ.cell 4
  have z5 : World.cell? _ ⟨w.heap.size + 1, 5, none⟩ = some (.bool fin) := hZ.cell 5
  have z6 : World.cell? _ ⟨w.heap.size + 1, 6, none⟩ = some (D') := hZ.cell 6
  have z7 : World.cell? _ ⟨w.heap.size + 1, 7, none⟩ = some (T') := hZ.cell 7
  have z8 : World.cell? _ ⟨w.heap.size + 1, 8, none⟩ = some (R') := hZ.cell 8
  go_enter Try.func8, Try.ntmps8
  go_wp2_with fail
  refine (same_yes _ _ _ _ hD hD').mono ?_
  rintro e w3 ⟨rfl, rfl⟩
  go_wp2_with fail
  refine (same_yes _ _ _ _ hT hT').mono ?_
  rintro e w4 ⟨rfl, rfl⟩
  go_wp2_with fail
  refine (sameR_yes _ _ _ _ hR hR').mono ?_
  rintro e w5 ⟨rfl, m, rfl⟩
  go_wp2_with fail
  go_ret
  exact ⟨rfl, below_drewN hB _⟩

end Go.Proofs.Ytbigbnfllkacoaa
