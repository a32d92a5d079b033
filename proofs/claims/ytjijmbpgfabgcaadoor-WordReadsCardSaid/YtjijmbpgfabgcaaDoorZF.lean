/-
  right.
  right.
-/
import Derived.Test.YtjijmbpgfabgcaaDoorZE
namespace Go.Proofs.YtjijmbpgfabgcaaDoor
open Go.RowKit
set_option linter.unusedVariables false
set_option linter.unusedSimpArgs false

set_option maxHeartbeats 4000000 in
set_option maxRecDepth 100000 in
theorem right109 (kd id al : Int) (nA : Option Addr) (nl nc : Nat) (pr od sg so eg eo : Int) (sm : Bool) (cd : Int) (rA : Option Addr) (rl rc : Nat) (n ve : Int) (vA : Option Addr) (vl vc : Nat) (nm vs : List Int) (w : World) (hP : prt kd = (109, true)) (hG : Glob w) (hkd : 0 ≤ kd ∧ kd ≤ 18446744073709551615) (hid : 0 ≤ id ∧ id ≤ 18446744073709551615) (hal : 0 ≤ al ∧ al ≤ 18446744073709551615) (hsg : 0 ≤ sg ∧ sg ≤ 18446744073709551615) (hso : 0 ≤ so ∧ so ≤ 18446744073709551615) (heg : 0 ≤ eg ∧ eg ≤ 18446744073709551615) (heo : 0 ≤ eo ∧ eo ≤ 18446744073709551615) (hcd : 0 ≤ cd ∧ cd ≤ 18446744073709551615) (hn : 0 ≤ n ∧ n ≤ 18446744073709551615) (hve : 0 ≤ ve ∧ ve ≤ 18446744073709551615) (hpr : 0 ≤ pr ∧ pr ≤ 255) (hod : 0 ≤ od ∧ od ≤ 255) (hnm : Rd w .u8 (.slice nA nl nc) nm) (hvs : Rd w .u64 (.slice vA vl vc) vs) (hkn : BytesOk nm) (hkv : NumsOk vs) (hnl : nl ≤ 100000) (hrl : rl ≤ 100000) (hvl : vl ≤ 100000) :
    Calls Tryd.prog 25 #[.agg #[.int .u64 kd, .int .u64 id, .int .u64 al, .slice nA nl nc, .int .u8 pr, .int .u8 od, .int .u64 sg, .int .u64 so, .int .u64 eg, .int .u64 eo, .bool sm, .int .u64 cd, .slice rA rl rc, .int .u64 n, .int .u64 ve, .slice vA vl vc]] w fun e w' => e = .returned (.bool (RtB 109 id al nm pr od sg so eg eo sm cd rl n ve vs)) ∧ Below w.heap.size w w' := by
  have hO0 := Blk.new w 31 #[.int .u64 kd, .int .u64 id, .int .u64 al, .slice nA nl nc, .int .u8 pr, .int .u8 od, .int .u64 sg, .int .u64 so, .int .u64 eg, .int .u64 eo, .bool sm, .int .u64 cd, .slice rA rl rc, .int .u64 n, .int .u64 ve, .slice vA vl vc]
  have hB0 := (Below.refl w.heap.size w).alloc (Nat.le_refl _) (.cells #[.int .u64 kd, .int .u64 id, .int .u64 al, .slice nA nl nc, .int .u8 pr, .int .u8 od, .int .u64 sg, .int .u64 so, .int .u64 eg, .int .u64 eo, .bool sm, .int .u64 cd, .slice rA rl rc, .int .u64 n, .int .u64 ve, .slice vA vl vc] 31)
  have hG0 := hG.same hB0
  have a0 : World.cell? _ ⟨w.heap.size, 0, none⟩ = some (.int .u64 kd) := hO0.cell 0
  have a1 : World.cell? _ ⟨w.heap.size, 1, none⟩ = some (.int .u64 id) := hO0.cell 1
  have a2 : World.cell? _ ⟨w.heap.size, 2, none⟩ = some (.int .u64 al) := hO0.cell 2
  have a3 : World.cell? _ ⟨w.heap.size, 3, none⟩ = some (.slice nA nl nc) := hO0.cell 3
  have a4 : World.cell? _ ⟨w.heap.size, 4, none⟩ = some (.int .u8 pr) := hO0.cell 4
  have a5 : World.cell? _ ⟨w.heap.size, 5, none⟩ = some (.int .u8 od) := hO0.cell 5
  have a6 : World.cell? _ ⟨w.heap.size, 6, none⟩ = some (.int .u64 sg) := hO0.cell 6
  have a7 : World.cell? _ ⟨w.heap.size, 7, none⟩ = some (.int .u64 so) := hO0.cell 7
  have a8 : World.cell? _ ⟨w.heap.size, 8, none⟩ = some (.int .u64 eg) := hO0.cell 8
  have a9 : World.cell? _ ⟨w.heap.size, 9, none⟩ = some (.int .u64 eo) := hO0.cell 9
  have a10 : World.cell? _ ⟨w.heap.size, 10, none⟩ = some (.bool sm) := hO0.cell 10
  have a11 : World.cell? _ ⟨w.heap.size, 11, none⟩ = some (.int .u64 cd) := hO0.cell 11
  have a12 : World.cell? _ ⟨w.heap.size, 12, none⟩ = some (.slice rA rl rc) := hO0.cell 12
  have a13 : World.cell? _ ⟨w.heap.size, 13, none⟩ = some (.int .u64 n) := hO0.cell 13
  have a14 : World.cell? _ ⟨w.heap.size, 14, none⟩ = some (.int .u64 ve) := hO0.cell 14
  have a15 : World.cell? _ ⟨w.heap.size, 15, none⟩ = some (.slice vA vl vc) := hO0.cell 15
  go_enter Tryd.func25, Tryd.ntmps25
  go_wp2_with fail
  (with_reducible refine (parts_all kd _ hG0).mono ?_)
  rintro e w1 ⟨rfl, hb1⟩
  rw [hP]
  simp only []
  have hO1 := hO0.same hb1
  have hB1 := hB0.trans (hb1.mono hB0.size)
  clear hb1 hB0 a0 a1 a2 a3 a4 a5 a6 a7 a8 a9 a10 a11 a12 a13 a14 a15 hO0
  have b0 : World.cell? w1 ⟨w.heap.size, 0, none⟩ = some (.int .u64 kd) := hO1.cell 0
  have b1 : World.cell? w1 ⟨w.heap.size, 1, none⟩ = some (.int .u64 id) := hO1.cell 1
  have b2 : World.cell? w1 ⟨w.heap.size, 2, none⟩ = some (.int .u64 al) := hO1.cell 2
  have b3 : World.cell? w1 ⟨w.heap.size, 3, none⟩ = some (.slice nA nl nc) := hO1.cell 3
  have b4 : World.cell? w1 ⟨w.heap.size, 4, none⟩ = some (.int .u8 pr) := hO1.cell 4
  have b5 : World.cell? w1 ⟨w.heap.size, 5, none⟩ = some (.int .u8 od) := hO1.cell 5
  have b6 : World.cell? w1 ⟨w.heap.size, 6, none⟩ = some (.int .u64 sg) := hO1.cell 6
  have b7 : World.cell? w1 ⟨w.heap.size, 7, none⟩ = some (.int .u64 so) := hO1.cell 7
  have b8 : World.cell? w1 ⟨w.heap.size, 8, none⟩ = some (.int .u64 eg) := hO1.cell 8
  have b9 : World.cell? w1 ⟨w.heap.size, 9, none⟩ = some (.int .u64 eo) := hO1.cell 9
  have b10 : World.cell? w1 ⟨w.heap.size, 10, none⟩ = some (.bool sm) := hO1.cell 10
  have b11 : World.cell? w1 ⟨w.heap.size, 11, none⟩ = some (.int .u64 cd) := hO1.cell 11
  have b12 : World.cell? w1 ⟨w.heap.size, 12, none⟩ = some (.slice rA rl rc) := hO1.cell 12
  have b13 : World.cell? w1 ⟨w.heap.size, 13, none⟩ = some (.int .u64 n) := hO1.cell 13
  have b14 : World.cell? w1 ⟨w.heap.size, 14, none⟩ = some (.int .u64 ve) := hO1.cell 14
  have b15 : World.cell? w1 ⟨w.heap.size, 15, none⟩ = some (.slice vA vl vc) := hO1.cell 15
  go_wp2_with fail
  (with_reducible refine (bare_all 109 kd id al nA nl nc pr od sg so eg eo sm cd rA rl rc n ve vA vl vc _ (by decide)).mono ?_)
  rintro e w2 ⟨rfl, hb2⟩
  go_wp2_with fail
  (with_reducible refine (empty_all _ _ _ _ _ _ _ _ _ _ _ _ _ _ _ _ _ _ _ _ _ _ _ ⟨by decide, by decide⟩ (zf_rng hid ⟨by decide, by decide⟩) (zf_rng hal ⟨by decide, by decide⟩) (zf_rng hsg ⟨by decide, by decide⟩) (zf_rng hso ⟨by decide, by decide⟩) (zf_rng heg ⟨by decide, by decide⟩) (zf_rng heo ⟨by decide, by decide⟩) (zf_rng hcd ⟨by decide, by decide⟩) (zf_rng hn ⟨by decide, by decide⟩) (zf_rng hve ⟨by decide, by decide⟩) (zf_rng hpr ⟨by decide, by decide⟩) (zf_rng hod ⟨by decide, by decide⟩) (zf_le hnl) (zf_le hrl) (zf_le hvl)).mono ?_)
  rintro e w3 ⟨rfl, hb3⟩
  have hb23 := hb2.trans (hb3.mono hb2.size)
  have hO3 := hO1.same hb23
  have hB3 := hB1.trans (hb23.mono hB1.size)
  clear b0 b1 b2 b3 b4 b5 b6 b7 b8 b9 b10 b11 b12 b13 b14 b15
  have c0 : World.cell? w3 ⟨w.heap.size, 0, none⟩ = some (.int .u64 kd) := hO3.cell 0
  have c1 : World.cell? w3 ⟨w.heap.size, 1, none⟩ = some (.int .u64 id) := hO3.cell 1
  have c2 : World.cell? w3 ⟨w.heap.size, 2, none⟩ = some (.int .u64 al) := hO3.cell 2
  have c3 : World.cell? w3 ⟨w.heap.size, 3, none⟩ = some (.slice nA nl nc) := hO3.cell 3
  have c4 : World.cell? w3 ⟨w.heap.size, 4, none⟩ = some (.int .u8 pr) := hO3.cell 4
  have c5 : World.cell? w3 ⟨w.heap.size, 5, none⟩ = some (.int .u8 od) := hO3.cell 5
  have c6 : World.cell? w3 ⟨w.heap.size, 6, none⟩ = some (.int .u64 sg) := hO3.cell 6
  have c7 : World.cell? w3 ⟨w.heap.size, 7, none⟩ = some (.int .u64 so) := hO3.cell 7
  have c8 : World.cell? w3 ⟨w.heap.size, 8, none⟩ = some (.int .u64 eg) := hO3.cell 8
  have c9 : World.cell? w3 ⟨w.heap.size, 9, none⟩ = some (.int .u64 eo) := hO3.cell 9
  have c10 : World.cell? w3 ⟨w.heap.size, 10, none⟩ = some (.bool sm) := hO3.cell 10
  have c11 : World.cell? w3 ⟨w.heap.size, 11, none⟩ = some (.int .u64 cd) := hO3.cell 11
  have c12 : World.cell? w3 ⟨w.heap.size, 12, none⟩ = some (.slice rA rl rc) := hO3.cell 12
  have c13 : World.cell? w3 ⟨w.heap.size, 13, none⟩ = some (.int .u64 n) := hO3.cell 13
  have c14 : World.cell? w3 ⟨w.heap.size, 14, none⟩ = some (.int .u64 ve) := hO3.cell 14
  have c15 : World.cell? w3 ⟨w.heap.size, 15, none⟩ = some (.slice vA vl vc) := hO3.cell 15
  have HZ : Zer 109 id al nl pr od sg so eg eo sm cd rl n ve vl = Zer 109 id al nl pr od sg so eg eo sm cd rl n ve vl := rfl
  conv at HZ => lhs; unfold Zer
  generalize Emp _ _ _ _ _ _ _ _ _ _ _ _ _ _ _ = E at HZ ⊢
  have HE := Lib.hid HZ
  clear HZ
  obtain ⟨m9, hm9, hmx⟩ := max9 Tryd.prog id al cd n ve sg so eg eo
  have hl1 := hnm.rdv.1
  have hl2 := hvs.rdv.1
  have HM := Lib.hid hm9
  clear hm9
  have HL1 := Lib.hid hl1
  have HL2 := Lib.hid hl2
  clear hl1 hl2
  cases E
  · as_aux_lemma =>
      go_wp2_with fail
      all_goals go_ret
      all_goals refine ⟨?_, by first | exact hB3 | exact (hB3.trans (hb4.mono hB3.size))⟩
      all_goals have hm9 := HM.out
      all_goals have hE := HE.out
      all_goals have hl1 := HL1.out
      all_goals have hl2 := HL2.out
      all_goals clear HM HE HL1 HL2 hmx hB3 hO3 c0 c1 c2 c3 c4 c5 c6 c7 c8 c9 c10 c11 c12 c13 c14 c15
      all_goals have p4 : (bits .and .i64 109 4 = 0) = False := by simp; try decide
      all_goals have p16 : (bits .and .i64 109 16 = 0) = True := by simp; try decide
      all_goals have p128 : (bits .and .i64 109 128 = 0) = True := by simp; try decide
      all_goals have p64 : (bits .and .i64 109 64 = 0) = False := by simp; try decide
      all_goals have p256 : (bits .and .i64 109 256 = 0) = True := by simp; try decide
      all_goals have p8192 : (bits .and .i64 109 8192 = 0) = True := by simp; try decide
      all_goals simp only [RtB, p4, p16, p128, p64, p256, p8192, ← hE, ← hm9, ← hl1, ← hl2]
      all_goals clear hl1 hl2 hE hm9 hP hnm hvs hkn hkv hG 
      all_goals simp [*]
      all_goals try omega
      all_goals (try simp [p4, p16, p128, p64, p256, p8192] at *)
      all_goals try omega
      all_goals try (simp_all; done)
      all_goals try (simp_all; omega)
  · rcases Nat.eq_zero_or_pos nl with hz | hz
    · as_aux_lemma =>
        subst hz
        go_wp2_with (go_at_call 23; refine (less_all _ _ _ _ _).mono ?_; rintro e w4 ⟨rfl, hb4⟩)
        all_goals go_ret
        all_goals refine ⟨?_, by first | exact hB3 | exact (hB3.trans (hb4.mono hB3.size))⟩
        all_goals have hm9 := HM.out
        all_goals have hE := HE.out
        all_goals have hl1 := HL1.out
        all_goals have hl2 := HL2.out
        all_goals clear HM HE HL1 HL2 hmx hB3 hO3 c0 c1 c2 c3 c4 c5 c6 c7 c8 c9 c10 c11 c12 c13 c14 c15
        all_goals have p4 : (bits .and .i64 109 4 = 0) = False := by simp; try decide
        all_goals have p16 : (bits .and .i64 109 16 = 0) = True := by simp; try decide
        all_goals have p128 : (bits .and .i64 109 128 = 0) = True := by simp; try decide
        all_goals have p64 : (bits .and .i64 109 64 = 0) = False := by simp; try decide
        all_goals have p256 : (bits .and .i64 109 256 = 0) = True := by simp; try decide
        all_goals have p8192 : (bits .and .i64 109 8192 = 0) = True := by simp; try decide
        all_goals simp only [RtB, p4, p16, p128, p64, p256, p8192, ← hE, ← hm9, ← hl1, ← hl2]
        all_goals clear hl1 hl2 hE hm9 hP hnm hvs hkn hkv hG 
        all_goals simp [*]
        all_goals try omega
        all_goals (try simp [p4, p16, p128, p64, p256, p8192] at *)
        all_goals try omega
        all_goals try (simp_all; done)
        all_goals try (simp_all; omega)
    · as_aux_lemma =>
        obtain ⟨k, rfl⟩ : ∃ k, nl = k + 1 := ⟨nl - 1, by omega⟩
        have hnm3 := hnm.below hB3
        obtain ⟨nb, no, rfl, hnb, l0⟩ := hnm3.at_ k (by have := HL1.out; omega)
        have hsub : ((k + 1 : Nat) : Int) - 1 = (k : Int) := by omega
        go_wp2_with (go_at_call 23; refine (less_all _ _ _ _ _).mono ?_; rintro e w4 ⟨rfl, hb4⟩)
        all_goals go_ret
        all_goals refine ⟨?_, by first | exact hB3 | exact (hB3.trans (hb4.mono hB3.size))⟩
        all_goals have hm9 := HM.out
        all_goals have hE := HE.out
        all_goals have hl1 := HL1.out
        all_goals have hl2 := HL2.out
        all_goals clear HM HE HL1 HL2 hmx hB3 hO3 c0 c1 c2 c3 c4 c5 c6 c7 c8 c9 c10 c11 c12 c13 c14 c15
        all_goals have p4 : (bits .and .i64 109 4 = 0) = False := by simp; try decide
        all_goals have p16 : (bits .and .i64 109 16 = 0) = True := by simp; try decide
        all_goals have p128 : (bits .and .i64 109 128 = 0) = True := by simp; try decide
        all_goals have p64 : (bits .and .i64 109 64 = 0) = False := by simp; try decide
        all_goals have p256 : (bits .and .i64 109 256 = 0) = True := by simp; try decide
        all_goals have p8192 : (bits .and .i64 109 8192 = 0) = True := by simp; try decide
        all_goals simp only [RtB, p4, p16, p128, p64, p256, p8192, ← hE, ← hm9, ← hl1, ← hl2]
        all_goals clear hl1 hl2 hE hm9 hP hnm hvs hkn hkv hG 
        all_goals simp [*]
        all_goals try omega
        all_goals (try simp [p4, p16, p128, p64, p256, p8192] at *)
        all_goals try omega
        all_goals try (simp_all; done)
        all_goals try (simp_all; omega)

end Go.Proofs.YtjijmbpgfabgcaaDoor
namespace Go.Proofs.YtjijmbpgfabgcaaDoor
open Go.RowKit
set_option linter.unusedVariables false
set_option linter.unusedSimpArgs false

set_option maxHeartbeats 4000000 in
set_option maxRecDepth 100000 in
theorem right10240 (kd id al : Int) (nA : Option Addr) (nl nc : Nat) (pr od sg so eg eo : Int) (sm : Bool) (cd : Int) (rA : Option Addr) (rl rc : Nat) (n ve : Int) (vA : Option Addr) (vl vc : Nat) (nm vs : List Int) (w : World) (hP : prt kd = (10240, true)) (hG : Glob w) (hkd : 0 ≤ kd ∧ kd ≤ 18446744073709551615) (hid : 0 ≤ id ∧ id ≤ 18446744073709551615) (hal : 0 ≤ al ∧ al ≤ 18446744073709551615) (hsg : 0 ≤ sg ∧ sg ≤ 18446744073709551615) (hso : 0 ≤ so ∧ so ≤ 18446744073709551615) (heg : 0 ≤ eg ∧ eg ≤ 18446744073709551615) (heo : 0 ≤ eo ∧ eo ≤ 18446744073709551615) (hcd : 0 ≤ cd ∧ cd ≤ 18446744073709551615) (hn : 0 ≤ n ∧ n ≤ 18446744073709551615) (hve : 0 ≤ ve ∧ ve ≤ 18446744073709551615) (hpr : 0 ≤ pr ∧ pr ≤ 255) (hod : 0 ≤ od ∧ od ≤ 255) (hnm : Rd w .u8 (.slice nA nl nc) nm) (hvs : Rd w .u64 (.slice vA vl vc) vs) (hkn : BytesOk nm) (hkv : NumsOk vs) (hnl : nl ≤ 100000) (hrl : rl ≤ 100000) (hvl : vl ≤ 100000) :
    Calls Tryd.prog 25 #[.agg #[.int .u64 kd, .int .u64 id, .int .u64 al, .slice nA nl nc, .int .u8 pr, .int .u8 od, .int .u64 sg, .int .u64 so, .int .u64 eg, .int .u64 eo, .bool sm, .int .u64 cd, .slice rA rl rc, .int .u64 n, .int .u64 ve, .slice vA vl vc]] w fun e w' => e = .returned (.bool (RtB 10240 id al nm pr od sg so eg eo sm cd rl n ve vs)) ∧ Below w.heap.size w w' := by
  have hO0 := Blk.new w 31 #[.int .u64 kd, .int .u64 id, .int .u64 al, .slice nA nl nc, .int .u8 pr, .int .u8 od, .int .u64 sg, .int .u64 so, .int .u64 eg, .int .u64 eo, .bool sm, .int .u64 cd, .slice rA rl rc, .int .u64 n, .int .u64 ve, .slice vA vl vc]
  have hB0 := (Below.refl w.heap.size w).alloc (Nat.le_refl _) (.cells #[.int .u64 kd, .int .u64 id, .int .u64 al, .slice nA nl nc, .int .u8 pr, .int .u8 od, .int .u64 sg, .int .u64 so, .int .u64 eg, .int .u64 eo, .bool sm, .int .u64 cd, .slice rA rl rc, .int .u64 n, .int .u64 ve, .slice vA vl vc] 31)
  have hG0 := hG.same hB0
  have a0 : World.cell? _ ⟨w.heap.size, 0, none⟩ = some (.int .u64 kd) := hO0.cell 0
  have a1 : World.cell? _ ⟨w.heap.size, 1, none⟩ = some (.int .u64 id) := hO0.cell 1
  have a2 : World.cell? _ ⟨w.heap.size, 2, none⟩ = some (.int .u64 al) := hO0.cell 2
  have a3 : World.cell? _ ⟨w.heap.size, 3, none⟩ = some (.slice nA nl nc) := hO0.cell 3
  have a4 : World.cell? _ ⟨w.heap.size, 4, none⟩ = some (.int .u8 pr) := hO0.cell 4
  have a5 : World.cell? _ ⟨w.heap.size, 5, none⟩ = some (.int .u8 od) := hO0.cell 5
  have a6 : World.cell? _ ⟨w.heap.size, 6, none⟩ = some (.int .u64 sg) := hO0.cell 6
  have a7 : World.cell? _ ⟨w.heap.size, 7, none⟩ = some (.int .u64 so) := hO0.cell 7
  have a8 : World.cell? _ ⟨w.heap.size, 8, none⟩ = some (.int .u64 eg) := hO0.cell 8
  have a9 : World.cell? _ ⟨w.heap.size, 9, none⟩ = some (.int .u64 eo) := hO0.cell 9
  have a10 : World.cell? _ ⟨w.heap.size, 10, none⟩ = some (.bool sm) := hO0.cell 10
  have a11 : World.cell? _ ⟨w.heap.size, 11, none⟩ = some (.int .u64 cd) := hO0.cell 11
  have a12 : World.cell? _ ⟨w.heap.size, 12, none⟩ = some (.slice rA rl rc) := hO0.cell 12
  have a13 : World.cell? _ ⟨w.heap.size, 13, none⟩ = some (.int .u64 n) := hO0.cell 13
  have a14 : World.cell? _ ⟨w.heap.size, 14, none⟩ = some (.int .u64 ve) := hO0.cell 14
  have a15 : World.cell? _ ⟨w.heap.size, 15, none⟩ = some (.slice vA vl vc) := hO0.cell 15
  go_enter Tryd.func25, Tryd.ntmps25
  go_wp2_with fail
  (with_reducible refine (parts_all kd _ hG0).mono ?_)
  rintro e w1 ⟨rfl, hb1⟩
  rw [hP]
  simp only []
  have hO1 := hO0.same hb1
  have hB1 := hB0.trans (hb1.mono hB0.size)
  clear hb1 hB0 a0 a1 a2 a3 a4 a5 a6 a7 a8 a9 a10 a11 a12 a13 a14 a15 hO0
  have b0 : World.cell? w1 ⟨w.heap.size, 0, none⟩ = some (.int .u64 kd) := hO1.cell 0
  have b1 : World.cell? w1 ⟨w.heap.size, 1, none⟩ = some (.int .u64 id) := hO1.cell 1
  have b2 : World.cell? w1 ⟨w.heap.size, 2, none⟩ = some (.int .u64 al) := hO1.cell 2
  have b3 : World.cell? w1 ⟨w.heap.size, 3, none⟩ = some (.slice nA nl nc) := hO1.cell 3
  have b4 : World.cell? w1 ⟨w.heap.size, 4, none⟩ = some (.int .u8 pr) := hO1.cell 4
  have b5 : World.cell? w1 ⟨w.heap.size, 5, none⟩ = some (.int .u8 od) := hO1.cell 5
  have b6 : World.cell? w1 ⟨w.heap.size, 6, none⟩ = some (.int .u64 sg) := hO1.cell 6
  have b7 : World.cell? w1 ⟨w.heap.size, 7, none⟩ = some (.int .u64 so) := hO1.cell 7
  have b8 : World.cell? w1 ⟨w.heap.size, 8, none⟩ = some (.int .u64 eg) := hO1.cell 8
  have b9 : World.cell? w1 ⟨w.heap.size, 9, none⟩ = some (.int .u64 eo) := hO1.cell 9
  have b10 : World.cell? w1 ⟨w.heap.size, 10, none⟩ = some (.bool sm) := hO1.cell 10
  have b11 : World.cell? w1 ⟨w.heap.size, 11, none⟩ = some (.int .u64 cd) := hO1.cell 11
  have b12 : World.cell? w1 ⟨w.heap.size, 12, none⟩ = some (.slice rA rl rc) := hO1.cell 12
  have b13 : World.cell? w1 ⟨w.heap.size, 13, none⟩ = some (.int .u64 n) := hO1.cell 13
  have b14 : World.cell? w1 ⟨w.heap.size, 14, none⟩ = some (.int .u64 ve) := hO1.cell 14
  have b15 : World.cell? w1 ⟨w.heap.size, 15, none⟩ = some (.slice vA vl vc) := hO1.cell 15
  go_wp2_with fail
  (with_reducible refine (bare_all 10240 kd id al nA nl nc pr od sg so eg eo sm cd rA rl rc n ve vA vl vc _ (by decide)).mono ?_)
  rintro e w2 ⟨rfl, hb2⟩
  go_wp2_with fail
  (with_reducible refine (empty_all _ _ _ _ _ _ _ _ _ _ _ _ _ _ _ _ _ _ _ _ _ _ _ ⟨by decide, by decide⟩ (zf_rng hid ⟨by decide, by decide⟩) (zf_rng hal ⟨by decide, by decide⟩) (zf_rng hsg ⟨by decide, by decide⟩) (zf_rng hso ⟨by decide, by decide⟩) (zf_rng heg ⟨by decide, by decide⟩) (zf_rng heo ⟨by decide, by decide⟩) (zf_rng hcd ⟨by decide, by decide⟩) (zf_rng hn ⟨by decide, by decide⟩) (zf_rng hve ⟨by decide, by decide⟩) (zf_rng hpr ⟨by decide, by decide⟩) (zf_rng hod ⟨by decide, by decide⟩) (zf_le hnl) (zf_le hrl) (zf_le hvl)).mono ?_)
  rintro e w3 ⟨rfl, hb3⟩
  have hb23 := hb2.trans (hb3.mono hb2.size)
  have hO3 := hO1.same hb23
  have hB3 := hB1.trans (hb23.mono hB1.size)
  clear b0 b1 b2 b3 b4 b5 b6 b7 b8 b9 b10 b11 b12 b13 b14 b15
  have c0 : World.cell? w3 ⟨w.heap.size, 0, none⟩ = some (.int .u64 kd) := hO3.cell 0
  have c1 : World.cell? w3 ⟨w.heap.size, 1, none⟩ = some (.int .u64 id) := hO3.cell 1
  have c2 : World.cell? w3 ⟨w.heap.size, 2, none⟩ = some (.int .u64 al) := hO3.cell 2
  have c3 : World.cell? w3 ⟨w.heap.size, 3, none⟩ = some (.slice nA nl nc) := hO3.cell 3
  have c4 : World.cell? w3 ⟨w.heap.size, 4, none⟩ = some (.int .u8 pr) := hO3.cell 4
  have c5 : World.cell? w3 ⟨w.heap.size, 5, none⟩ = some (.int .u8 od) := hO3.cell 5
  have c6 : World.cell? w3 ⟨w.heap.size, 6, none⟩ = some (.int .u64 sg) := hO3.cell 6
  have c7 : World.cell? w3 ⟨w.heap.size, 7, none⟩ = some (.int .u64 so) := hO3.cell 7
  have c8 : World.cell? w3 ⟨w.heap.size, 8, none⟩ = some (.int .u64 eg) := hO3.cell 8
  have c9 : World.cell? w3 ⟨w.heap.size, 9, none⟩ = some (.int .u64 eo) := hO3.cell 9
  have c10 : World.cell? w3 ⟨w.heap.size, 10, none⟩ = some (.bool sm) := hO3.cell 10
  have c11 : World.cell? w3 ⟨w.heap.size, 11, none⟩ = some (.int .u64 cd) := hO3.cell 11
  have c12 : World.cell? w3 ⟨w.heap.size, 12, none⟩ = some (.slice rA rl rc) := hO3.cell 12
  have c13 : World.cell? w3 ⟨w.heap.size, 13, none⟩ = some (.int .u64 n) := hO3.cell 13
  have c14 : World.cell? w3 ⟨w.heap.size, 14, none⟩ = some (.int .u64 ve) := hO3.cell 14
  have c15 : World.cell? w3 ⟨w.heap.size, 15, none⟩ = some (.slice vA vl vc) := hO3.cell 15
  have HZ : Zer 10240 id al nl pr od sg so eg eo sm cd rl n ve vl = Zer 10240 id al nl pr od sg so eg eo sm cd rl n ve vl := rfl
  conv at HZ => lhs; unfold Zer
  generalize Emp _ _ _ _ _ _ _ _ _ _ _ _ _ _ _ = E at HZ ⊢
  have HE := Lib.hid HZ
  clear HZ
  obtain ⟨m9, hm9, hmx⟩ := max9 Tryd.prog id al cd n ve sg so eg eo
  have hl1 := hnm.rdv.1
  have hl2 := hvs.rdv.1
  have HM := Lib.hid hm9
  clear hm9
  have HL1 := Lib.hid hl1
  have HL2 := Lib.hid hl2
  clear hl1 hl2
  cases E
  · as_aux_lemma =>
      go_wp2_with fail
      all_goals go_ret
      all_goals refine ⟨?_, by first | exact hB3 | exact hB3⟩
      all_goals have hm9 := HM.out
      all_goals have hE := HE.out
      all_goals have hl1 := HL1.out
      all_goals have hl2 := HL2.out
      all_goals clear HM HE HL1 HL2 hmx hB3 hO3 c0 c1 c2 c3 c4 c5 c6 c7 c8 c9 c10 c11 c12 c13 c14 c15
      all_goals have p4 : (bits .and .i64 10240 4 = 0) = True := by simp; try decide
      all_goals have p16 : (bits .and .i64 10240 16 = 0) = True := by simp; try decide
      all_goals have p128 : (bits .and .i64 10240 128 = 0) = True := by simp; try decide
      all_goals have p64 : (bits .and .i64 10240 64 = 0) = True := by simp; try decide
      all_goals have p256 : (bits .and .i64 10240 256 = 0) = True := by simp; try decide
      all_goals have p8192 : (bits .and .i64 10240 8192 = 0) = False := by simp; try decide
      all_goals simp only [RtB, p4, p16, p128, p64, p256, p8192, ← hE, ← hm9, ← hl1, ← hl2]
      all_goals clear hl1 hl2 hE hm9 hP hnm hvs hkn hkv hG 
      all_goals simp [*]
      all_goals try omega
      all_goals (try simp [p4, p16, p128, p64, p256, p8192] at *)
      all_goals try omega
      all_goals try (simp_all; done)
      all_goals try (simp_all; omega)
  · as_aux_lemma =>
      have hvs3 := hvs.below hB3
      go_wp2_with (go_at_call 41; refine (max_any _ vs _ hvs3 hkv (by have := HL2.out; omega)).mono ?_; rintro e w4 ⟨rfl, rfl⟩)
      all_goals go_ret
      all_goals refine ⟨?_, by first | exact hB3 | exact hB3⟩
      all_goals have hm9 := HM.out
      all_goals have hE := HE.out
      all_goals have hl1 := HL1.out
      all_goals have hl2 := HL2.out
      all_goals clear HM HE HL1 HL2 hmx hB3 hO3 c0 c1 c2 c3 c4 c5 c6 c7 c8 c9 c10 c11 c12 c13 c14 c15
      all_goals have p4 : (bits .and .i64 10240 4 = 0) = True := by simp; try decide
      all_goals have p16 : (bits .and .i64 10240 16 = 0) = True := by simp; try decide
      all_goals have p128 : (bits .and .i64 10240 128 = 0) = True := by simp; try decide
      all_goals have p64 : (bits .and .i64 10240 64 = 0) = True := by simp; try decide
      all_goals have p256 : (bits .and .i64 10240 256 = 0) = True := by simp; try decide
      all_goals have p8192 : (bits .and .i64 10240 8192 = 0) = False := by simp; try decide
      all_goals simp only [RtB, p4, p16, p128, p64, p256, p8192, ← hE, ← hm9, ← hl1, ← hl2]
      all_goals clear hl1 hl2 hE hm9 hP hnm hvs hkn hkv hG 
      all_goals simp [*]
      all_goals try omega
      all_goals (try simp [p4, p16, p128, p64, p256, p8192] at *)
      all_goals try omega
      all_goals try (simp_all; done)
      all_goals try (simp_all; omega)

end Go.Proofs.YtjijmbpgfabgcaaDoor
