/-
  The reference's ledger: one more packet.
-/
import Derived.Test.YtohjifbkjfnkfaaLrefc
import Derived.Test.YtohjifbkjfnkfaaRegion
namespace Go.Proofs.Ytohjifbkjfnkfaa
open Go.RowKit
set_option linter.unusedVariables false
set_option linter.unusedSimpArgs false

set_option maxHeartbeats 4000000 in
set_option maxRecDepth 100000 in
theorem sendR_no (B g : Nat) (L : List Rp) (nx ak : Int) (sm : Bool) (p : Pk) (w : World) (hl : RLed B w g L nx ak sm) (hp : PkIn p) (hn : sendE nx p ≠ 0) :
    Calls Try.prog 21 #[.pointer (some ⟨g, 0, none⟩), (.agg #[.int .u64 p.num, .int .u64 p.sent, .int .i64 p.size, .bool p.asks, .bool false])] w fun e w' => e = .returned (.int .i64 (sendE nx p)) ∧ Below w.heap.size w w' := by
  obtain ⟨hBg, V, hb, ho⟩ := hl
  obtain ⟨pn, ps, pz, pa⟩ := p
  obtain ⟨hk1, hk2, hk3⟩ := hp
  simp only at hk1 hk2 hk3
  have hO := Blk.new w 50 #[.int .u64 pn, .int .u64 ps, .int .i64 pz, .bool pa, .bool false]
  have hb1 := hb.alloc (.cells #[.int .u64 pn, .int .u64 ps, .int .i64 pz, .bool pa, .bool false] 50)
  have hB1 := (Below.refl w.heap.size w).alloc (Nat.le_refl _) (.cells #[.int .u64 pn, .int .u64 ps, .int .i64 pz, .bool pa, .bool false] 50)
  have hgl := hb.lt
  have c1 := hb1.cell 1
  have o0 := hO.cell 0
  have o1 := hO.cell 1
  have o2 := hO.cell 2
  have o3 := hO.cell 3
  have hol := hO.lt
  simp only [List.getElem?_toArray, List.getElem?_cons_zero, List.getElem?_cons_succ] at o0 o1 o2 o3 c1
  clear hb ho hO
  unfold sendE at hn ⊢
  simp only at hn ⊢
  by_cases h1 : pz < 0
  · rw [if_pos (.inl h1)]
    have q1 : decide (pz < 0) = true := by simpa using h1
    go_enter Try.func21, Try.ntmps21
    go_wp2_with fail
    go_ret
    exact ⟨rfl, hB1⟩
  · have q1 : decide (pz < 0) = false := by simpa using h1
    by_cases h2 : 4611686018427387903 < pn
    · rw [if_pos (.inr (.inl h2))]
      have q2 : decide (4611686018427387903 < pn) = true := by simpa using h2
      go_enter Try.func21, Try.ntmps21
      go_wp2_with fail
      go_ret
      exact ⟨rfl, hB1⟩
    · have q2 : decide (4611686018427387903 < pn) = false := by simpa using h2
      by_cases h3 : 4611686018427387903 < ps
      · rw [if_pos (.inr (.inr h3))]
        have q3 : decide (4611686018427387903 < ps) = true := by simpa using h3
        go_enter Try.func21, Try.ntmps21
        go_wp2_with fail
        go_ret
        exact ⟨rfl, hB1⟩
      · have q3 : decide (4611686018427387903 < ps) = false := by simpa using h3
        rw [if_neg (by omega)] at hn ⊢
        by_cases h4 : pn < nx
        · rw [if_pos h4]
          have q4 : decide (pn < nx) = true := by simpa using h4
          go_enter Try.func21, Try.ntmps21
          go_wp2_with fail
          go_quiet (fail)
          go_wp2_with fail
          go_ret
          exact ⟨rfl, below_drewN hB1 _⟩
        · rw [if_neg h4] at hn
          exact absurd rfl hn

theorem own_lit_at {B n : Nat} {X w : World} (hn : n = X.heap.size) (h : Below (X.alloc (.cells #[] 50)).heap.size (X.alloc (.cells #[] 50)) w) (hB : B ≤ X.heap.size) : w.ownsRow B 50 5 (.slice (some ⟨n, 0, none⟩) 0 0) 0 [] :=
  hn ▸ own_same (World.ownsRow_lit (size := 5) (e := 50) X #[] 0 hB (by decide) rfl) h
theorem sentR_world {B sz : Nat} {w w9 : World} {g : Nat} {V V9 : Value} {L : List Rp} {nx ak : Int} {sm : Bool} {p : Pk} (hBg : B ≤ g) (hb : Blk w9 g 57 #[V, .int .u64 nx, .int .u64 ak, .bool sm]) (hown : w9.ownsRow sz 50 5 V9 (L.length + 1) (rcells L ++ rpC (p, false))) (hsz : B ≤ sz) (hB : Below B w w9) (hk : KeepR w w9 ∧ w.grownBy w9 (some g)) (n : Int) :
    ∀ wz, (wz = (w9.setCell ⟨g, 0, none⟩ V9).setCell ⟨g, 1, none⟩ (.int .u64 n)) ∨ (wz = ((w9.setCell ⟨g, 0, none⟩ V9).setCell ⟨g, 1, none⟩ (.int .u64 n)).drew) ∨ (wz = ((w9.setCell ⟨g, 0, none⟩ V9).drew).setCell ⟨g, 1, none⟩ (.int .u64 n)) →
      RLed B wz g (L ++ [(p, false)]) n ak sm ∧ Below B w wz ∧ KeepR w wz ∧ w.grownBy wz (some g) := by
  have hne := own_blk_ne hown hb (by decide)
  have e : (L ++ [(p, false)]).length = L.length + 1 := by simp
  have e2 : rcells (L ++ [(p, false)]) = rcells L ++ rpC (p, false) := by rw [rcells_append]; simp [rcells]
  have key : RLed B ((w9.setCell ⟨g, 0, none⟩ V9).setCell ⟨g, 1, none⟩ (.int .u64 n)) g (L ++ [(p, false)]) n ak sm ∧ Below B w ((w9.setCell ⟨g, 0, none⟩ V9).setCell ⟨g, 1, none⟩ (.int .u64 n)) ∧ KeepR w ((w9.setCell ⟨g, 0, none⟩ V9).setCell ⟨g, 1, none⟩ (.int .u64 n)) ∧ w.grownBy ((w9.setCell ⟨g, 0, none⟩ V9).setCell ⟨g, 1, none⟩ (.int .u64 n)) (some g) :=
    ⟨⟨hBg, _, (hb.set_ 0 _).set_ 1 _, by rw [e, e2]; exact own_base (own_far (own_far hown hne _) hne _) hsz⟩, (hB.setCell hBg _).setCell hBg _, (hk.1.trans (KeepR.set hb 0 _)).trans (KeepR.set (hb.set_ 0 _) 1 _), grown_set (grown_set hk.2 _ _) _ _⟩
  intro wz hz
  rcases hz with rfl | rfl | rfl
  · exact key
  · exact ⟨key.1, below_drewN key.2.1 1, key.2.2.1.drew, grown_drew key.2.2.2⟩
  · exact ⟨key.1, below_drewN key.2.1 1, key.2.2.1.drew, grown_drew key.2.2.2⟩
set_option maxHeartbeats 4000000 in
set_option maxRecDepth 100000 in
theorem sendR_ok (B g : Nat) (L : List Rp) (nx ak : Int) (sm : Bool) (p : Pk) (w : World) (hl : RLed B w g L nx ak sm) (hBw : B ≤ w.heap.size) (hL : L.length ≤ 100000) (hp : PkOk p) (hn : nx ≤ p.num) :
    Calls Try.prog 21 #[.pointer (some ⟨g, 0, none⟩), .agg #[.int .u64 p.num, .int .u64 p.sent, .int .i64 p.size, .bool p.asks, .bool false]] w fun e w' => e = .returned (.int .i64 0) ∧ RLed B w' g (L ++ [(p, false)]) (p.num + 1) ak sm ∧ Below B w w' ∧ KeepR w w' ∧ w.grownBy w' (some g) := by
  obtain ⟨i0, hi, hz0, hz1, hz2⟩ := info_parts infoQ
  obtain ⟨hBg, V, hb, ho⟩ := hl
  obtain ⟨A, cap, rfl, _, hnc, hcm, _⟩ := rps_of_own ho
  obtain ⟨pn, ps, pz, pa⟩ := p
  obtain ⟨hk1, hk2, hk3⟩ := hp
  simp only at hk1 hk2 hk3 hn
  have hO := Blk.new w 50 #[.int .u64 pn, .int .u64 ps, .int .i64 pz, .bool pa, .bool false]
  have hb1 := hb.alloc (.cells #[.int .u64 pn, .int .u64 ps, .int .i64 pz, .bool pa, .bool false] 50)
  have ho1 := ho.alloc (.cells #[.int .u64 pn, .int .u64 ps, .int .i64 pz, .bool pa, .bool false] 50)
  have hB1 := (Below.refl w.heap.size w).alloc (Nat.le_refl _) (.cells #[.int .u64 pn, .int .u64 ps, .int .i64 pz, .bool pa, .bool false] 50)
  have q1 : decide (pz < 0) = false := by simpa using hk3.1
  have q2 : decide (4611686018427387903 < pn) = false := by simpa using hk1.2
  have q3 : decide (4611686018427387903 < ps) = false := by simpa using hk2.2
  have q4 : decide (pn < nx) = false := by simpa using hn
  have hgl := hb.lt
  have c0 := hb1.cell 0
  have c1 := hb1.cell 1
  have o0 := hO.cell 0
  have o1 := hO.cell 1
  have o2 := hO.cell 2
  have o3 := hO.cell 3
  have o4 := hO.cell 4
  have hol := hO.lt
  simp only [List.getElem?_toArray, List.getElem?_cons_zero, List.getElem?_cons_succ] at o0 o1 o2 o3 o4 c0 c1
  clear hb ho hO
  go_enter Try.func21, Try.ntmps21
  go_wp2_with fail
  go_quiet (fail)
  go_wp2_with fail
  refine wp_world (fun wv => Blk wv g 57 #[.slice A L.length cap, .int .u64 nx, .int .u64 ak, .bool sm] ∧ wv.ownsRow B 50 5 (.slice A L.length cap) L.length (rcells L) ∧ Blk wv w.heap.size 50 #[.int .u64 pn, .int .u64 ps, .int .i64 pz, .bool pa, .bool false] ∧ Below w.heap.size w wv) ⟨hb1, ho1, Blk.new w _ _, below_drewN hB1 _⟩ ?_
  clear hb1 ho1 hB1 c0 c1 o0 o1 o2 o3 o4 hol
  rintro w6 ⟨hb, ho, hO, hB⟩
  have c0 := hb.cell 0
  have o0 := hO.cell 0
  have o1 := hO.cell 1
  have o2 := hO.cell 2
  have o3 := hO.cell 3
  have o4 := hO.cell 4
  have hol := hO.lt
  have hg6 := hb.lt
  have f0 := hb.frozen 0
  have hgne : g ≠ w.heap.size := by omega
  simp only [List.getElem?_toArray, List.getElem?_cons_zero, List.getElem?_cons_succ] at o0 o1 o2 o3 o4 c0
  have htok : True := trivial
  have hlen := ho.1
  go_region_law
    (first
    | (clear htok; refine step_append_any _ (by rfl) _ _ 55 (by rfl) w6.heap.size 50 i0 _ 5 32 Try.underlying55 hi hz0 hz1 hz2 (by rfl) (by decide) (.slice (some ⟨w6.heap.size, 0, none⟩) 0 0) 0 [] (by rfl) (own_lit_at (X := w6) rfl (by (repeat (first | with_reducible exact Below.refl _ _ | with_reducible assumption | with_reducible refine keepB_drew ?_ | with_reducible refine keepB_drewN ?_ _ | with_reducible refine keepB_alloc ?_ _))) (Nat.le_refl _)) A L.length cap (rcells L) (by rfl) (rdv_own (own_same ho (by (repeat (first | with_reducible exact Below.refl _ _ | with_reducible assumption | with_reducible refine keepB_drew ?_ | with_reducible refine keepB_drewN ?_ _ | with_reducible refine keepB_alloc ?_ _))))).1 (rcells_one L) (by unfold maxLen; omega) (by omega) (szB (by (repeat (first | with_reducible exact Below.refl _ _ | with_reducible assumption | with_reducible refine keepB_drew ?_ | with_reducible refine keepB_drewN ?_ _ | with_reducible refine keepB_alloc ?_ _)))) (rdv_own ho).2 ?_; intro v7 w7 hown7 hgrow7 hat7; rw [Nat.zero_add, List.nil_append] at hown7; obtain ⟨A7, c7, rfl, _⟩ := sl_of_own hown7; have hB7 : Below w6.heap.size w6 w7 := Below.grown (by (repeat (first | with_reducible exact Below.refl _ _ | with_reducible assumption | with_reducible refine keepB_drew ?_ | with_reducible refine keepB_drewN ?_ _ | with_reducible refine keepB_alloc ?_ _))) hgrow7 (szB (by (repeat (first | with_reducible exact Below.refl _ _ | with_reducible assumption | with_reducible refine keepB_drew ?_ | with_reducible refine keepB_drewN ?_ _ | with_reducible refine keepB_alloc ?_ _)))) (fun b e => by simp [Value.ownBlock] at e; omega); have hO7 := hO.same hB7; have p0 : w7.cell? ⟨w.heap.size, 0, none⟩ = some (.int .u64 pn) := hO7.cell 0; have p1 : w7.cell? ⟨w.heap.size, 1, none⟩ = some (.int .u64 ps) := hO7.cell 1; have p2 : w7.cell? ⟨w.heap.size, 2, none⟩ = some (.int .i64 pz) := hO7.cell 2; have p3 : w7.cell? ⟨w.heap.size, 3, none⟩ = some (.bool pa) := hO7.cell 3; have p4 : w7.cell? ⟨w.heap.size, 4, none⟩ = some (.bool false) := hO7.cell 4)
    | (clear htok; refine step_append_any _ (by rfl) _ _ 55 (by rfl) w6.heap.size 50 i0 _ 5 32 Try.underlying55 hi hz0 hz1 hz2 (by rfl) (by decide) (.slice (some ⟨w6.heap.size + 1, 0, none⟩) 0 0) 0 [] (by rfl) (own_lit_at (X := w6.alloc (.cells #[.int .u64 pn, .int .u64 ps, .int .i64 pz, .bool pa, .bool false] 50)) (by simp) (by (repeat (first | with_reducible exact Below.refl _ _ | with_reducible assumption | with_reducible refine keepB_drew ?_ | with_reducible refine keepB_drewN ?_ _ | with_reducible refine keepB_alloc ?_ _))) (by simp)) A L.length cap (rcells L) (by rfl) (rdv_own (own_same ho (by (repeat (first | with_reducible exact Below.refl _ _ | with_reducible assumption | with_reducible refine keepB_drew ?_ | with_reducible refine keepB_drewN ?_ _ | with_reducible refine keepB_alloc ?_ _))))).1 (rcells_one L) (by unfold maxLen; omega) (by omega) (szB (by (repeat (first | with_reducible exact Below.refl _ _ | with_reducible assumption | with_reducible refine keepB_drew ?_ | with_reducible refine keepB_drewN ?_ _ | with_reducible refine keepB_alloc ?_ _)))) (rdv_own ho).2 ?_; intro v7 w7 hown7 hgrow7 hat7; rw [Nat.zero_add, List.nil_append] at hown7; obtain ⟨A7, c7, rfl, _⟩ := sl_of_own hown7; have hB7 : Below w6.heap.size w6 w7 := Below.grown (by (repeat (first | with_reducible exact Below.refl _ _ | with_reducible assumption | with_reducible refine keepB_drew ?_ | with_reducible refine keepB_drewN ?_ _ | with_reducible refine keepB_alloc ?_ _))) hgrow7 (szB (by (repeat (first | with_reducible exact Below.refl _ _ | with_reducible assumption | with_reducible refine keepB_drew ?_ | with_reducible refine keepB_drewN ?_ _ | with_reducible refine keepB_alloc ?_ _)))) (fun b e => by simp [Value.ownBlock] at e; omega); have hO7 := hO.same hB7; have p0 : w7.cell? ⟨w.heap.size, 0, none⟩ = some (.int .u64 pn) := hO7.cell 0; have p1 : w7.cell? ⟨w.heap.size, 1, none⟩ = some (.int .u64 ps) := hO7.cell 1; have p2 : w7.cell? ⟨w.heap.size, 2, none⟩ = some (.int .i64 pz) := hO7.cell 2; have p3 : w7.cell? ⟨w.heap.size, 3, none⟩ = some (.bool pa) := hO7.cell 3; have p4 : w7.cell? ⟨w.heap.size, 4, none⟩ = some (.bool false) := hO7.cell 4)
    | (refine step_append_any _ (by rfl) _ _ 55 (by rfl) w6.heap.size 50 i0 _ 5 32 Try.underlying55 hi hz0 hz1 hz2 (by rfl) (by decide) (.slice A7 L.length c7) L.length (rcells L) (by rfl) (own_same hown7 (by (repeat (first | with_reducible exact Below.refl _ _ | with_reducible assumption | with_reducible refine keepB_drew ?_ | with_reducible refine keepB_drewN ?_ _ | with_reducible refine keepB_alloc ?_ _)))) (some ⟨w7.heap.size, 0, none⟩) 1 1 (rpC (⟨pn, ps, pz, pa⟩, false)) (by rfl) (rp_rdv _ ⟨pn, ps, pz, pa⟩ false (Blk.same (blk_new_at (w := w7) rfl) (by (repeat (first | with_reducible exact Below.refl _ _ | with_reducible assumption | with_reducible refine keepB_drew ?_ | with_reducible refine keepB_drewN ?_ _ | with_reducible refine keepB_alloc ?_ _))))) (rpC_one _) (by unfold maxLen; omega) (by omega) (szB (by (repeat (first | with_reducible exact Below.refl _ _ | with_reducible assumption | with_reducible refine keepB_drew ?_ | with_reducible refine keepB_drewN ?_ _ | with_reducible refine keepB_alloc ?_ _)))) (by simp) ?_; intro v9 w9 hown9 hgrow9 hat9; obtain ⟨A9, c9, rfl, _⟩ := sl_of_own hown9; have hB9 : Below w6.heap.size w6 w9 := Below.grown (by (repeat (first | with_reducible exact Below.refl _ _ | with_reducible assumption | with_reducible refine keepB_drew ?_ | with_reducible refine keepB_drewN ?_ _ | with_reducible refine keepB_alloc ?_ _))) hgrow9 (szB (by (repeat (first | with_reducible exact Below.refl _ _ | with_reducible assumption | with_reducible refine keepB_drew ?_ | with_reducible refine keepB_drewN ?_ _ | with_reducible refine keepB_alloc ?_ _)))) (fun b e => (hown7.lt b e).1); have hb9 := hb.same hB9; have hO9 := hO.same hB9; have r0 : w9.cell? ⟨g, 0, none⟩ = some (.slice A L.length cap) := hb9.cell 0; have r1 : w9.cell? ⟨g, 1, none⟩ = some (.int .u64 nx) := hb9.cell 1; have r2 := hb9.frozen 0; have r3 := hb9.frozen 1; have r4 : w9.cell? ⟨w.heap.size, 0, none⟩ = some (.int .u64 pn) := hO9.cell 0; have kR : KeepR w w9 ∧ w.grownBy w9 (some g) := ⟨(KeepR.below hB).trans (KeepR.below hB9), grown_below (hB.trans (hB9.mono hB.size)) _⟩; have bB : Below B w w9 := (hB.mono hBw).trans (hB9.mono (Nat.le_trans hBw hB.size)); have hsz9 : B ≤ w6.heap.size := Nat.le_trans hBw hB.size)
    | (refine step_append_any _ (by rfl) _ _ 55 (by rfl) w6.heap.size 50 i0 _ 5 32 Try.underlying55 hi hz0 hz1 hz2 (by rfl) (by decide) (.slice A7 L.length c7) L.length (rcells L) (by rfl) (own_same hown7 (by (repeat (first | with_reducible exact Below.refl _ _ | with_reducible assumption | with_reducible refine keepB_drew ?_ | with_reducible refine keepB_drewN ?_ _ | with_reducible refine keepB_alloc ?_ _)))) (some ⟨w6.heap.size + 1, 0, none⟩) 1 1 (rpC (⟨pn, ps, pz, pa⟩, false)) (by rfl) (rp_rdv _ ⟨pn, ps, pz, pa⟩ false (Blk.same (Blk.grown (Blk.same (blk_new_at (w := w6.alloc (.cells #[] 50)) (by simp)) (by (repeat (first | with_reducible exact Below.refl _ _ | with_reducible assumption | with_reducible refine keepB_drew ?_ | with_reducible refine keepB_drewN ?_ _ | with_reducible refine keepB_alloc ?_ _)))) hgrow7 (by simp [Value.ownBlock])) (by (repeat (first | with_reducible exact Below.refl _ _ | with_reducible assumption | with_reducible refine keepB_drew ?_ | with_reducible refine keepB_drewN ?_ _ | with_reducible refine keepB_alloc ?_ _))))) (rpC_one _) (by unfold maxLen; omega) (by omega) (szB (by (repeat (first | with_reducible exact Below.refl _ _ | with_reducible assumption | with_reducible refine keepB_drew ?_ | with_reducible refine keepB_drewN ?_ _ | with_reducible refine keepB_alloc ?_ _)))) (by simp) ?_; intro v9 w9 hown9 hgrow9 hat9; obtain ⟨A9, c9, rfl, _⟩ := sl_of_own hown9; have hB9 : Below w6.heap.size w6 w9 := Below.grown (by (repeat (first | with_reducible exact Below.refl _ _ | with_reducible assumption | with_reducible refine keepB_drew ?_ | with_reducible refine keepB_drewN ?_ _ | with_reducible refine keepB_alloc ?_ _))) hgrow9 (szB (by (repeat (first | with_reducible exact Below.refl _ _ | with_reducible assumption | with_reducible refine keepB_drew ?_ | with_reducible refine keepB_drewN ?_ _ | with_reducible refine keepB_alloc ?_ _)))) (fun b e => (hown7.lt b e).1); have hb9 := hb.same hB9; have hO9 := hO.same hB9; have r0 : w9.cell? ⟨g, 0, none⟩ = some (.slice A L.length cap) := hb9.cell 0; have r1 : w9.cell? ⟨g, 1, none⟩ = some (.int .u64 nx) := hb9.cell 1; have r2 := hb9.frozen 0; have r3 := hb9.frozen 1; have r4 : w9.cell? ⟨w.heap.size, 0, none⟩ = some (.int .u64 pn) := hO9.cell 0; have kR : KeepR w w9 ∧ w.grownBy w9 (some g) := ⟨(KeepR.below hB).trans (KeepR.below hB9), grown_below (hB.trans (hB9.mono hB.size)) _⟩; have bB : Below B w w9 := (hB.mono hBw).trans (hB9.mono (Nat.le_trans hBw hB.size)); have hsz9 : B ≤ w6.heap.size := Nat.le_trans hBw hB.size)
    | (refine step_append_any _ (by rfl) _ _ 55 (by rfl) w6.heap.size 50 i0 _ 5 32 Try.underlying55 hi hz0 hz1 hz2 (by rfl) (by decide) (.slice A7 L.length c7) L.length (rcells L) (by rfl) (own_same hown7 (by (repeat (first | with_reducible exact Below.refl _ _ | with_reducible assumption | with_reducible refine keepB_drew ?_ | with_reducible refine keepB_drewN ?_ _ | with_reducible refine keepB_alloc ?_ _)))) (some ⟨w6.heap.size, 0, none⟩) 1 1 (rpC (⟨pn, ps, pz, pa⟩, false)) (by rfl) (rp_rdv _ ⟨pn, ps, pz, pa⟩ false (Blk.same (Blk.grown (Blk.same (blk_new_at (w := w6) rfl) (by (repeat (first | with_reducible exact Below.refl _ _ | with_reducible assumption | with_reducible refine keepB_drew ?_ | with_reducible refine keepB_drewN ?_ _ | with_reducible refine keepB_alloc ?_ _)))) hgrow7 (by simp [Value.ownBlock])) (by (repeat (first | with_reducible exact Below.refl _ _ | with_reducible assumption | with_reducible refine keepB_drew ?_ | with_reducible refine keepB_drewN ?_ _ | with_reducible refine keepB_alloc ?_ _))))) (rpC_one _) (by unfold maxLen; omega) (by omega) (szB (by (repeat (first | with_reducible exact Below.refl _ _ | with_reducible assumption | with_reducible refine keepB_drew ?_ | with_reducible refine keepB_drewN ?_ _ | with_reducible refine keepB_alloc ?_ _)))) (by simp) ?_; intro v9 w9 hown9 hgrow9 hat9; obtain ⟨A9, c9, rfl, _⟩ := sl_of_own hown9; have hB9 : Below w6.heap.size w6 w9 := Below.grown (by (repeat (first | with_reducible exact Below.refl _ _ | with_reducible assumption | with_reducible refine keepB_drew ?_ | with_reducible refine keepB_drewN ?_ _ | with_reducible refine keepB_alloc ?_ _))) hgrow9 (szB (by (repeat (first | with_reducible exact Below.refl _ _ | with_reducible assumption | with_reducible refine keepB_drew ?_ | with_reducible refine keepB_drewN ?_ _ | with_reducible refine keepB_alloc ?_ _)))) (fun b e => (hown7.lt b e).1); have hb9 := hb.same hB9; have hO9 := hO.same hB9; have r0 : w9.cell? ⟨g, 0, none⟩ = some (.slice A L.length cap) := hb9.cell 0; have r1 : w9.cell? ⟨g, 1, none⟩ = some (.int .u64 nx) := hb9.cell 1; have r2 := hb9.frozen 0; have r3 := hb9.frozen 1; have r4 : w9.cell? ⟨w.heap.size, 0, none⟩ = some (.int .u64 pn) := hO9.cell 0; have kR : KeepR w w9 ∧ w.grownBy w9 (some g) := ⟨(KeepR.below hB).trans (KeepR.below hB9), grown_below (hB.trans (hB9.mono hB.size)) _⟩; have bB : Below B w w9 := (hB.mono hBw).trans (hB9.mono (Nat.le_trans hBw hB.size)); have hsz9 : B ≤ w6.heap.size := Nat.le_trans hBw hB.size))
  all_goals
    have hw1 : IntKind.u64.wrap (pn + 1) = pn + 1 := Go.IntWalk.u64_in _ (by omega)
    have hs9 := sentR_world (p := ⟨pn, ps, pz, pa⟩) (L := L) hBg hb9 hown9 hsz9 bB kR (pn + 1)
    clear hown9 hgrow9 hat9 hown7 hgrow7 hat7 hb9 hO9 hO7 hB9 hB7 bB kR p0 p1 p2 p3 p4 c0 o0 o1 o2 o3 o4 hB hb hO ho
    go_wp2_with fail
    first | rw [hw1] | skip
    go_ret
    exact ⟨rfl, hs9 _ (by first | exact .inl (by with_reducible rfl) | exact .inr (.inl (by with_reducible rfl)) | exact .inr (.inr (by with_reducible rfl)))⟩

end Go.Proofs.Ytohjifbkjfnkfaa
