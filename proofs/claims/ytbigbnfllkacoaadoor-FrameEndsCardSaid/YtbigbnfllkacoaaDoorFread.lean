/-
  The reader of a frame: a number; a ResetStream's fields.
-/
import Derived.Test.YtbigbnfllkacoaaDoorFright
import Derived.Test.YtbigbnfllkacoaaDoorTyp
namespace Go.Proofs.YtbigbnfllkacoaaDoor
open Go.RowKit
set_option linter.unusedVariables false
set_option linter.unusedSimpArgs false

theorem grown9 (w : World) (g : Nat) (b0 b1 b2 b3 b4 b5 b6 b7 b8 : Value) : w.grownBy (((((((((w.setCell ⟨g, 0, none⟩ b0).setCell ⟨g, 1, none⟩ b1).setCell ⟨g, 2, none⟩ b2).setCell ⟨g, 3, none⟩ b3).setCell ⟨g, 4, none⟩ b4).setCell ⟨g, 5, none⟩ b5).setCell ⟨g, 6, none⟩ b6).setCell ⟨g, 7, none⟩ b7).setCell ⟨g, 8, none⟩ b8) (some g) :=
  grown_set (grown_set (grown_set (grown_set (grown_set (grown_set (grown_set (grown_set (grown_set (grown_refl w _) 0 _) 1 _) 2 _) 3 _) 4 _) 5 _) 6 _) 7 _) 8 _

set_option maxHeartbeats 4000000 in
set_option maxRecDepth 100000 in
theorem rnum_yes (rb : Nat) (v : Value) (l : List Int) (n : Int) (rest : List Int) (w : World) (hB : Blk w rb 70 #[v, .int .i64 0]) (hr : RdT w v l) (hk : BytesOk l) (hl : l.length ≤ 1000000) (ht : vtake l = some (n, rest)) :
    Calls Tryd.prog 34 #[.pointer (some ⟨rb, 0, none⟩)] w fun e w' => e = .returned (.int .u64 n) ∧ ∃ v', Blk w' rb 70 #[v', .int .i64 0] ∧ RdT w' v' rest ∧ w.grownBy w' (some rb) := by
  have c0 : w.cell? ⟨rb, 0, none⟩ = some v := hB.cell 0
  obtain ⟨A, cap, rfl⟩ := hr.form
  have hr1 := hr.1
  go_enter Tryd.func34, Tryd.ntmps34
  go_wp2_with fail
  (with_reducible refine (take_some _ l n rest w hr1 hk (by omega) ht).mono ?_)
  rintro e w1 ⟨v', rfl, ho, hb⟩
  have hB1 := hB.same hb
  obtain ⟨A', c', rfl, _⟩ := sl_of_own ho
  have d0 : w1.cell? ⟨rb, 0, none⟩ = some (.slice A l.length cap) := hB1.cell 0
  have d1 : w1.cell? ⟨rb, 1, none⟩ = some (.int .i64 0) := hB1.cell 1
  have f0 := hB1.frozen 0
  go_wp2_with fail
  go_ret
  have hne := own_blk_ne ho hB1 (by decide)
  exact ⟨rfl, .slice A' rest.length c', by simpa using hB1.set_ 0 (.slice A' rest.length c'), rdt_of_own (own_far ho hne _), grown_set (grown_below hb (some rb)) 0 _⟩

set_option maxHeartbeats 4000000 in
set_option maxRecDepth 100000 in
theorem fill4 (B fb rb : Nat) (v : Value) (l l1 l2 l3 : List Int) (n1 n2 n3 : Int) (w : World) (hO : Blk w fb 26 #[.int .u64 4, .int .u64 0, .int .u64 0, .int .u64 0, .int .u64 0, .bool false, .slice none 0 0, .slice none 0 0, .slice none 0 0]) (hR : Blk w rb 70 #[v, .int .i64 0]) (hr : RdT w v l) (hne : fb ≠ rb) (hfb : B ≤ fb) (hrb : B ≤ rb) (hsz : B ≤ w.heap.size)
    (hk0 : BytesOk l) (hk1 : BytesOk l1) (hk2 : BytesOk l2) (hl0 : l.length ≤ 1000) (hl1 : l1.length ≤ 1000) (hl2 : l2.length ≤ 1000) (ht1 : vtake l = some (n1, l1)) (ht2 : vtake l1 = some (n2, l2)) (ht3 : vtake l2 = some (n3, l3)) :
    Calls Tryd.prog 37 #[.pointer (some ⟨rb, 0, none⟩), .pointer (some ⟨fb, 0, none⟩), .int .u64 0] w fun e w' => e = .returned (.tuple #[]) ∧ Blk w' fb 26 #[.int .u64 4, .int .u64 n1, .int .u64 n3, .int .u64 0, .int .u64 n2, .bool false, .slice none 0 0, .slice none 0 0, .slice none 0 0] ∧ (∃ v', Blk w' rb 70 #[v', .int .i64 0] ∧ RdT w' v' l3) ∧ Below B w w' ∧ B ≤ w'.heap.size := by
  have c0 : World.cell? w ⟨fb, 0, none⟩ = some (.int .u64 4) := hO.cell 0
  have c1 : World.cell? w ⟨fb, 1, none⟩ = some (.int .u64 0) := hO.cell 1
  have c2 : World.cell? w ⟨fb, 2, none⟩ = some (.int .u64 0) := hO.cell 2
  have c3 : World.cell? w ⟨fb, 3, none⟩ = some (.int .u64 0) := hO.cell 3
  have c4 : World.cell? w ⟨fb, 4, none⟩ = some (.int .u64 0) := hO.cell 4
  have c5 : World.cell? w ⟨fb, 5, none⟩ = some (.bool false) := hO.cell 5
  have c6 : World.cell? w ⟨fb, 6, none⟩ = some (.slice none 0 0) := hO.cell 6
  have c7 : World.cell? w ⟨fb, 7, none⟩ = some (.slice none 0 0) := hO.cell 7
  have c8 : World.cell? w ⟨fb, 8, none⟩ = some (.slice none 0 0) := hO.cell 8
  go_enter Tryd.func37, Tryd.ntmps37
  go_wp2_with fail
  (with_reducible refine (numbers4 _).mono ?_)
  rintro e w0 ⟨rfl, rfl⟩
  go_wp2_with fail
  clear c0 c1 c2 c3 c4 c5 c6 c7 c8
  go_loopw [23] (fun s23 wr => ((s23 = .int .i64 0 ∧ Blk wr fb 26 #[.int .u64 4, .int .u64 0, .int .u64 0, .int .u64 0, .int .u64 0, .bool false, .slice none 0 0, .slice none 0 0, .slice none 0 0] ∧ ∃ pv, Blk wr rb 70 #[pv, .int .i64 0] ∧ RdT wr pv l) ∨ (s23 = .int .i64 1 ∧ Blk wr fb 26 #[.int .u64 4, .int .u64 n1, .int .u64 0, .int .u64 0, .int .u64 0, .bool false, .slice none 0 0, .slice none 0 0, .slice none 0 0] ∧ ∃ pv, Blk wr rb 70 #[pv, .int .i64 0] ∧ RdT wr pv l1) ∨ (s23 = .int .i64 2 ∧ Blk wr fb 26 #[.int .u64 4, .int .u64 n1, .int .u64 0, .int .u64 0, .int .u64 n2, .bool false, .slice none 0 0, .slice none 0 0, .slice none 0 0] ∧ ∃ pv, Blk wr rb 70 #[pv, .int .i64 0] ∧ RdT wr pv l2) ∨ (s23 = .int .i64 3 ∧ Blk wr fb 26 #[.int .u64 4, .int .u64 n1, .int .u64 n3, .int .u64 0, .int .u64 n2, .bool false, .slice none 0 0, .slice none 0 0, .slice none 0 0] ∧ ∃ pv, Blk wr rb 70 #[pv, .int .i64 0] ∧ RdT wr pv l3)) ∧ Below B w wr ∧ B ≤ wr.heap.size) (fun s23 _ => 3 - (intOf s23).toNat)
  case atStart => exact ⟨.inl ⟨rfl, hO, v, hR, hr⟩, Below.refl _ _, hsz⟩
  case round =>
    clear hO hR hr hsz
    obtain ⟨⟨rfl, hO, hRR⟩ | ⟨rfl, hO, hRR⟩ | ⟨rfl, hO, hRR⟩ | ⟨rfl, hO, hRR⟩, hB, hsz⟩ := hrel
    · obtain ⟨pv, hR, hr⟩ := hRR
      have c0 : World.cell? wr ⟨fb, 0, none⟩ = some (.int .u64 4) := hO.cell 0
      have c1 : World.cell? wr ⟨fb, 1, none⟩ = some (.int .u64 0) := hO.cell 1
      have c2 : World.cell? wr ⟨fb, 2, none⟩ = some (.int .u64 0) := hO.cell 2
      have c3 : World.cell? wr ⟨fb, 3, none⟩ = some (.int .u64 0) := hO.cell 3
      have c4 : World.cell? wr ⟨fb, 4, none⟩ = some (.int .u64 0) := hO.cell 4
      have c5 : World.cell? wr ⟨fb, 5, none⟩ = some (.bool false) := hO.cell 5
      have c6 : World.cell? wr ⟨fb, 6, none⟩ = some (.slice none 0 0) := hO.cell 6
      have c7 : World.cell? wr ⟨fb, 7, none⟩ = some (.slice none 0 0) := hO.cell 7
      have c8 : World.cell? wr ⟨fb, 8, none⟩ = some (.slice none 0 0) := hO.cell 8
      have q0 : wr.cell? ⟨rb, 0, none⟩ = some pv := hR.cell 0
      have hrD : RdT wr.drew pv l := hr.drew
      have hBD : Below B w wr.drew := hB.trans (below_drewN (Below.refl _ _) 1)
      have hsD : B ≤ wr.drew.heap.size := hsz
      go_wp2_with fail
      go_region_law (first | (go_simp; go_at_call 34; go_loud ((with_reducible refine (rnum_yes rb pv l n1 l1 wr.drew hR.drew hrD hk0 (by omega) ht1).mono ?_); rintro e wD ⟨rfl, pv2, hR2, hr2, hg2⟩; have hO1 : Blk wD fb 26 #[.int .u64 4, .int .u64 0, .int .u64 0, .int .u64 0, .int .u64 0, .bool false, .slice none 0 0, .slice none 0 0, .slice none 0 0] := hO.drew.grown hg2 (by simpa using hne); have hB1 : Below B w wD := hBD.grown hg2 hsD (fun m hm => by simp only [Option.some.injEq] at hm; omega); have hs1 : B ≤ wD.heap.size := Nat.le_trans hsD hg2.size; have a0 : World.cell? wD ⟨fb, 0, none⟩ = some (.int .u64 4) := hO1.cell 0; have a1 : World.cell? wD ⟨fb, 1, none⟩ = some (.int .u64 0) := hO1.cell 1; have a2 : World.cell? wD ⟨fb, 2, none⟩ = some (.int .u64 0) := hO1.cell 2; have a3 : World.cell? wD ⟨fb, 3, none⟩ = some (.int .u64 0) := hO1.cell 3; have a4 : World.cell? wD ⟨fb, 4, none⟩ = some (.int .u64 0) := hO1.cell 4; have a5 : World.cell? wD ⟨fb, 5, none⟩ = some (.bool false) := hO1.cell 5; have a6 : World.cell? wD ⟨fb, 6, none⟩ = some (.slice none 0 0) := hO1.cell 6; have a7 : World.cell? wD ⟨fb, 7, none⟩ = some (.slice none 0 0) := hO1.cell 7; have a8 : World.cell? wD ⟨fb, 8, none⟩ = some (.slice none 0 0) := hO1.cell 8)) | (go_simp; go_at_call 47; ((refine (setI 4 0 0 0 0 n1 _).mono ?_); rintro e wE ⟨rfl, hbE⟩; have hO2 := hO1.same hbE; have hR3 := hR2.same hbE; have hr3 := hr2.below hbE; have hB2 : Below B w wE := hB1.trans (hbE.mono hs1); have hs2 : B ≤ wE.heap.size := Nat.le_trans hs1 hbE.size; have f0 := hO2.frozen 0; have f1 := hO2.frozen 1; have f2 := hO2.frozen 2; have f3 := hO2.frozen 3; have f4 := hO2.frozen 4; have f5 := hO2.frozen 5; have f6 := hO2.frozen 6; have f7 := hO2.frozen 7; have f8 := hO2.frozen 8; have b0 : World.cell? wE ⟨fb, 0, none⟩ = some (.int .u64 4) := hO2.cell 0; have b1 : World.cell? wE ⟨fb, 1, none⟩ = some (.int .u64 0) := hO2.cell 1; have b2 : World.cell? wE ⟨fb, 2, none⟩ = some (.int .u64 0) := hO2.cell 2; have b3 : World.cell? wE ⟨fb, 3, none⟩ = some (.int .u64 0) := hO2.cell 3; have b4 : World.cell? wE ⟨fb, 4, none⟩ = some (.int .u64 0) := hO2.cell 4; have b5 : World.cell? wE ⟨fb, 5, none⟩ = some (.bool false) := hO2.cell 5; have b6 : World.cell? wE ⟨fb, 6, none⟩ = some (.slice none 0 0) := hO2.cell 6; have b7 : World.cell? wE ⟨fb, 7, none⟩ = some (.slice none 0 0) := hO2.cell 7; have b8 : World.cell? wE ⟨fb, 8, none⟩ = some (.slice none 0 0) := hO2.cell 8)))
      all_goals go_wp2_with fail
      all_goals go_roundw
      all_goals first
        | exact ⟨.inr (.inl ⟨rfl, hO2.set9 _ _ _ _ _ _ _ _ _, pv2, hR3.grown (grown9 _ _ _ _ _ _ _ _ _ _ _) (by simpa using Ne.symm hne), rdt_grown hr3 hO2 (by decide) (grown9 _ _ _ _ _ _ _ _ _ _ _)⟩), hB2.grown (grown9 _ _ _ _ _ _ _ _ _ _ _) hs2 (fun m hm => by simp only [Option.some.injEq] at hm; omega), Nat.le_trans hs2 (grown9 _ _ _ _ _ _ _ _ _ _ _).size⟩
        | decide
    · obtain ⟨pv, hR, hr⟩ := hRR
      have c0 : World.cell? wr ⟨fb, 0, none⟩ = some (.int .u64 4) := hO.cell 0
      have c1 : World.cell? wr ⟨fb, 1, none⟩ = some (.int .u64 n1) := hO.cell 1
      have c2 : World.cell? wr ⟨fb, 2, none⟩ = some (.int .u64 0) := hO.cell 2
      have c3 : World.cell? wr ⟨fb, 3, none⟩ = some (.int .u64 0) := hO.cell 3
      have c4 : World.cell? wr ⟨fb, 4, none⟩ = some (.int .u64 0) := hO.cell 4
      have c5 : World.cell? wr ⟨fb, 5, none⟩ = some (.bool false) := hO.cell 5
      have c6 : World.cell? wr ⟨fb, 6, none⟩ = some (.slice none 0 0) := hO.cell 6
      have c7 : World.cell? wr ⟨fb, 7, none⟩ = some (.slice none 0 0) := hO.cell 7
      have c8 : World.cell? wr ⟨fb, 8, none⟩ = some (.slice none 0 0) := hO.cell 8
      have q0 : wr.cell? ⟨rb, 0, none⟩ = some pv := hR.cell 0
      have hrD : RdT wr.drew pv l1 := hr.drew
      have hBD : Below B w wr.drew := hB.trans (below_drewN (Below.refl _ _) 1)
      have hsD : B ≤ wr.drew.heap.size := hsz
      go_wp2_with fail
      go_region_law (first | (go_simp; go_at_call 34; go_loud ((with_reducible refine (rnum_yes rb pv l1 n2 l2 wr.drew hR.drew hrD hk1 (by omega) ht2).mono ?_); rintro e wD ⟨rfl, pv2, hR2, hr2, hg2⟩; have hO1 : Blk wD fb 26 #[.int .u64 4, .int .u64 n1, .int .u64 0, .int .u64 0, .int .u64 0, .bool false, .slice none 0 0, .slice none 0 0, .slice none 0 0] := hO.drew.grown hg2 (by simpa using hne); have hB1 : Below B w wD := hBD.grown hg2 hsD (fun m hm => by simp only [Option.some.injEq] at hm; omega); have hs1 : B ≤ wD.heap.size := Nat.le_trans hsD hg2.size; have a0 : World.cell? wD ⟨fb, 0, none⟩ = some (.int .u64 4) := hO1.cell 0; have a1 : World.cell? wD ⟨fb, 1, none⟩ = some (.int .u64 n1) := hO1.cell 1; have a2 : World.cell? wD ⟨fb, 2, none⟩ = some (.int .u64 0) := hO1.cell 2; have a3 : World.cell? wD ⟨fb, 3, none⟩ = some (.int .u64 0) := hO1.cell 3; have a4 : World.cell? wD ⟨fb, 4, none⟩ = some (.int .u64 0) := hO1.cell 4; have a5 : World.cell? wD ⟨fb, 5, none⟩ = some (.bool false) := hO1.cell 5; have a6 : World.cell? wD ⟨fb, 6, none⟩ = some (.slice none 0 0) := hO1.cell 6; have a7 : World.cell? wD ⟨fb, 7, none⟩ = some (.slice none 0 0) := hO1.cell 7; have a8 : World.cell? wD ⟨fb, 8, none⟩ = some (.slice none 0 0) := hO1.cell 8)) | (go_simp; go_at_call 47; ((refine (setC 4 n1 0 0 0 n2 _).mono ?_); rintro e wE ⟨rfl, hbE⟩; have hO2 := hO1.same hbE; have hR3 := hR2.same hbE; have hr3 := hr2.below hbE; have hB2 : Below B w wE := hB1.trans (hbE.mono hs1); have hs2 : B ≤ wE.heap.size := Nat.le_trans hs1 hbE.size; have f0 := hO2.frozen 0; have f1 := hO2.frozen 1; have f2 := hO2.frozen 2; have f3 := hO2.frozen 3; have f4 := hO2.frozen 4; have f5 := hO2.frozen 5; have f6 := hO2.frozen 6; have f7 := hO2.frozen 7; have f8 := hO2.frozen 8; have b0 : World.cell? wE ⟨fb, 0, none⟩ = some (.int .u64 4) := hO2.cell 0; have b1 : World.cell? wE ⟨fb, 1, none⟩ = some (.int .u64 n1) := hO2.cell 1; have b2 : World.cell? wE ⟨fb, 2, none⟩ = some (.int .u64 0) := hO2.cell 2; have b3 : World.cell? wE ⟨fb, 3, none⟩ = some (.int .u64 0) := hO2.cell 3; have b4 : World.cell? wE ⟨fb, 4, none⟩ = some (.int .u64 0) := hO2.cell 4; have b5 : World.cell? wE ⟨fb, 5, none⟩ = some (.bool false) := hO2.cell 5; have b6 : World.cell? wE ⟨fb, 6, none⟩ = some (.slice none 0 0) := hO2.cell 6; have b7 : World.cell? wE ⟨fb, 7, none⟩ = some (.slice none 0 0) := hO2.cell 7; have b8 : World.cell? wE ⟨fb, 8, none⟩ = some (.slice none 0 0) := hO2.cell 8)))
      all_goals go_wp2_with fail
      all_goals go_roundw
      all_goals first
        | exact ⟨.inr (.inr (.inl ⟨rfl, hO2.set9 _ _ _ _ _ _ _ _ _, pv2, hR3.grown (grown9 _ _ _ _ _ _ _ _ _ _ _) (by simpa using Ne.symm hne), rdt_grown hr3 hO2 (by decide) (grown9 _ _ _ _ _ _ _ _ _ _ _)⟩)), hB2.grown (grown9 _ _ _ _ _ _ _ _ _ _ _) hs2 (fun m hm => by simp only [Option.some.injEq] at hm; omega), Nat.le_trans hs2 (grown9 _ _ _ _ _ _ _ _ _ _ _).size⟩
        | decide
    · obtain ⟨pv, hR, hr⟩ := hRR
      have c0 : World.cell? wr ⟨fb, 0, none⟩ = some (.int .u64 4) := hO.cell 0
      have c1 : World.cell? wr ⟨fb, 1, none⟩ = some (.int .u64 n1) := hO.cell 1
      have c2 : World.cell? wr ⟨fb, 2, none⟩ = some (.int .u64 0) := hO.cell 2
      have c3 : World.cell? wr ⟨fb, 3, none⟩ = some (.int .u64 0) := hO.cell 3
      have c4 : World.cell? wr ⟨fb, 4, none⟩ = some (.int .u64 n2) := hO.cell 4
      have c5 : World.cell? wr ⟨fb, 5, none⟩ = some (.bool false) := hO.cell 5
      have c6 : World.cell? wr ⟨fb, 6, none⟩ = some (.slice none 0 0) := hO.cell 6
      have c7 : World.cell? wr ⟨fb, 7, none⟩ = some (.slice none 0 0) := hO.cell 7
      have c8 : World.cell? wr ⟨fb, 8, none⟩ = some (.slice none 0 0) := hO.cell 8
      have q0 : wr.cell? ⟨rb, 0, none⟩ = some pv := hR.cell 0
      have hrD : RdT wr.drew pv l2 := hr.drew
      have hBD : Below B w wr.drew := hB.trans (below_drewN (Below.refl _ _) 1)
      have hsD : B ≤ wr.drew.heap.size := hsz
      go_wp2_with fail
      go_region_law (first | (go_simp; go_at_call 34; go_loud ((with_reducible refine (rnum_yes rb pv l2 n3 l3 wr.drew hR.drew hrD hk2 (by omega) ht3).mono ?_); rintro e wD ⟨rfl, pv2, hR2, hr2, hg2⟩; have hO1 : Blk wD fb 26 #[.int .u64 4, .int .u64 n1, .int .u64 0, .int .u64 0, .int .u64 n2, .bool false, .slice none 0 0, .slice none 0 0, .slice none 0 0] := hO.drew.grown hg2 (by simpa using hne); have hB1 : Below B w wD := hBD.grown hg2 hsD (fun m hm => by simp only [Option.some.injEq] at hm; omega); have hs1 : B ≤ wD.heap.size := Nat.le_trans hsD hg2.size; have a0 : World.cell? wD ⟨fb, 0, none⟩ = some (.int .u64 4) := hO1.cell 0; have a1 : World.cell? wD ⟨fb, 1, none⟩ = some (.int .u64 n1) := hO1.cell 1; have a2 : World.cell? wD ⟨fb, 2, none⟩ = some (.int .u64 0) := hO1.cell 2; have a3 : World.cell? wD ⟨fb, 3, none⟩ = some (.int .u64 0) := hO1.cell 3; have a4 : World.cell? wD ⟨fb, 4, none⟩ = some (.int .u64 n2) := hO1.cell 4; have a5 : World.cell? wD ⟨fb, 5, none⟩ = some (.bool false) := hO1.cell 5; have a6 : World.cell? wD ⟨fb, 6, none⟩ = some (.slice none 0 0) := hO1.cell 6; have a7 : World.cell? wD ⟨fb, 7, none⟩ = some (.slice none 0 0) := hO1.cell 7; have a8 : World.cell? wD ⟨fb, 8, none⟩ = some (.slice none 0 0) := hO1.cell 8)) | (go_simp; go_at_call 47; ((refine (setO 4 n1 0 0 n2 n3 _).mono ?_); rintro e wE ⟨rfl, hbE⟩; have hO2 := hO1.same hbE; have hR3 := hR2.same hbE; have hr3 := hr2.below hbE; have hB2 : Below B w wE := hB1.trans (hbE.mono hs1); have hs2 : B ≤ wE.heap.size := Nat.le_trans hs1 hbE.size; have f0 := hO2.frozen 0; have f1 := hO2.frozen 1; have f2 := hO2.frozen 2; have f3 := hO2.frozen 3; have f4 := hO2.frozen 4; have f5 := hO2.frozen 5; have f6 := hO2.frozen 6; have f7 := hO2.frozen 7; have f8 := hO2.frozen 8; have b0 : World.cell? wE ⟨fb, 0, none⟩ = some (.int .u64 4) := hO2.cell 0; have b1 : World.cell? wE ⟨fb, 1, none⟩ = some (.int .u64 n1) := hO2.cell 1; have b2 : World.cell? wE ⟨fb, 2, none⟩ = some (.int .u64 0) := hO2.cell 2; have b3 : World.cell? wE ⟨fb, 3, none⟩ = some (.int .u64 0) := hO2.cell 3; have b4 : World.cell? wE ⟨fb, 4, none⟩ = some (.int .u64 n2) := hO2.cell 4; have b5 : World.cell? wE ⟨fb, 5, none⟩ = some (.bool false) := hO2.cell 5; have b6 : World.cell? wE ⟨fb, 6, none⟩ = some (.slice none 0 0) := hO2.cell 6; have b7 : World.cell? wE ⟨fb, 7, none⟩ = some (.slice none 0 0) := hO2.cell 7; have b8 : World.cell? wE ⟨fb, 8, none⟩ = some (.slice none 0 0) := hO2.cell 8)))
      all_goals go_wp2_with fail
      all_goals go_roundw
      all_goals first
        | exact ⟨.inr (.inr (.inr (⟨rfl, hO2.set9 _ _ _ _ _ _ _ _ _, pv2, hR3.grown (grown9 _ _ _ _ _ _ _ _ _ _ _) (by simpa using Ne.symm hne), rdt_grown hr3 hO2 (by decide) (grown9 _ _ _ _ _ _ _ _ _ _ _)⟩))), hB2.grown (grown9 _ _ _ _ _ _ _ _ _ _ _) hs2 (fun m hm => by simp only [Option.some.injEq] at hm; omega), Nat.le_trans hs2 (grown9 _ _ _ _ _ _ _ _ _ _ _).size⟩
        | decide
    · have c0 : World.cell? wr ⟨fb, 0, none⟩ = some (.int .u64 4) := hO.cell 0
      have c1 : World.cell? wr ⟨fb, 1, none⟩ = some (.int .u64 n1) := hO.cell 1
      have c2 : World.cell? wr ⟨fb, 2, none⟩ = some (.int .u64 n3) := hO.cell 2
      have c3 : World.cell? wr ⟨fb, 3, none⟩ = some (.int .u64 0) := hO.cell 3
      have c4 : World.cell? wr ⟨fb, 4, none⟩ = some (.int .u64 n2) := hO.cell 4
      have c5 : World.cell? wr ⟨fb, 5, none⟩ = some (.bool false) := hO.cell 5
      have c6 : World.cell? wr ⟨fb, 6, none⟩ = some (.slice none 0 0) := hO.cell 6
      have c7 : World.cell? wr ⟨fb, 7, none⟩ = some (.slice none 0 0) := hO.cell 7
      have c8 : World.cell? wr ⟨fb, 8, none⟩ = some (.slice none 0 0) := hO.cell 8
      go_wp2_with fail
      (first | go_end0 | ((try simp only [Exit.inBlock, Exit.then]); refine bodyPost_ret (results_none rfl _ _ _) rfl ?_))
      exact ⟨rfl, hO, hRR, hB, hsz⟩

end Go.Proofs.YtbigbnfllkacoaaDoor
