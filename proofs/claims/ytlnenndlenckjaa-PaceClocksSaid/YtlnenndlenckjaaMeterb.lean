/-
  What Acked, Lost, Room, Told of package pace do to a meter, and Do of the reference, each once.
-/
import Derived.Test.YtlnenndlenckjaaMeter
namespace Go.Proofs.Ytlnenndlenckjaa
open Go.RowKit
set_option linter.unusedVariables false
set_option linter.unusedSimpArgs false


theorem acked_nil (n : Int) (sent : Int) (w : World) : Calls Try.prog 19 #[.pointer none, .int .i64 n, .int .u64 sent] w fun e w' => e = .returned (.int .i64 6) ∧ w = w' := by
  go_enter Try.func19, Try.ntmps19
  go_wp2_with fail
  refine (gone_nil n _).mono ?_
  rintro e w1 ⟨rfl, rfl⟩
  go_wp2_with fail
  go_ret
  exact ⟨rfl, rfl⟩
theorem acked_no (g : Nat) (may lim away since : Int) (rc : Bool) (n : Int) (sent : Int) (w : World) (r : Int) (hb : Mtr w g ⟨may, lim, away, since, rc⟩) (hr : chk away n true = r) (h0 : r ≠ 0) : Calls Try.prog 19 #[.pointer (some ⟨g, 0, none⟩), .int .i64 n, .int .u64 sent] w fun e w' => e = .returned (.int .i64 r) ∧ w = w' := by
  have hr0 : (r != 0) = true := by simpa using h0
  go_enter Try.func19, Try.ntmps19
  go_wp2_with fail
  refine (gone_no g may lim away since rc n _ r hb hr h0).mono ?_
  rintro e w1 ⟨rfl, rfl⟩
  clear hr h0
  go_wp2_with fail
  go_ret
  exact ⟨rfl, rfl⟩

set_option maxRecDepth 100000 in
theorem acked_late (g : Nat) (may lim away since : Int) (rc : Bool) (n : Int) (sent : Int) (w : World) (hb : Mtr w g ⟨may, lim, away, since, rc⟩) (hk : MtOk ⟨may, lim, away, since, rc⟩) (h0 : 0 ≤ n ∧ n ≤ 1200) (h1 : n ≤ away) (hl : laterB since rc sent = false) : Calls Try.prog 19 #[.pointer (some ⟨g, 0, none⟩), .int .i64 n, .int .u64 sent] w fun e w' => e = .returned (.int .i64 0) ∧ Mtr w' g ⟨may, lim, away - n, since, rc⟩ ∧ w.grownBy w' (some g) := by
  obtain ⟨k0, k1, k2, k3, k4, k5⟩ := hk
  simp only at k0 k1 k2 k3 k4 k5
  have kl := fun W h => later_any g may lim (away - n) since rc sent W h
  rw [hl] at kl
  clear hl
  go_enter Try.func19, Try.ntmps19
  go_wp2_with fail
  refine (gone_yes g may lim away since rc n _ hb h0 h1 k4).mono ?_
  rintro e w1 ⟨rfl, hb, hg⟩
  go_wp2_with fail
  refine (kl _ hb).mono ?_
  rintro e w1 ⟨rfl, rfl⟩
  clear kl
  go_wp2_with fail
  go_ret
  exact ⟨rfl, hb, hg⟩

set_option maxHeartbeats 1000000 in
set_option maxRecDepth 100000 in
theorem acked_a (g : Nat) (may lim away since : Int) (rc : Bool) (n : Int) (sent : Int) (w : World) (hb : Mtr w g ⟨may, lim, away, since, rc⟩) (hk : MtOk ⟨may, lim, away, since, rc⟩) (h0 : 0 ≤ n ∧ n ≤ 1200) (h1 : n ≤ away) (hl : laterB since rc sent = true) (hc : may < lim) : Calls Try.prog 19 #[.pointer (some ⟨g, 0, none⟩), .int .i64 n, .int .u64 sent] w fun e w' => e = .returned (.int .i64 0) ∧ Mtr w' g ⟨capM (may + n), lim, away - n, since, rc⟩ ∧ w.grownBy w' (some g) := by
  obtain ⟨X, hX⟩ : ∃ X, X = may + n := ⟨_, rfl⟩
  have hq : 0 ≤ 1200 * n / may ∧ 1200 * n / may ≤ 1440000 := by
    have h3 : 0 ≤ 1200 * n / may := Int.ediv_nonneg (by omega) (by have := hk.m0; simp only at this; omega)
    have h4 : 1200 * n / may ≤ 1200 * n := Int.ediv_le_self _ (by omega)
    omega
  obtain ⟨Y, hY⟩ : ∃ Y, (if 1073741824 < may + n then 1073741824 else may + n) = Y := ⟨_, rfl⟩
  have hf : capM (may + n) = Y := hY
  rw [hf]
  clear hf hX
  obtain ⟨k0, k1, k2, k3, k4, k5⟩ := hk
  simp only at k0 k1 k2 k3 k4 k5
  have kl := fun W h => later_any g may lim (away - n) since rc sent W h
  rw [hl] at kl
  clear hl
  go_enter Try.func19, Try.ntmps19
  go_wp2_with fail
  refine (gone_yes g may lim away since rc n _ hb h0 h1 k4).mono ?_
  rintro e w1 ⟨rfl, hb, hg⟩
  go_wp2_with fail
  refine (kl _ hb).mono ?_
  rintro e w1 ⟨rfl, rfl⟩
  clear kl
  unfold Mtr mtV at hb
  have c0 : w1.cell? ⟨g, 0, none⟩ = some (.int .i64 may) := hb.cell 0
  have f0 := hb.frozen 0
  have c1 : w1.cell? ⟨g, 1, none⟩ = some (.int .u64 lim) := hb.cell 1
  have f1 := hb.frozen 1
  have c2 : w1.cell? ⟨g, 2, none⟩ = some (.int .i64 (away - n)) := hb.cell 2
  have f2 := hb.frozen 2
  have c3 : w1.cell? ⟨g, 3, none⟩ = some (.int .u64 since) := hb.cell 3
  have f3 := hb.frozen 3
  have c4 : w1.cell? ⟨g, 4, none⟩ = some (.bool rc) := hb.cell 4
  have f4 := hb.frozen 4
  go_wp2_with fail
  go_quiet (fail)
  go_wp2_with fail
  
  
  clear hY
  go_ret
  exact ⟨rfl, by first | exact ((hb.drewN _).set_ 0 _).set_ 0 _ | exact ((hb.drewN _).drew.set_ 0 _).set_ 0 _ | (simp; done), grown_trans hg (by first | exact grown_set (grown_set (grown_drewN (grown_refl _ _) _) _ _) _ _ | exact grown_set (grown_set (grown_drew (grown_drewN (grown_refl _ _) _)) _ _) _ _)⟩

set_option maxHeartbeats 1000000 in
set_option maxRecDepth 100000 in
theorem acked_b (g : Nat) (may lim away since : Int) (rc : Bool) (n : Int) (sent : Int) (w : World) (hb : Mtr w g ⟨may, lim, away, since, rc⟩) (hk : MtOk ⟨may, lim, away, since, rc⟩) (h0 : 0 ≤ n ∧ n ≤ 1200) (h1 : n ≤ away) (hl : laterB since rc sent = true) (hc : lim ≤ may) : Calls Try.prog 19 #[.pointer (some ⟨g, 0, none⟩), .int .i64 n, .int .u64 sent] w fun e w' => e = .returned (.int .i64 0) ∧ Mtr w' g ⟨capM (may + 1200 * n / may), lim, away - n, since, rc⟩ ∧ w.grownBy w' (some g) := by
  obtain ⟨X, hX⟩ : ∃ X, X = may + 1200 * n / may := ⟨_, rfl⟩
  have hq : 0 ≤ 1200 * n / may ∧ 1200 * n / may ≤ 1440000 := by
    have h3 : 0 ≤ 1200 * n / may := Int.ediv_nonneg (by omega) (by have := hk.m0; simp only at this; omega)
    have h4 : 1200 * n / may ≤ 1200 * n := Int.ediv_le_self _ (by omega)
    omega
  obtain ⟨Y, hY⟩ : ∃ Y, (if 1073741824 < may + 1200 * n / may then 1073741824 else may + 1200 * n / may) = Y := ⟨_, rfl⟩
  have hf : capM (may + 1200 * n / may) = Y := hY
  rw [hf]
  clear hf hX
  obtain ⟨k0, k1, k2, k3, k4, k5⟩ := hk
  simp only at k0 k1 k2 k3 k4 k5
  have kl := fun W h => later_any g may lim (away - n) since rc sent W h
  rw [hl] at kl
  clear hl
  go_enter Try.func19, Try.ntmps19
  go_wp2_with fail
  refine (gone_yes g may lim away since rc n _ hb h0 h1 k4).mono ?_
  rintro e w1 ⟨rfl, hb, hg⟩
  go_wp2_with fail
  refine (kl _ hb).mono ?_
  rintro e w1 ⟨rfl, rfl⟩
  clear kl
  unfold Mtr mtV at hb
  have c0 : w1.cell? ⟨g, 0, none⟩ = some (.int .i64 may) := hb.cell 0
  have f0 := hb.frozen 0
  have c1 : w1.cell? ⟨g, 1, none⟩ = some (.int .u64 lim) := hb.cell 1
  have f1 := hb.frozen 1
  have c2 : w1.cell? ⟨g, 2, none⟩ = some (.int .i64 (away - n)) := hb.cell 2
  have f2 := hb.frozen 2
  have c3 : w1.cell? ⟨g, 3, none⟩ = some (.int .u64 since) := hb.cell 3
  have f3 := hb.frozen 3
  have c4 : w1.cell? ⟨g, 4, none⟩ = some (.bool rc) := hb.cell 4
  have f4 := hb.frozen 4
  go_wp2_with fail
  go_quiet (fail)
  go_wp2_with fail
  go_region
  go_wp2_with fail
  clear hY
  go_ret
  exact ⟨rfl, by first | exact ((hb.drewN _).set_ 0 _).set_ 0 _ | exact ((hb.drewN _).drew.set_ 0 _).set_ 0 _ | (simp; done), grown_trans hg (by first | exact grown_set (grown_set (grown_drewN (grown_refl _ _) _) _ _) _ _ | exact grown_set (grown_set (grown_drew (grown_drewN (grown_refl _ _) _)) _ _) _ _)⟩

theorem mlost_nil (n : Int) (sent now : Int) (w : World) : Calls Try.prog 22 #[.pointer none, .int .i64 n, .int .u64 sent, .int .u64 now] w fun e w' => e = .returned (.int .i64 6) ∧ w = w' := by
  go_enter Try.func22, Try.ntmps22
  go_wp2_with fail
  refine (gone_nil n _).mono ?_
  rintro e w1 ⟨rfl, rfl⟩
  go_wp2_with fail
  go_ret
  exact ⟨rfl, rfl⟩
theorem mlost_no (g : Nat) (may lim away since : Int) (rc : Bool) (n : Int) (sent now : Int) (w : World) (r : Int) (hb : Mtr w g ⟨may, lim, away, since, rc⟩) (hr : chk away n true = r) (h0 : r ≠ 0) : Calls Try.prog 22 #[.pointer (some ⟨g, 0, none⟩), .int .i64 n, .int .u64 sent, .int .u64 now] w fun e w' => e = .returned (.int .i64 r) ∧ w = w' := by
  have hr0 : (r != 0) = true := by simpa using h0
  go_enter Try.func22, Try.ntmps22
  go_wp2_with fail
  refine (gone_no g may lim away since rc n _ r hb hr h0).mono ?_
  rintro e w1 ⟨rfl, rfl⟩
  clear hr h0
  go_wp2_with fail
  go_ret
  exact ⟨rfl, rfl⟩

set_option maxRecDepth 100000 in
theorem mlost_late (g : Nat) (may lim away since : Int) (rc : Bool) (n : Int) (sent now : Int) (w : World) (hb : Mtr w g ⟨may, lim, away, since, rc⟩) (hk : MtOk ⟨may, lim, away, since, rc⟩) (h0 : 0 ≤ n ∧ n ≤ 1200) (h1 : n ≤ away) (hl : laterB since rc sent = false) : Calls Try.prog 22 #[.pointer (some ⟨g, 0, none⟩), .int .i64 n, .int .u64 sent, .int .u64 now] w fun e w' => e = .returned (.int .i64 0) ∧ Mtr w' g ⟨may, lim, away - n, since, rc⟩ ∧ w.grownBy w' (some g) := by
  obtain ⟨k0, k1, k2, k3, k4, k5⟩ := hk
  simp only at k0 k1 k2 k3 k4 k5
  have kl := fun W h => later_any g may lim (away - n) since rc sent W h
  rw [hl] at kl
  clear hl
  go_enter Try.func22, Try.ntmps22
  go_wp2_with fail
  refine (gone_yes g may lim away since rc n _ hb h0 h1 k4).mono ?_
  rintro e w1 ⟨rfl, hb, hg⟩
  go_wp2_with fail
  refine (kl _ hb).mono ?_
  rintro e w1 ⟨rfl, rfl⟩
  clear kl
  go_wp2_with fail
  go_ret
  exact ⟨rfl, hb, hg⟩

set_option maxHeartbeats 1000000 in
set_option maxRecDepth 100000 in
theorem mlost_yes (g : Nat) (may lim away since : Int) (rc : Bool) (n : Int) (sent now : Int) (w : World) (hb : Mtr w g ⟨may, lim, away, since, rc⟩) (hk : MtOk ⟨may, lim, away, since, rc⟩) (h0 : 0 ≤ n ∧ n ≤ 1200) (h1 : n ≤ away) (hl : laterB since rc sent = true) : Calls Try.prog 22 #[.pointer (some ⟨g, 0, none⟩), .int .i64 n, .int .u64 sent, .int .u64 now] w fun e w' => e = .returned (.int .i64 0) ∧ Mtr w' g ⟨half may, half may, away - n, now, true⟩ ∧ w.grownBy w' (some g) := by
  have hh := half_ok may ⟨hk.m0, hk.m1⟩
  obtain ⟨Y, hY⟩ : ∃ Y, (if may / 2 < 2400 then 2400 else may / 2) = Y := ⟨_, rfl⟩
  have hf : half may = Y := hY
  rw [hf] at hh ⊢
  clear hf
  obtain ⟨k0, k1, k2, k3, k4, k5⟩ := hk
  simp only at k0 k1 k2 k3 k4 k5
  have kl := fun W h => later_any g may lim (away - n) since rc sent W h
  rw [hl] at kl
  clear hl
  go_enter Try.func22, Try.ntmps22
  go_wp2_with fail
  refine (gone_yes g may lim away since rc n _ hb h0 h1 k4).mono ?_
  rintro e w1 ⟨rfl, hb, hg⟩
  go_wp2_with fail
  refine (kl _ hb).mono ?_
  rintro e w1 ⟨rfl, rfl⟩
  clear kl
  unfold Mtr mtV at hb
  have c0 : w1.cell? ⟨g, 0, none⟩ = some (.int .i64 may) := hb.cell 0
  have f0 := hb.frozen 0
  have c1 : w1.cell? ⟨g, 1, none⟩ = some (.int .u64 lim) := hb.cell 1
  have f1 := hb.frozen 1
  have c2 : w1.cell? ⟨g, 2, none⟩ = some (.int .i64 (away - n)) := hb.cell 2
  have f2 := hb.frozen 2
  have c3 : w1.cell? ⟨g, 3, none⟩ = some (.int .u64 since) := hb.cell 3
  have f3 := hb.frozen 3
  have c4 : w1.cell? ⟨g, 4, none⟩ = some (.bool rc) := hb.cell 4
  have f4 := hb.frozen 4
  go_wp2_with fail
  clear hY
  go_ret
  exact ⟨rfl, (((hb.set_ 3 _).set_ 4 _).set_ 0 _).set_ 1 _, grown_trans hg (grown_set (grown_set (grown_set (grown_set (grown_refl _ _) _ _) _ _) _ _) _ _)⟩

set_option maxRecDepth 100000 in
theorem room_any (g : Nat) (may lim away since : Int) (rc : Bool) (w : World) (hb : Mtr w g ⟨may, lim, away, since, rc⟩) (hk : MtOk ⟨may, lim, away, since, rc⟩) : Calls Try.prog 25 #[.pointer (some ⟨g, 0, none⟩)] w fun e w' => e = .returned (.int .i64 (if may - away < 0 then 0 else may - away)) ∧ ∃ n, w.drewN n = w' := by
  obtain ⟨k0, k1, k2, k3, k4, k5⟩ := hk
  simp only at k0 k1 k2 k3 k4 k5
  unfold Mtr mtV at hb
  have c0 : w.cell? ⟨g, 0, none⟩ = some (.int .i64 may) := hb.cell 0
  have c1 : w.cell? ⟨g, 1, none⟩ = some (.int .u64 lim) := hb.cell 1
  have c2 : w.cell? ⟨g, 2, none⟩ = some (.int .i64 away) := hb.cell 2
  have c3 : w.cell? ⟨g, 3, none⟩ = some (.int .u64 since) := hb.cell 3
  have c4 : w.cell? ⟨g, 4, none⟩ = some (.bool rc) := hb.cell 4
  obtain ⟨Y, hY⟩ : ∃ Y, (if may - away < 0 then 0 else may - away) = Y := ⟨_, rfl⟩
  rw [hY]
  go_enter Try.func25, Try.ntmps25
  go_wp2_with fail
  go_quiet (fail)
  go_wp2_with fail
  go_ret
  exact ⟨by first | rfl | simp | simp [hY], nq, rfl⟩
theorem room_nil (w : World) : Calls Try.prog 25 #[.pointer none] w fun e w' => e = .returned (.int .i64 0) ∧ w = w' := by
  go_enter Try.func25, Try.ntmps25
  go_wp2_with fail
  go_ret
  exact ⟨rfl, rfl⟩
set_option maxRecDepth 100000 in
theorem mtold_any (g : Nat) (may lim away since : Int) (rc : Bool) (w : World) (hb : Mtr w g ⟨may, lim, away, since, rc⟩) : Calls Try.prog 20 #[.pointer (some ⟨g, 0, none⟩)] w fun e w' => e = .returned (.tuple #[.int .i64 may, .int .u64 lim, .int .i64 away]) ∧ ∃ n, w.drewN n = w' := by
  unfold Mtr mtV at hb
  have c0 : w.cell? ⟨g, 0, none⟩ = some (.int .i64 may) := hb.cell 0
  have c1 : w.cell? ⟨g, 1, none⟩ = some (.int .u64 lim) := hb.cell 1
  have c2 : w.cell? ⟨g, 2, none⟩ = some (.int .i64 away) := hb.cell 2
  have c3 : w.cell? ⟨g, 3, none⟩ = some (.int .u64 since) := hb.cell 3
  have c4 : w.cell? ⟨g, 4, none⟩ = some (.bool rc) := hb.cell 4
  go_enter Try.func20, Try.ntmps20
  go_wp2_with fail
  go_quiet (fail)
  go_wp2_with fail
  go_ret3
  exact ⟨rfl, nq, rfl⟩
theorem mtold_nil (w : World) : Calls Try.prog 20 #[.pointer none] w fun e w' => e = .returned (.tuple #[.int .i64 0, .int .u64 0, .int .i64 0]) ∧ w = w' := by
  go_enter Try.func20, Try.ntmps20
  go_wp2_with fail
  go_ret3
  exact ⟨rfl, rfl⟩

end Go.Proofs.Ytlnenndlenckjaa
