/-
  What Do of the reference does to a meter.
-/
import Derived.Test.YtlnenndlenckjaaMeter
namespace Go.Proofs.Ytlnenndlenckjaa
open Go.RowKit
set_option linter.unusedVariables false
set_option linter.unusedSimpArgs false


set_option maxRecDepth 100000 in
theorem rdo_nil (k n sent now : Int) (w : World) : Calls Try.prog 24 #[.pointer none, .int .u8 k, .int .i64 n, .int .u64 sent, .int .u64 now] w fun e w' => e = .returned (.int .i64 6) ∧ w = w' := by
  go_enter Try.func24, Try.ntmps24
  go_wp2_with fail
  go_ret
  exact ⟨rfl, rfl⟩

set_option maxHeartbeats 1000000 in
set_option maxRecDepth 100000 in
theorem rdo_neg (g : Nat) (may lim away since n sent now : Int) (rc : Bool) (k : Int) (w : World) (hb : RMt w g ⟨may, lim, away, since, rc⟩) (hk : MtOk ⟨may, lim, away, since, rc⟩) (h : n < 0) :
    Calls Try.prog 24 #[.pointer (some ⟨g, 0, none⟩), .int .u8 k, .int .i64 n, .int .u64 sent, .int .u64 now] w fun e w' => e = .returned (.int .i64 1) ∧ w = w' := by
  obtain ⟨k0, k1, k2, k3, k4, k5⟩ := hk
  simp only at k0 k1 k2 k3 k4 k5
  unfold RMt mtV at hb
  have c0 : w.cell? ⟨g, 0, none⟩ = some (.int .i64 may) := hb.cell 0
  have f0 := hb.frozen 0
  have c1 : w.cell? ⟨g, 1, none⟩ = some (.int .u64 lim) := hb.cell 1
  have f1 := hb.frozen 1
  have c2 : w.cell? ⟨g, 2, none⟩ = some (.int .i64 away) := hb.cell 2
  have f2 := hb.frozen 2
  have c3 : w.cell? ⟨g, 3, none⟩ = some (.int .u64 since) := hb.cell 3
  have f3 := hb.frozen 3
  have c4 : w.cell? ⟨g, 4, none⟩ = some (.bool rc) := hb.cell 4
  have f4 := hb.frozen 4
  go_enter Try.func24, Try.ntmps24
  go_wp2_with fail
  go_ret
  exact ⟨rfl, rfl⟩

set_option maxHeartbeats 1000000 in
set_option maxRecDepth 100000 in
theorem rdo_big (g : Nat) (may lim away since n sent now : Int) (rc : Bool) (k : Int) (w : World) (hb : RMt w g ⟨may, lim, away, since, rc⟩) (hk : MtOk ⟨may, lim, away, since, rc⟩) (h : 1200 < n) :
    Calls Try.prog 24 #[.pointer (some ⟨g, 0, none⟩), .int .u8 k, .int .i64 n, .int .u64 sent, .int .u64 now] w fun e w' => e = .returned (.int .i64 1) ∧ w = w' := by
  obtain ⟨k0, k1, k2, k3, k4, k5⟩ := hk
  simp only at k0 k1 k2 k3 k4 k5
  unfold RMt mtV at hb
  have c0 : w.cell? ⟨g, 0, none⟩ = some (.int .i64 may) := hb.cell 0
  have f0 := hb.frozen 0
  have c1 : w.cell? ⟨g, 1, none⟩ = some (.int .u64 lim) := hb.cell 1
  have f1 := hb.frozen 1
  have c2 : w.cell? ⟨g, 2, none⟩ = some (.int .i64 away) := hb.cell 2
  have f2 := hb.frozen 2
  have c3 : w.cell? ⟨g, 3, none⟩ = some (.int .u64 since) := hb.cell 3
  have f3 := hb.frozen 3
  have c4 : w.cell? ⟨g, 4, none⟩ = some (.bool rc) := hb.cell 4
  have f4 := hb.frozen 4
  go_enter Try.func24, Try.ntmps24
  go_wp2_with fail
  go_ret
  exact ⟨rfl, rfl⟩

set_option maxHeartbeats 1000000 in
set_option maxRecDepth 100000 in
theorem rdo_full (g : Nat) (may lim away since n sent now : Int) (rc : Bool) (w : World) (hb : RMt w g ⟨may, lim, away, since, rc⟩) (hk : MtOk ⟨may, lim, away, since, rc⟩) (h : 0 ≤ n ∧ n ≤ 1200) (h2 : 1073741824 < away + n) :
    Calls Try.prog 24 #[.pointer (some ⟨g, 0, none⟩), .int .u8 0, .int .i64 n, .int .u64 sent, .int .u64 now] w fun e w' => e = .returned (.int .i64 8) ∧ w = w' := by
  obtain ⟨k0, k1, k2, k3, k4, k5⟩ := hk
  simp only at k0 k1 k2 k3 k4 k5
  unfold RMt mtV at hb
  have c0 : w.cell? ⟨g, 0, none⟩ = some (.int .i64 may) := hb.cell 0
  have f0 := hb.frozen 0
  have c1 : w.cell? ⟨g, 1, none⟩ = some (.int .u64 lim) := hb.cell 1
  have f1 := hb.frozen 1
  have c2 : w.cell? ⟨g, 2, none⟩ = some (.int .i64 away) := hb.cell 2
  have f2 := hb.frozen 2
  have c3 : w.cell? ⟨g, 3, none⟩ = some (.int .u64 since) := hb.cell 3
  have f3 := hb.frozen 3
  have c4 : w.cell? ⟨g, 4, none⟩ = some (.bool rc) := hb.cell 4
  have f4 := hb.frozen 4
  go_enter Try.func24, Try.ntmps24
  go_wp2_with fail
  go_ret
  exact ⟨rfl, rfl⟩

set_option maxHeartbeats 1000000 in
set_option maxRecDepth 100000 in
theorem rdo_send (g : Nat) (may lim away since n sent now : Int) (rc : Bool) (w : World) (hb : RMt w g ⟨may, lim, away, since, rc⟩) (hk : MtOk ⟨may, lim, away, since, rc⟩) (h : 0 ≤ n ∧ n ≤ 1200) (h2 : away + n ≤ 1073741824) :
    Calls Try.prog 24 #[.pointer (some ⟨g, 0, none⟩), .int .u8 0, .int .i64 n, .int .u64 sent, .int .u64 now] w fun e w' => e = .returned (.int .i64 0) ∧ RMt w' g ⟨may, lim, away + n, since, rc⟩ ∧ w.grownBy w' (some g) := by
  obtain ⟨k0, k1, k2, k3, k4, k5⟩ := hk
  simp only at k0 k1 k2 k3 k4 k5
  unfold RMt mtV at hb
  have c0 : w.cell? ⟨g, 0, none⟩ = some (.int .i64 may) := hb.cell 0
  have f0 := hb.frozen 0
  have c1 : w.cell? ⟨g, 1, none⟩ = some (.int .u64 lim) := hb.cell 1
  have f1 := hb.frozen 1
  have c2 : w.cell? ⟨g, 2, none⟩ = some (.int .i64 away) := hb.cell 2
  have f2 := hb.frozen 2
  have c3 : w.cell? ⟨g, 3, none⟩ = some (.int .u64 since) := hb.cell 3
  have f3 := hb.frozen 3
  have c4 : w.cell? ⟨g, 4, none⟩ = some (.bool rc) := hb.cell 4
  have f4 := hb.frozen 4
  go_enter Try.func24, Try.ntmps24
  go_wp2_with fail
  go_ret
  exact ⟨rfl, hb.set_ 2 _, grown_set (grown_refl _ _) _ _⟩

set_option maxHeartbeats 1000000 in
set_option maxRecDepth 100000 in
theorem rdo_none (g : Nat) (may lim away since n sent now : Int) (rc : Bool) (k : Int) (w : World) (hb : RMt w g ⟨may, lim, away, since, rc⟩) (hk : MtOk ⟨may, lim, away, since, rc⟩) (h : 0 ≤ n ∧ n ≤ 1200) (hk0 : (k == 0) = false) (h2 : away < n) :
    Calls Try.prog 24 #[.pointer (some ⟨g, 0, none⟩), .int .u8 k, .int .i64 n, .int .u64 sent, .int .u64 now] w fun e w' => e = .returned (.int .i64 6) ∧ w = w' := by
  obtain ⟨k0, k1, k2, k3, k4, k5⟩ := hk
  simp only at k0 k1 k2 k3 k4 k5
  unfold RMt mtV at hb
  have c0 : w.cell? ⟨g, 0, none⟩ = some (.int .i64 may) := hb.cell 0
  have f0 := hb.frozen 0
  have c1 : w.cell? ⟨g, 1, none⟩ = some (.int .u64 lim) := hb.cell 1
  have f1 := hb.frozen 1
  have c2 : w.cell? ⟨g, 2, none⟩ = some (.int .i64 away) := hb.cell 2
  have f2 := hb.frozen 2
  have c3 : w.cell? ⟨g, 3, none⟩ = some (.int .u64 since) := hb.cell 3
  have f3 := hb.frozen 3
  have c4 : w.cell? ⟨g, 4, none⟩ = some (.bool rc) := hb.cell 4
  have f4 := hb.frozen 4
  go_enter Try.func24, Try.ntmps24
  go_wp2_with fail
  go_ret
  exact ⟨rfl, rfl⟩

set_option maxHeartbeats 1000000 in
set_option maxRecDepth 100000 in
theorem rdo_early (g : Nat) (may lim away since n sent now : Int) (k : Int) (w : World) (hb : RMt w g ⟨may, lim, away, since, true⟩) (hk : MtOk ⟨may, lim, away, since, true⟩) (h : 0 ≤ n ∧ n ≤ 1200) (hk0 : (k == 0) = false) (h2 : n ≤ away) (hs : sent ≤ since) :
    Calls Try.prog 24 #[.pointer (some ⟨g, 0, none⟩), .int .u8 k, .int .i64 n, .int .u64 sent, .int .u64 now] w fun e w' => e = .returned (.int .i64 0) ∧ RMt w' g ⟨may, lim, away - n, since, true⟩ ∧ w.grownBy w' (some g) := by
  obtain ⟨k0, k1, k2, k3, k4, k5⟩ := hk
  simp only at k0 k1 k2 k3 k4 k5
  unfold RMt mtV at hb
  have c0 : w.cell? ⟨g, 0, none⟩ = some (.int .i64 may) := hb.cell 0
  have f0 := hb.frozen 0
  have c1 : w.cell? ⟨g, 1, none⟩ = some (.int .u64 lim) := hb.cell 1
  have f1 := hb.frozen 1
  have c2 : w.cell? ⟨g, 2, none⟩ = some (.int .i64 away) := hb.cell 2
  have f2 := hb.frozen 2
  have c3 : w.cell? ⟨g, 3, none⟩ = some (.int .u64 since) := hb.cell 3
  have f3 := hb.frozen 3
  have c4 : w.cell? ⟨g, 4, none⟩ = some (.bool true) := hb.cell 4
  have f4 := hb.frozen 4
  go_enter Try.func24, Try.ntmps24
  have hd : decide (sent ≤ since) = true := by simpa using hs
  go_wp2_with fail
  go_ret
  exact ⟨rfl, hb.set_ 2 _, grown_set (grown_refl _ _) _ _⟩

set_option maxHeartbeats 1000000 in
set_option maxRecDepth 100000 in
theorem rdo_ack_fax (g : Nat) (may lim away since n sent now : Int) (w : World) (hb : RMt w g ⟨may, lim, away, since, false⟩) (hk : MtOk ⟨may, lim, away, since, false⟩) (h : 0 ≤ n ∧ n ≤ 1200) (h2 : n ≤ away)  (hc : may < lim) (hz : 1073741824 < may + n) :
    Calls Try.prog 24 #[.pointer (some ⟨g, 0, none⟩), .int .u8 1, .int .i64 n, .int .u64 sent, .int .u64 now] w fun e w' => e = .returned (.int .i64 0) ∧ RMt w' g ⟨1073741824, lim, away - n, since, false⟩ ∧ w.grownBy w' (some g) := by
  obtain ⟨k0, k1, k2, k3, k4, k5⟩ := hk
  simp only at k0 k1 k2 k3 k4 k5
  unfold RMt mtV at hb
  have c0 : w.cell? ⟨g, 0, none⟩ = some (.int .i64 may) := hb.cell 0
  have f0 := hb.frozen 0
  have c1 : w.cell? ⟨g, 1, none⟩ = some (.int .u64 lim) := hb.cell 1
  have f1 := hb.frozen 1
  have c2 : w.cell? ⟨g, 2, none⟩ = some (.int .i64 away) := hb.cell 2
  have f2 := hb.frozen 2
  have c3 : w.cell? ⟨g, 3, none⟩ = some (.int .u64 since) := hb.cell 3
  have f3 := hb.frozen 3
  have c4 : w.cell? ⟨g, 4, none⟩ = some (.bool false) := hb.cell 4
  have f4 := hb.frozen 4
  go_enter Try.func24, Try.ntmps24
  go_wp2_with fail
  go_quiet (fail)
  go_wp2_with fail
  go_ret
  exact ⟨rfl, ((((hb.set_ 2 _).drewN _).set_ 0 _).set_ 0 _), (grown_set (grown_set (grown_drewN (grown_set (grown_refl _ _) _ _) _) _ _) _ _)⟩

set_option maxHeartbeats 1000000 in
set_option maxRecDepth 100000 in
theorem rdo_ack_fay (g : Nat) (may lim away since n sent now : Int) (w : World) (hb : RMt w g ⟨may, lim, away, since, false⟩) (hk : MtOk ⟨may, lim, away, since, false⟩) (h : 0 ≤ n ∧ n ≤ 1200) (h2 : n ≤ away)  (hc : may < lim) (hz : may + n ≤ 1073741824) :
    Calls Try.prog 24 #[.pointer (some ⟨g, 0, none⟩), .int .u8 1, .int .i64 n, .int .u64 sent, .int .u64 now] w fun e w' => e = .returned (.int .i64 0) ∧ RMt w' g ⟨may + n, lim, away - n, since, false⟩ ∧ w.grownBy w' (some g) := by
  obtain ⟨k0, k1, k2, k3, k4, k5⟩ := hk
  simp only at k0 k1 k2 k3 k4 k5
  unfold RMt mtV at hb
  have c0 : w.cell? ⟨g, 0, none⟩ = some (.int .i64 may) := hb.cell 0
  have f0 := hb.frozen 0
  have c1 : w.cell? ⟨g, 1, none⟩ = some (.int .u64 lim) := hb.cell 1
  have f1 := hb.frozen 1
  have c2 : w.cell? ⟨g, 2, none⟩ = some (.int .i64 away) := hb.cell 2
  have f2 := hb.frozen 2
  have c3 : w.cell? ⟨g, 3, none⟩ = some (.int .u64 since) := hb.cell 3
  have f3 := hb.frozen 3
  have c4 : w.cell? ⟨g, 4, none⟩ = some (.bool false) := hb.cell 4
  have f4 := hb.frozen 4
  go_enter Try.func24, Try.ntmps24
  go_wp2_with fail
  go_quiet (fail)
  go_wp2_with fail
  go_ret
  exact ⟨rfl, (((hb.set_ 2 _).drewN _).set_ 0 _), (grown_set (grown_drewN (grown_set (grown_refl _ _) _ _) _) _ _)⟩

set_option maxHeartbeats 1000000 in
set_option maxRecDepth 100000 in
theorem rdo_ack_fbx (g : Nat) (may lim away since n sent now : Int) (w : World) (hb : RMt w g ⟨may, lim, away, since, false⟩) (hk : MtOk ⟨may, lim, away, since, false⟩) (h : 0 ≤ n ∧ n ≤ 1200) (h2 : n ≤ away)  (hc : lim ≤ may) (hz : 1073741824 < may + 1200 * n / may) :
    Calls Try.prog 24 #[.pointer (some ⟨g, 0, none⟩), .int .u8 1, .int .i64 n, .int .u64 sent, .int .u64 now] w fun e w' => e = .returned (.int .i64 0) ∧ RMt w' g ⟨1073741824, lim, away - n, since, false⟩ ∧ w.grownBy w' (some g) := by
  obtain ⟨k0, k1, k2, k3, k4, k5⟩ := hk
  simp only at k0 k1 k2 k3 k4 k5
  have hq : 0 ≤ 1200 * n / may ∧ 1200 * n / may ≤ 1440000 := by
    have h3 : 0 ≤ 1200 * n / may := Int.ediv_nonneg (by omega) (by omega)
    have h4 : 1200 * n / may ≤ 1200 * n := Int.ediv_le_self _ (by omega)
    omega
  unfold RMt mtV at hb
  have c0 : w.cell? ⟨g, 0, none⟩ = some (.int .i64 may) := hb.cell 0
  have f0 := hb.frozen 0
  have c1 : w.cell? ⟨g, 1, none⟩ = some (.int .u64 lim) := hb.cell 1
  have f1 := hb.frozen 1
  have c2 : w.cell? ⟨g, 2, none⟩ = some (.int .i64 away) := hb.cell 2
  have f2 := hb.frozen 2
  have c3 : w.cell? ⟨g, 3, none⟩ = some (.int .u64 since) := hb.cell 3
  have f3 := hb.frozen 3
  have c4 : w.cell? ⟨g, 4, none⟩ = some (.bool false) := hb.cell 4
  have f4 := hb.frozen 4
  go_enter Try.func24, Try.ntmps24
  go_wp2_with fail
  go_quiet (fail)
  go_wp2_with fail
  go_region
  go_wp2_with fail
  go_ret
  exact ⟨rfl, (((((hb.set_ 2 _).drewN _).drew).set_ 0 _).set_ 0 _), (grown_set (grown_set (grown_drew (grown_drewN (grown_set (grown_refl _ _) _ _) _)) _ _) _ _)⟩

set_option maxHeartbeats 1000000 in
set_option maxRecDepth 100000 in
theorem rdo_ack_fby (g : Nat) (may lim away since n sent now : Int) (w : World) (hb : RMt w g ⟨may, lim, away, since, false⟩) (hk : MtOk ⟨may, lim, away, since, false⟩) (h : 0 ≤ n ∧ n ≤ 1200) (h2 : n ≤ away)  (hc : lim ≤ may) (hz : may + 1200 * n / may ≤ 1073741824) :
    Calls Try.prog 24 #[.pointer (some ⟨g, 0, none⟩), .int .u8 1, .int .i64 n, .int .u64 sent, .int .u64 now] w fun e w' => e = .returned (.int .i64 0) ∧ RMt w' g ⟨may + 1200 * n / may, lim, away - n, since, false⟩ ∧ w.grownBy w' (some g) := by
  obtain ⟨k0, k1, k2, k3, k4, k5⟩ := hk
  simp only at k0 k1 k2 k3 k4 k5
  have hq : 0 ≤ 1200 * n / may ∧ 1200 * n / may ≤ 1440000 := by
    have h3 : 0 ≤ 1200 * n / may := Int.ediv_nonneg (by omega) (by omega)
    have h4 : 1200 * n / may ≤ 1200 * n := Int.ediv_le_self _ (by omega)
    omega
  unfold RMt mtV at hb
  have c0 : w.cell? ⟨g, 0, none⟩ = some (.int .i64 may) := hb.cell 0
  have f0 := hb.frozen 0
  have c1 : w.cell? ⟨g, 1, none⟩ = some (.int .u64 lim) := hb.cell 1
  have f1 := hb.frozen 1
  have c2 : w.cell? ⟨g, 2, none⟩ = some (.int .i64 away) := hb.cell 2
  have f2 := hb.frozen 2
  have c3 : w.cell? ⟨g, 3, none⟩ = some (.int .u64 since) := hb.cell 3
  have f3 := hb.frozen 3
  have c4 : w.cell? ⟨g, 4, none⟩ = some (.bool false) := hb.cell 4
  have f4 := hb.frozen 4
  go_enter Try.func24, Try.ntmps24
  go_wp2_with fail
  go_quiet (fail)
  go_wp2_with fail
  go_region
  go_wp2_with fail
  go_ret
  exact ⟨rfl, ((((hb.set_ 2 _).drewN _).drew).set_ 0 _), (grown_set (grown_drew (grown_drewN (grown_set (grown_refl _ _) _ _) _)) _ _)⟩

set_option maxHeartbeats 1000000 in
set_option maxRecDepth 100000 in
theorem rdo_lost_fx (g : Nat) (may lim away since n sent now : Int) (w : World) (hb : RMt w g ⟨may, lim, away, since, false⟩) (hk : MtOk ⟨may, lim, away, since, false⟩) (h : 0 ≤ n ∧ n ≤ 1200) (h2 : n ≤ away)  (hz : may / 2 < 2400) :
    Calls Try.prog 24 #[.pointer (some ⟨g, 0, none⟩), .int .u8 2, .int .i64 n, .int .u64 sent, .int .u64 now] w fun e w' => e = .returned (.int .i64 0) ∧ RMt w' g ⟨2400, 2400, away - n, now, true⟩ ∧ w.grownBy w' (some g) := by
  obtain ⟨k0, k1, k2, k3, k4, k5⟩ := hk
  simp only at k0 k1 k2 k3 k4 k5
  unfold RMt mtV at hb
  have c0 : w.cell? ⟨g, 0, none⟩ = some (.int .i64 may) := hb.cell 0
  have f0 := hb.frozen 0
  have c1 : w.cell? ⟨g, 1, none⟩ = some (.int .u64 lim) := hb.cell 1
  have f1 := hb.frozen 1
  have c2 : w.cell? ⟨g, 2, none⟩ = some (.int .i64 away) := hb.cell 2
  have f2 := hb.frozen 2
  have c3 : w.cell? ⟨g, 3, none⟩ = some (.int .u64 since) := hb.cell 3
  have f3 := hb.frozen 3
  have c4 : w.cell? ⟨g, 4, none⟩ = some (.bool false) := hb.cell 4
  have f4 := hb.frozen 4
  go_enter Try.func24, Try.ntmps24
  go_upto_region 27 with (fail)
  refine wp_world (fun wz => Blk wz g 58 #[.int .i64 2400, .int .u64 lim, .int .i64 (away - n), .int .u64 now, .bool true] ∧ w.grownBy wz (some g)) ⟨((((hb.set_ 2 _).set_ 4 _).set_ 3 _).set_ 0 _).set_ 0 _, grown_set (grown_set (grown_set (grown_set (grown_set (grown_refl _ _) _ _) _ _) _ _) _ _) _ _⟩ ?_
  rintro wc ⟨hz9, hg9⟩
  clear c0 f0 c1 f1 c2 f2 c3 f3 c4 f4 hb
  have c0 : wc.cell? ⟨g, 0, none⟩ = some (.int .i64 2400) := hz9.cell 0
  have c1 : wc.cell? ⟨g, 1, none⟩ = some (.int .u64 lim) := hz9.cell 1
  have f1 := hz9.frozen 1
  go_wp2_with fail
  go_ret
  exact ⟨rfl, hz9.set_ 1 _, grown_set hg9 _ _⟩

set_option maxHeartbeats 1000000 in
set_option maxRecDepth 100000 in
theorem rdo_lost_fy (g : Nat) (may lim away since n sent now : Int) (w : World) (hb : RMt w g ⟨may, lim, away, since, false⟩) (hk : MtOk ⟨may, lim, away, since, false⟩) (h : 0 ≤ n ∧ n ≤ 1200) (h2 : n ≤ away)  (hz : 2400 ≤ may / 2) :
    Calls Try.prog 24 #[.pointer (some ⟨g, 0, none⟩), .int .u8 2, .int .i64 n, .int .u64 sent, .int .u64 now] w fun e w' => e = .returned (.int .i64 0) ∧ RMt w' g ⟨may / 2, may / 2, away - n, now, true⟩ ∧ w.grownBy w' (some g) := by
  obtain ⟨k0, k1, k2, k3, k4, k5⟩ := hk
  simp only at k0 k1 k2 k3 k4 k5
  unfold RMt mtV at hb
  have c0 : w.cell? ⟨g, 0, none⟩ = some (.int .i64 may) := hb.cell 0
  have f0 := hb.frozen 0
  have c1 : w.cell? ⟨g, 1, none⟩ = some (.int .u64 lim) := hb.cell 1
  have f1 := hb.frozen 1
  have c2 : w.cell? ⟨g, 2, none⟩ = some (.int .i64 away) := hb.cell 2
  have f2 := hb.frozen 2
  have c3 : w.cell? ⟨g, 3, none⟩ = some (.int .u64 since) := hb.cell 3
  have f3 := hb.frozen 3
  have c4 : w.cell? ⟨g, 4, none⟩ = some (.bool false) := hb.cell 4
  have f4 := hb.frozen 4
  go_enter Try.func24, Try.ntmps24
  go_wp2_with fail
  go_ret
  refine ⟨rfl, ((((hb.set_ 2 _).set_ 4 _).set_ 3 _).set_ 0 _).set_ 1 _, ?_⟩
  (repeat (first | exact grown_refl _ _ | refine grown_set ?_ _ _))

set_option maxHeartbeats 1000000 in
set_option maxRecDepth 100000 in
theorem rdo_gone_f (g : Nat) (may lim away since n sent now : Int) (w : World) (hb : RMt w g ⟨may, lim, away, since, false⟩) (hk : MtOk ⟨may, lim, away, since, false⟩) (h : 0 ≤ n ∧ n ≤ 1200) (h2 : n ≤ away)  :
    Calls Try.prog 24 #[.pointer (some ⟨g, 0, none⟩), .int .u8 3, .int .i64 n, .int .u64 sent, .int .u64 now] w fun e w' => e = .returned (.int .i64 0) ∧ RMt w' g ⟨may, lim, away - n, since, false⟩ ∧ w.grownBy w' (some g) := by
  obtain ⟨k0, k1, k2, k3, k4, k5⟩ := hk
  simp only at k0 k1 k2 k3 k4 k5
  unfold RMt mtV at hb
  have c0 : w.cell? ⟨g, 0, none⟩ = some (.int .i64 may) := hb.cell 0
  have f0 := hb.frozen 0
  have c1 : w.cell? ⟨g, 1, none⟩ = some (.int .u64 lim) := hb.cell 1
  have f1 := hb.frozen 1
  have c2 : w.cell? ⟨g, 2, none⟩ = some (.int .i64 away) := hb.cell 2
  have f2 := hb.frozen 2
  have c3 : w.cell? ⟨g, 3, none⟩ = some (.int .u64 since) := hb.cell 3
  have f3 := hb.frozen 3
  have c4 : w.cell? ⟨g, 4, none⟩ = some (.bool false) := hb.cell 4
  have f4 := hb.frozen 4
  go_enter Try.func24, Try.ntmps24
  go_wp2_with fail
  go_ret
  exact ⟨rfl, hb.set_ 2 _, grown_set (grown_refl _ _) _ _⟩

set_option maxHeartbeats 1000000 in
set_option maxRecDepth 100000 in
theorem rdo_ack_tax (g : Nat) (may lim away since n sent now : Int) (w : World) (hb : RMt w g ⟨may, lim, away, since, true⟩) (hk : MtOk ⟨may, lim, away, since, true⟩) (h : 0 ≤ n ∧ n ≤ 1200) (h2 : n ≤ away) (hs : since < sent) (hc : may < lim) (hz : 1073741824 < may + n) :
    Calls Try.prog 24 #[.pointer (some ⟨g, 0, none⟩), .int .u8 1, .int .i64 n, .int .u64 sent, .int .u64 now] w fun e w' => e = .returned (.int .i64 0) ∧ RMt w' g ⟨1073741824, lim, away - n, since, true⟩ ∧ w.grownBy w' (some g) := by
  obtain ⟨k0, k1, k2, k3, k4, k5⟩ := hk
  simp only at k0 k1 k2 k3 k4 k5
  unfold RMt mtV at hb
  have c0 : w.cell? ⟨g, 0, none⟩ = some (.int .i64 may) := hb.cell 0
  have f0 := hb.frozen 0
  have c1 : w.cell? ⟨g, 1, none⟩ = some (.int .u64 lim) := hb.cell 1
  have f1 := hb.frozen 1
  have c2 : w.cell? ⟨g, 2, none⟩ = some (.int .i64 away) := hb.cell 2
  have f2 := hb.frozen 2
  have c3 : w.cell? ⟨g, 3, none⟩ = some (.int .u64 since) := hb.cell 3
  have f3 := hb.frozen 3
  have c4 : w.cell? ⟨g, 4, none⟩ = some (.bool true) := hb.cell 4
  have f4 := hb.frozen 4
  go_enter Try.func24, Try.ntmps24
  have hd : decide (sent ≤ since) = false := by simp; omega
  go_wp2_with fail
  go_quiet (fail)
  go_wp2_with fail
  go_ret
  exact ⟨rfl, ((((hb.set_ 2 _).drewN _).set_ 0 _).set_ 0 _), (grown_set (grown_set (grown_drewN (grown_set (grown_refl _ _) _ _) _) _ _) _ _)⟩

set_option maxHeartbeats 1000000 in
set_option maxRecDepth 100000 in
theorem rdo_ack_tay (g : Nat) (may lim away since n sent now : Int) (w : World) (hb : RMt w g ⟨may, lim, away, since, true⟩) (hk : MtOk ⟨may, lim, away, since, true⟩) (h : 0 ≤ n ∧ n ≤ 1200) (h2 : n ≤ away) (hs : since < sent) (hc : may < lim) (hz : may + n ≤ 1073741824) :
    Calls Try.prog 24 #[.pointer (some ⟨g, 0, none⟩), .int .u8 1, .int .i64 n, .int .u64 sent, .int .u64 now] w fun e w' => e = .returned (.int .i64 0) ∧ RMt w' g ⟨may + n, lim, away - n, since, true⟩ ∧ w.grownBy w' (some g) := by
  obtain ⟨k0, k1, k2, k3, k4, k5⟩ := hk
  simp only at k0 k1 k2 k3 k4 k5
  unfold RMt mtV at hb
  have c0 : w.cell? ⟨g, 0, none⟩ = some (.int .i64 may) := hb.cell 0
  have f0 := hb.frozen 0
  have c1 : w.cell? ⟨g, 1, none⟩ = some (.int .u64 lim) := hb.cell 1
  have f1 := hb.frozen 1
  have c2 : w.cell? ⟨g, 2, none⟩ = some (.int .i64 away) := hb.cell 2
  have f2 := hb.frozen 2
  have c3 : w.cell? ⟨g, 3, none⟩ = some (.int .u64 since) := hb.cell 3
  have f3 := hb.frozen 3
  have c4 : w.cell? ⟨g, 4, none⟩ = some (.bool true) := hb.cell 4
  have f4 := hb.frozen 4
  go_enter Try.func24, Try.ntmps24
  have hd : decide (sent ≤ since) = false := by simp; omega
  go_wp2_with fail
  go_quiet (fail)
  go_wp2_with fail
  go_ret
  exact ⟨rfl, (((hb.set_ 2 _).drewN _).set_ 0 _), (grown_set (grown_drewN (grown_set (grown_refl _ _) _ _) _) _ _)⟩

set_option maxHeartbeats 1000000 in
set_option maxRecDepth 100000 in
theorem rdo_ack_tbx (g : Nat) (may lim away since n sent now : Int) (w : World) (hb : RMt w g ⟨may, lim, away, since, true⟩) (hk : MtOk ⟨may, lim, away, since, true⟩) (h : 0 ≤ n ∧ n ≤ 1200) (h2 : n ≤ away) (hs : since < sent) (hc : lim ≤ may) (hz : 1073741824 < may + 1200 * n / may) :
    Calls Try.prog 24 #[.pointer (some ⟨g, 0, none⟩), .int .u8 1, .int .i64 n, .int .u64 sent, .int .u64 now] w fun e w' => e = .returned (.int .i64 0) ∧ RMt w' g ⟨1073741824, lim, away - n, since, true⟩ ∧ w.grownBy w' (some g) := by
  obtain ⟨k0, k1, k2, k3, k4, k5⟩ := hk
  simp only at k0 k1 k2 k3 k4 k5
  have hq : 0 ≤ 1200 * n / may ∧ 1200 * n / may ≤ 1440000 := by
    have h3 : 0 ≤ 1200 * n / may := Int.ediv_nonneg (by omega) (by omega)
    have h4 : 1200 * n / may ≤ 1200 * n := Int.ediv_le_self _ (by omega)
    omega
  unfold RMt mtV at hb
  have c0 : w.cell? ⟨g, 0, none⟩ = some (.int .i64 may) := hb.cell 0
  have f0 := hb.frozen 0
  have c1 : w.cell? ⟨g, 1, none⟩ = some (.int .u64 lim) := hb.cell 1
  have f1 := hb.frozen 1
  have c2 : w.cell? ⟨g, 2, none⟩ = some (.int .i64 away) := hb.cell 2
  have f2 := hb.frozen 2
  have c3 : w.cell? ⟨g, 3, none⟩ = some (.int .u64 since) := hb.cell 3
  have f3 := hb.frozen 3
  have c4 : w.cell? ⟨g, 4, none⟩ = some (.bool true) := hb.cell 4
  have f4 := hb.frozen 4
  go_enter Try.func24, Try.ntmps24
  have hd : decide (sent ≤ since) = false := by simp; omega
  go_wp2_with fail
  go_quiet (fail)
  go_wp2_with fail
  go_region
  go_wp2_with fail
  go_ret
  exact ⟨rfl, (((((hb.set_ 2 _).drewN _).drew).set_ 0 _).set_ 0 _), (grown_set (grown_set (grown_drew (grown_drewN (grown_set (grown_refl _ _) _ _) _)) _ _) _ _)⟩

set_option maxHeartbeats 1000000 in
set_option maxRecDepth 100000 in
theorem rdo_ack_tby (g : Nat) (may lim away since n sent now : Int) (w : World) (hb : RMt w g ⟨may, lim, away, since, true⟩) (hk : MtOk ⟨may, lim, away, since, true⟩) (h : 0 ≤ n ∧ n ≤ 1200) (h2 : n ≤ away) (hs : since < sent) (hc : lim ≤ may) (hz : may + 1200 * n / may ≤ 1073741824) :
    Calls Try.prog 24 #[.pointer (some ⟨g, 0, none⟩), .int .u8 1, .int .i64 n, .int .u64 sent, .int .u64 now] w fun e w' => e = .returned (.int .i64 0) ∧ RMt w' g ⟨may + 1200 * n / may, lim, away - n, since, true⟩ ∧ w.grownBy w' (some g) := by
  obtain ⟨k0, k1, k2, k3, k4, k5⟩ := hk
  simp only at k0 k1 k2 k3 k4 k5
  have hq : 0 ≤ 1200 * n / may ∧ 1200 * n / may ≤ 1440000 := by
    have h3 : 0 ≤ 1200 * n / may := Int.ediv_nonneg (by omega) (by omega)
    have h4 : 1200 * n / may ≤ 1200 * n := Int.ediv_le_self _ (by omega)
    omega
  unfold RMt mtV at hb
  have c0 : w.cell? ⟨g, 0, none⟩ = some (.int .i64 may) := hb.cell 0
  have f0 := hb.frozen 0
  have c1 : w.cell? ⟨g, 1, none⟩ = some (.int .u64 lim) := hb.cell 1
  have f1 := hb.frozen 1
  have c2 : w.cell? ⟨g, 2, none⟩ = some (.int .i64 away) := hb.cell 2
  have f2 := hb.frozen 2
  have c3 : w.cell? ⟨g, 3, none⟩ = some (.int .u64 since) := hb.cell 3
  have f3 := hb.frozen 3
  have c4 : w.cell? ⟨g, 4, none⟩ = some (.bool true) := hb.cell 4
  have f4 := hb.frozen 4
  go_enter Try.func24, Try.ntmps24
  have hd : decide (sent ≤ since) = false := by simp; omega
  go_wp2_with fail
  go_quiet (fail)
  go_wp2_with fail
  go_region
  go_wp2_with fail
  go_ret
  exact ⟨rfl, ((((hb.set_ 2 _).drewN _).drew).set_ 0 _), (grown_set (grown_drew (grown_drewN (grown_set (grown_refl _ _) _ _) _)) _ _)⟩

set_option maxHeartbeats 1000000 in
set_option maxRecDepth 100000 in
theorem rdo_lost_tx (g : Nat) (may lim away since n sent now : Int) (w : World) (hb : RMt w g ⟨may, lim, away, since, true⟩) (hk : MtOk ⟨may, lim, away, since, true⟩) (h : 0 ≤ n ∧ n ≤ 1200) (h2 : n ≤ away) (hs : since < sent) (hz : may / 2 < 2400) :
    Calls Try.prog 24 #[.pointer (some ⟨g, 0, none⟩), .int .u8 2, .int .i64 n, .int .u64 sent, .int .u64 now] w fun e w' => e = .returned (.int .i64 0) ∧ RMt w' g ⟨2400, 2400, away - n, now, true⟩ ∧ w.grownBy w' (some g) := by
  obtain ⟨k0, k1, k2, k3, k4, k5⟩ := hk
  simp only at k0 k1 k2 k3 k4 k5
  unfold RMt mtV at hb
  have c0 : w.cell? ⟨g, 0, none⟩ = some (.int .i64 may) := hb.cell 0
  have f0 := hb.frozen 0
  have c1 : w.cell? ⟨g, 1, none⟩ = some (.int .u64 lim) := hb.cell 1
  have f1 := hb.frozen 1
  have c2 : w.cell? ⟨g, 2, none⟩ = some (.int .i64 away) := hb.cell 2
  have f2 := hb.frozen 2
  have c3 : w.cell? ⟨g, 3, none⟩ = some (.int .u64 since) := hb.cell 3
  have f3 := hb.frozen 3
  have c4 : w.cell? ⟨g, 4, none⟩ = some (.bool true) := hb.cell 4
  have f4 := hb.frozen 4
  go_enter Try.func24, Try.ntmps24
  have hd : decide (sent ≤ since) = false := by simp; omega
  go_upto_region 27 with (fail)
  refine wp_world (fun wz => Blk wz g 58 #[.int .i64 2400, .int .u64 lim, .int .i64 (away - n), .int .u64 now, .bool true] ∧ w.grownBy wz (some g)) ⟨((((hb.set_ 2 _).set_ 4 _).set_ 3 _).set_ 0 _).set_ 0 _, grown_set (grown_set (grown_set (grown_set (grown_set (grown_refl _ _) _ _) _ _) _ _) _ _) _ _⟩ ?_
  rintro wc ⟨hz9, hg9⟩
  clear c0 f0 c1 f1 c2 f2 c3 f3 c4 f4 hb
  have c0 : wc.cell? ⟨g, 0, none⟩ = some (.int .i64 2400) := hz9.cell 0
  have c1 : wc.cell? ⟨g, 1, none⟩ = some (.int .u64 lim) := hz9.cell 1
  have f1 := hz9.frozen 1
  go_wp2_with fail
  go_ret
  exact ⟨rfl, hz9.set_ 1 _, grown_set hg9 _ _⟩

set_option maxHeartbeats 1000000 in
set_option maxRecDepth 100000 in
theorem rdo_lost_ty (g : Nat) (may lim away since n sent now : Int) (w : World) (hb : RMt w g ⟨may, lim, away, since, true⟩) (hk : MtOk ⟨may, lim, away, since, true⟩) (h : 0 ≤ n ∧ n ≤ 1200) (h2 : n ≤ away) (hs : since < sent) (hz : 2400 ≤ may / 2) :
    Calls Try.prog 24 #[.pointer (some ⟨g, 0, none⟩), .int .u8 2, .int .i64 n, .int .u64 sent, .int .u64 now] w fun e w' => e = .returned (.int .i64 0) ∧ RMt w' g ⟨may / 2, may / 2, away - n, now, true⟩ ∧ w.grownBy w' (some g) := by
  obtain ⟨k0, k1, k2, k3, k4, k5⟩ := hk
  simp only at k0 k1 k2 k3 k4 k5
  unfold RMt mtV at hb
  have c0 : w.cell? ⟨g, 0, none⟩ = some (.int .i64 may) := hb.cell 0
  have f0 := hb.frozen 0
  have c1 : w.cell? ⟨g, 1, none⟩ = some (.int .u64 lim) := hb.cell 1
  have f1 := hb.frozen 1
  have c2 : w.cell? ⟨g, 2, none⟩ = some (.int .i64 away) := hb.cell 2
  have f2 := hb.frozen 2
  have c3 : w.cell? ⟨g, 3, none⟩ = some (.int .u64 since) := hb.cell 3
  have f3 := hb.frozen 3
  have c4 : w.cell? ⟨g, 4, none⟩ = some (.bool true) := hb.cell 4
  have f4 := hb.frozen 4
  go_enter Try.func24, Try.ntmps24
  have hd : decide (sent ≤ since) = false := by simp; omega
  go_wp2_with fail
  go_ret
  refine ⟨rfl, ((((hb.set_ 2 _).set_ 4 _).set_ 3 _).set_ 0 _).set_ 1 _, ?_⟩
  (repeat (first | exact grown_refl _ _ | refine grown_set ?_ _ _))

set_option maxHeartbeats 1000000 in
set_option maxRecDepth 100000 in
theorem rdo_gone_t (g : Nat) (may lim away since n sent now : Int) (w : World) (hb : RMt w g ⟨may, lim, away, since, true⟩) (hk : MtOk ⟨may, lim, away, since, true⟩) (h : 0 ≤ n ∧ n ≤ 1200) (h2 : n ≤ away) (hs : since < sent) :
    Calls Try.prog 24 #[.pointer (some ⟨g, 0, none⟩), .int .u8 3, .int .i64 n, .int .u64 sent, .int .u64 now] w fun e w' => e = .returned (.int .i64 0) ∧ RMt w' g ⟨may, lim, away - n, since, true⟩ ∧ w.grownBy w' (some g) := by
  obtain ⟨k0, k1, k2, k3, k4, k5⟩ := hk
  simp only at k0 k1 k2 k3 k4 k5
  unfold RMt mtV at hb
  have c0 : w.cell? ⟨g, 0, none⟩ = some (.int .i64 may) := hb.cell 0
  have f0 := hb.frozen 0
  have c1 : w.cell? ⟨g, 1, none⟩ = some (.int .u64 lim) := hb.cell 1
  have f1 := hb.frozen 1
  have c2 : w.cell? ⟨g, 2, none⟩ = some (.int .i64 away) := hb.cell 2
  have f2 := hb.frozen 2
  have c3 : w.cell? ⟨g, 3, none⟩ = some (.int .u64 since) := hb.cell 3
  have f3 := hb.frozen 3
  have c4 : w.cell? ⟨g, 4, none⟩ = some (.bool true) := hb.cell 4
  have f4 := hb.frozen 4
  go_enter Try.func24, Try.ntmps24
  have hd : decide (sent ≤ since) = false := by simp; omega
  go_wp2_with fail
  go_ret
  exact ⟨rfl, hb.set_ 2 _, grown_set (grown_refl _ _) _ _⟩

theorem stepM_err {k : Int} {m : Mt} {n : Int} (sent now : Int) (h : errM k m n ≠ 0) : stepM k m n sent now = m := by unfold stepM; rw [if_pos h]
theorem stepM_send {m : Mt} {n : Int} (sent now : Int) (h : errM 0 m n = 0) : stepM 0 m n sent now = ⟨m.may, m.lim, m.away + n, m.since, m.recov⟩ := by unfold stepM; rw [if_neg (by simpa using h), if_pos rfl]
theorem stepM_go {k : Int} {m : Mt} {n : Int} (sent now : Int) (h : errM k m n = 0) (hk : k ≠ 0) : stepM k m n sent now = goM k m n sent now := by unfold stepM; rw [if_neg (by simpa using h), if_neg hk]
theorem errM_bad {k : Int} {m : Mt} {n : Int} (h : n < 0 ∨ 1200 < n) : errM k m n = 1 := by unfold errM; rw [if_pos h]
theorem errM_send {m : Mt} {n : Int} (h : 0 ≤ n ∧ n ≤ 1200) : errM 0 m n = if 1073741824 < m.away + n then 8 else 0 := by unfold errM; rw [if_neg (by omega), if_pos rfl]
theorem errM_go {k : Int} {m : Mt} {n : Int} (h : 0 ≤ n ∧ n ≤ 1200) (hk : k ≠ 0) : errM k m n = if m.away < n then 6 else 0 := by unfold errM; rw [if_neg (by omega), if_neg hk]
theorem goM_early {k : Int} {m : Mt} {n sent now : Int} (h : m.recov = true ∧ sent ≤ m.since) : goM k m n sent now = ⟨m.may, m.lim, m.away - n, m.since, m.recov⟩ := by unfold goM; rw [if_pos h]
theorem goM_1 {m : Mt} {n sent now : Int} (h : ¬ (m.recov = true ∧ sent ≤ m.since)) : goM 1 m n sent now = ⟨capM (more m n), m.lim, m.away - n, m.since, m.recov⟩ := by unfold goM; rw [if_neg h, if_pos rfl]
theorem goM_2 {m : Mt} {n sent now : Int} (h : ¬ (m.recov = true ∧ sent ≤ m.since)) : goM 2 m n sent now = ⟨half m.may, half m.may, m.away - n, now, true⟩ := by unfold goM; rw [if_neg h, if_neg (by decide), if_pos rfl]
theorem goM_3 {m : Mt} {n sent now : Int} (h : ¬ (m.recov = true ∧ sent ≤ m.since)) : goM 3 m n sent now = ⟨m.may, m.lim, m.away - n, m.since, m.recov⟩ := by unfold goM; rw [if_neg h, if_neg (by decide), if_neg (by decide)]

theorem rdo_any (g : Nat) (k : Int) (m : Mt) (n sent now : Int) (w : World) (hb : RMt w g m) (hk : MtOk m) (hk3 : 0 ≤ k ∧ k ≤ 3) :
    Calls Try.prog 24 #[.pointer (some ⟨g, 0, none⟩), .int .u8 k, .int .i64 n, .int .u64 sent, .int .u64 now] w fun e w' => e = .returned (.int .i64 (errM k m n)) ∧ RMt w' g (stepM k m n sent now) ∧ w.grownBy w' (some g) := by
  obtain ⟨may, lim, away, since, rc⟩ := m
  have q : ∀ {r : Int}, (Calls Try.prog 24 #[.pointer (some ⟨g, 0, none⟩), .int .u8 k, .int .i64 n, .int .u64 sent, .int .u64 now] w fun e w' => e = .returned (.int .i64 r) ∧ w = w') → r ≠ 0 → errM k ⟨may, lim, away, since, rc⟩ n = r →
      Calls Try.prog 24 #[.pointer (some ⟨g, 0, none⟩), .int .u8 k, .int .i64 n, .int .u64 sent, .int .u64 now] w fun e w' => e = .returned (.int .i64 (errM k ⟨may, lim, away, since, rc⟩ n)) ∧ RMt w' g (stepM k ⟨may, lim, away, since, rc⟩ n sent now) ∧ w.grownBy w' (some g) := fun h h0 he => by
    rw [stepM_err sent now (by rw [he]; exact h0), he]
    exact h.mono fun e w' ⟨h1, h2⟩ => ⟨h1, h2 ▸ hb, h2 ▸ grown_refl _ _⟩
  by_cases h1 : n < 0
  · exact q (rdo_neg g may lim away since n sent now rc k w hb hk h1) (by decide) (errM_bad (.inl h1))
  by_cases h2 : 1200 < n
  · exact q (rdo_big g may lim away since n sent now rc k w hb hk h2) (by decide) (errM_bad (.inr h2))
  have h : 0 ≤ n ∧ n ≤ 1200 := by omega
  by_cases hk0 : k = 0
  · subst hk0
    by_cases h3 : 1073741824 < away + n
    · exact q (rdo_full g may lim away since n sent now rc w hb hk h h3) (by decide) (by rw [errM_send h, if_pos h3])
    · have he : errM 0 ⟨may, lim, away, since, rc⟩ n = 0 := by rw [errM_send h, if_neg h3]
      rw [stepM_send sent now he, he]
      exact rdo_send g may lim away since n sent now rc w hb hk h (by omega)
  by_cases h3 : away < n
  · exact q (rdo_none g may lim away since n sent now rc k w hb hk h (by simpa using hk0) h3) (by decide) (by rw [errM_go h hk0, if_pos h3])
  have h4 : n ≤ away := by omega
  have he : errM k ⟨may, lim, away, since, rc⟩ n = 0 := by rw [errM_go h hk0, if_neg h3]
  clear q
  rw [stepM_go sent now he hk0, he]
  clear he
  by_cases hl : rc = true ∧ sent ≤ since
  · rw [goM_early hl]
    obtain ⟨rfl, hs⟩ := hl
    exact rdo_early g may lim away since n sent now k w hb hk h (by simpa using hk0) h4 hs
  have hk123 : k = 1 ∨ k = 2 ∨ k = 3 := by omega
  rcases hk123 with rfl | rfl | rfl
  · rw [goM_1 hl]
    unfold capM more
    by_cases hc : may < lim
    · rw [if_pos hc]
      by_cases hz : 1073741824 < may + n
      · rw [if_pos hz]
        cases rc with
        | false => exact rdo_ack_fax g may lim away since n sent now w hb hk h h4 hc hz
        | true => exact rdo_ack_tax g may lim away since n sent now w hb hk h h4 (by simpa using hl) hc hz
      · rw [if_neg hz]
        cases rc with
        | false => exact rdo_ack_fay g may lim away since n sent now w hb hk h h4 hc (by omega)
        | true => exact rdo_ack_tay g may lim away since n sent now w hb hk h h4 (by simpa using hl) hc (by omega)
    · rw [if_neg hc]
      by_cases hz : 1073741824 < may + 1200 * n / may
      · rw [if_pos hz]
        cases rc with
        | false => exact rdo_ack_fbx g may lim away since n sent now w hb hk h h4 (by omega) hz
        | true => exact rdo_ack_tbx g may lim away since n sent now w hb hk h h4 (by simpa using hl) (by omega) hz
      · rw [if_neg hz]
        cases rc with
        | false => exact rdo_ack_fby g may lim away since n sent now w hb hk h h4 (by omega) (by simpa using hz)
        | true => exact rdo_ack_tby g may lim away since n sent now w hb hk h h4 (by simpa using hl) (by omega) (by simpa using hz)
  · rw [goM_2 hl]
    unfold half
    by_cases hz : may / 2 < 2400
    · rw [if_pos hz]
      cases rc with
      | false => exact rdo_lost_fx g may lim away since n sent now w hb hk h h4 hz
      | true => exact rdo_lost_tx g may lim away since n sent now w hb hk h h4 (by simpa using hl) hz
    · rw [if_neg hz]
      cases rc with
      | false => exact rdo_lost_fy g may lim away since n sent now w hb hk h h4 (by omega)
      | true => exact rdo_lost_ty g may lim away since n sent now w hb hk h h4 (by simpa using hl) (by omega)
  · rw [goM_3 hl]
    cases rc with
    | false => exact rdo_gone_f g may lim away since n sent now w hb hk h h4
    | true => exact rdo_gone_t g may lim away since n sent now w hb hk h h4 (by simpa using hl)

end Go.Proofs.Ytlnenndlenckjaa
