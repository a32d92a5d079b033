/-
  bare.
-/
import Derived.Test.YtjijmbpgfabgcaaDoorZD
namespace Go.Proofs.YtjijmbpgfabgcaaDoor
open Go.RowKit
set_option linter.unusedVariables false
set_option linter.unusedSimpArgs false

set_option maxHeartbeats 4000000 in
set_option maxRecDepth 100000 in
theorem bare5 (kd id al : Int) (nA : Option Addr) (nl nc : Nat) (pr od sg so eg eo : Int) (sm : Bool) (cd : Int) (rA : Option Addr) (rl rc : Nat) (n ve : Int) (vA : Option Addr) (vl vc : Nat) (w : World) : Calls Tryd.prog 40 #[.agg #[.int .u64 kd, .int .u64 id, .int .u64 al, .slice nA nl nc, .int .u8 pr, .int .u8 od, .int .u64 sg, .int .u64 so, .int .u64 eg, .int .u64 eo, .bool sm, .int .u64 cd, .slice rA rl rc, .int .u64 n, .int .u64 ve, .slice vA vl vc], .int .i64 5] w fun e w' => e = .returned (.agg #[.int .u64 0, .int .u64 (zf 5 1 id 0), .int .u64 (zf 5 2 al 0), zf 5 4 (.slice nA nl nc) (.slice none 0 0), .int .u8 (zf 5 8 pr 0), .int .u8 (zf 5 16 od 0), .int .u64 (zf 5 32 sg 0), .int .u64 (zf 5 32 so 0), .int .u64 (zf 5 192 eg 0), .int .u64 (zf 5 192 eo 0), .bool (zf 5 256 sm false), .int .u64 (zf 5 512 cd 0), zf 5 1024 (.slice rA rl rc) (.slice none 0 0), .int .u64 (zf 5 2048 n 0), .int .u64 (zf 5 4096 ve 0), zf 5 8192 (.slice vA vl vc) (.slice none 0 0)]) ∧ Below w.heap.size w w' := by
  have hO := Blk.new w 31 #[.int .u64 kd, .int .u64 id, .int .u64 al, .slice nA nl nc, .int .u8 pr, .int .u8 od, .int .u64 sg, .int .u64 so, .int .u64 eg, .int .u64 eo, .bool sm, .int .u64 cd, .slice rA rl rc, .int .u64 n, .int .u64 ve, .slice vA vl vc]
  have hB := (Below.refl w.heap.size w).alloc (Nat.le_refl _) (.cells #[.int .u64 kd, .int .u64 id, .int .u64 al, .slice nA nl nc, .int .u8 pr, .int .u8 od, .int .u64 sg, .int .u64 so, .int .u64 eg, .int .u64 eo, .bool sm, .int .u64 cd, .slice rA rl rc, .int .u64 n, .int .u64 ve, .slice vA vl vc] 31)
  go_enter Tryd.func40, Tryd.ntmps40
  go_wp2_with fail
  refine bodyPost_ret (by simp [results, Tryd.results40, go_sem]; rfl) rfl ?_
  refine ⟨rfl, ?_⟩
  repeat (first | with_reducible exact Below.refl _ _ | with_reducible refine Below.setCell ?_ (by simp) _ | with_reducible refine Below.alloc ?_ (by simp) _)
set_option maxHeartbeats 4000000 in
set_option maxRecDepth 100000 in
theorem bare1 (kd id al : Int) (nA : Option Addr) (nl nc : Nat) (pr od sg so eg eo : Int) (sm : Bool) (cd : Int) (rA : Option Addr) (rl rc : Nat) (n ve : Int) (vA : Option Addr) (vl vc : Nat) (w : World) : Calls Tryd.prog 40 #[.agg #[.int .u64 kd, .int .u64 id, .int .u64 al, .slice nA nl nc, .int .u8 pr, .int .u8 od, .int .u64 sg, .int .u64 so, .int .u64 eg, .int .u64 eo, .bool sm, .int .u64 cd, .slice rA rl rc, .int .u64 n, .int .u64 ve, .slice vA vl vc], .int .i64 1] w fun e w' => e = .returned (.agg #[.int .u64 0, .int .u64 (zf 1 1 id 0), .int .u64 (zf 1 2 al 0), zf 1 4 (.slice nA nl nc) (.slice none 0 0), .int .u8 (zf 1 8 pr 0), .int .u8 (zf 1 16 od 0), .int .u64 (zf 1 32 sg 0), .int .u64 (zf 1 32 so 0), .int .u64 (zf 1 192 eg 0), .int .u64 (zf 1 192 eo 0), .bool (zf 1 256 sm false), .int .u64 (zf 1 512 cd 0), zf 1 1024 (.slice rA rl rc) (.slice none 0 0), .int .u64 (zf 1 2048 n 0), .int .u64 (zf 1 4096 ve 0), zf 1 8192 (.slice vA vl vc) (.slice none 0 0)]) ∧ Below w.heap.size w w' := by
  have hO := Blk.new w 31 #[.int .u64 kd, .int .u64 id, .int .u64 al, .slice nA nl nc, .int .u8 pr, .int .u8 od, .int .u64 sg, .int .u64 so, .int .u64 eg, .int .u64 eo, .bool sm, .int .u64 cd, .slice rA rl rc, .int .u64 n, .int .u64 ve, .slice vA vl vc]
  have hB := (Below.refl w.heap.size w).alloc (Nat.le_refl _) (.cells #[.int .u64 kd, .int .u64 id, .int .u64 al, .slice nA nl nc, .int .u8 pr, .int .u8 od, .int .u64 sg, .int .u64 so, .int .u64 eg, .int .u64 eo, .bool sm, .int .u64 cd, .slice rA rl rc, .int .u64 n, .int .u64 ve, .slice vA vl vc] 31)
  go_enter Tryd.func40, Tryd.ntmps40
  go_wp2_with fail
  refine bodyPost_ret (by simp [results, Tryd.results40, go_sem]; rfl) rfl ?_
  refine ⟨rfl, ?_⟩
  repeat (first | with_reducible exact Below.refl _ _ | with_reducible refine Below.setCell ?_ (by simp) _ | with_reducible refine Below.alloc ?_ (by simp) _)
set_option maxHeartbeats 4000000 in
set_option maxRecDepth 100000 in
theorem bare4 (kd id al : Int) (nA : Option Addr) (nl nc : Nat) (pr od sg so eg eo : Int) (sm : Bool) (cd : Int) (rA : Option Addr) (rl rc : Nat) (n ve : Int) (vA : Option Addr) (vl vc : Nat) (w : World) : Calls Tryd.prog 40 #[.agg #[.int .u64 kd, .int .u64 id, .int .u64 al, .slice nA nl nc, .int .u8 pr, .int .u8 od, .int .u64 sg, .int .u64 so, .int .u64 eg, .int .u64 eo, .bool sm, .int .u64 cd, .slice rA rl rc, .int .u64 n, .int .u64 ve, .slice vA vl vc], .int .i64 4] w fun e w' => e = .returned (.agg #[.int .u64 0, .int .u64 (zf 4 1 id 0), .int .u64 (zf 4 2 al 0), zf 4 4 (.slice nA nl nc) (.slice none 0 0), .int .u8 (zf 4 8 pr 0), .int .u8 (zf 4 16 od 0), .int .u64 (zf 4 32 sg 0), .int .u64 (zf 4 32 so 0), .int .u64 (zf 4 192 eg 0), .int .u64 (zf 4 192 eo 0), .bool (zf 4 256 sm false), .int .u64 (zf 4 512 cd 0), zf 4 1024 (.slice rA rl rc) (.slice none 0 0), .int .u64 (zf 4 2048 n 0), .int .u64 (zf 4 4096 ve 0), zf 4 8192 (.slice vA vl vc) (.slice none 0 0)]) ∧ Below w.heap.size w w' := by
  have hO := Blk.new w 31 #[.int .u64 kd, .int .u64 id, .int .u64 al, .slice nA nl nc, .int .u8 pr, .int .u8 od, .int .u64 sg, .int .u64 so, .int .u64 eg, .int .u64 eo, .bool sm, .int .u64 cd, .slice rA rl rc, .int .u64 n, .int .u64 ve, .slice vA vl vc]
  have hB := (Below.refl w.heap.size w).alloc (Nat.le_refl _) (.cells #[.int .u64 kd, .int .u64 id, .int .u64 al, .slice nA nl nc, .int .u8 pr, .int .u8 od, .int .u64 sg, .int .u64 so, .int .u64 eg, .int .u64 eo, .bool sm, .int .u64 cd, .slice rA rl rc, .int .u64 n, .int .u64 ve, .slice vA vl vc] 31)
  go_enter Tryd.func40, Tryd.ntmps40
  go_wp2_with fail
  refine bodyPost_ret (by simp [results, Tryd.results40, go_sem]; rfl) rfl ?_
  refine ⟨rfl, ?_⟩
  repeat (first | with_reducible exact Below.refl _ _ | with_reducible refine Below.setCell ?_ (by simp) _ | with_reducible refine Below.alloc ?_ (by simp) _)

end Go.Proofs.YtjijmbpgfabgcaaDoor
