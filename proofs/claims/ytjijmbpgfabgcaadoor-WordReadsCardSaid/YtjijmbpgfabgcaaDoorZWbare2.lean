/-
  bare.
-/
import Derived.Test.YtjijmbpgfabgcaaDoorZD
namespace Go.Proofs.YtjijmbpgfabgcaaDoor
open Go.RowKit
set_option linter.unusedVariables false
set_option linter.unusedSimpArgs false

set_option maxHeartbeats 4000000 in
set_option maxRecDepth 100000 in
theorem bare0 (kd id al : Int) (nA : Option Addr) (nl nc : Nat) (pr od sg so eg eo : Int) (sm : Bool) (cd : Int) (rA : Option Addr) (rl rc : Nat) (n ve : Int) (vA : Option Addr) (vl vc : Nat) (w : World) : Calls Tryd.prog 40 #[.agg #[.int .u64 kd, .int .u64 id, .int .u64 al, .slice nA nl nc, .int .u8 pr, .int .u8 od, .int .u64 sg, .int .u64 so, .int .u64 eg, .int .u64 eo, .bool sm, .int .u64 cd, .slice rA rl rc, .int .u64 n, .int .u64 ve, .slice vA vl vc], .int .i64 0] w fun e w' => e = .returned (.agg #[.int .u64 0, .int .u64 (zf 0 1 id 0), .int .u64 (zf 0 2 al 0), zf 0 4 (.slice nA nl nc) (.slice none 0 0), .int .u8 (zf 0 8 pr 0), .int .u8 (zf 0 16 od 0), .int .u64 (zf 0 32 sg 0), .int .u64 (zf 0 32 so 0), .int .u64 (zf 0 192 eg 0), .int .u64 (zf 0 192 eo 0), .bool (zf 0 256 sm false), .int .u64 (zf 0 512 cd 0), zf 0 1024 (.slice rA rl rc) (.slice none 0 0), .int .u64 (zf 0 2048 n 0), .int .u64 (zf 0 4096 ve 0), zf 0 8192 (.slice vA vl vc) (.slice none 0 0)]) ∧ Below w.heap.size w w' := by
  have hO := Blk.new w 31 #[.int .u64 kd, .int .u64 id, .int .u64 al, .slice nA nl nc, .int .u8 pr, .int .u8 od, .int .u64 sg, .int .u64 so, .int .u64 eg, .int .u64 eo, .bool sm, .int .u64 cd, .slice rA rl rc, .int .u64 n, .int .u64 ve, .slice vA vl vc]
  have hB := (Below.refl w.heap.size w).alloc (Nat.le_refl _) (.cells #[.int .u64 kd, .int .u64 id, .int .u64 al, .slice nA nl nc, .int .u8 pr, .int .u8 od, .int .u64 sg, .int .u64 so, .int .u64 eg, .int .u64 eo, .bool sm, .int .u64 cd, .slice rA rl rc, .int .u64 n, .int .u64 ve, .slice vA vl vc] 31)
  go_enter Tryd.func40, Tryd.ntmps40
  go_wp2_with fail
  refine bodyPost_ret (by simp [results, Tryd.results40, go_sem]; rfl) rfl ?_
  refine ⟨rfl, ?_⟩
  repeat (first | with_reducible exact Below.refl _ _ | with_reducible refine Below.setCell ?_ (by simp) _ | with_reducible refine Below.alloc ?_ (by simp) _)
set_option maxHeartbeats 4000000 in
set_option maxRecDepth 100000 in
theorem bare2048 (kd id al : Int) (nA : Option Addr) (nl nc : Nat) (pr od sg so eg eo : Int) (sm : Bool) (cd : Int) (rA : Option Addr) (rl rc : Nat) (n ve : Int) (vA : Option Addr) (vl vc : Nat) (w : World) : Calls Tryd.prog 40 #[.agg #[.int .u64 kd, .int .u64 id, .int .u64 al, .slice nA nl nc, .int .u8 pr, .int .u8 od, .int .u64 sg, .int .u64 so, .int .u64 eg, .int .u64 eo, .bool sm, .int .u64 cd, .slice rA rl rc, .int .u64 n, .int .u64 ve, .slice vA vl vc], .int .i64 2048] w fun e w' => e = .returned (.agg #[.int .u64 0, .int .u64 (zf 2048 1 id 0), .int .u64 (zf 2048 2 al 0), zf 2048 4 (.slice nA nl nc) (.slice none 0 0), .int .u8 (zf 2048 8 pr 0), .int .u8 (zf 2048 16 od 0), .int .u64 (zf 2048 32 sg 0), .int .u64 (zf 2048 32 so 0), .int .u64 (zf 2048 192 eg 0), .int .u64 (zf 2048 192 eo 0), .bool (zf 2048 256 sm false), .int .u64 (zf 2048 512 cd 0), zf 2048 1024 (.slice rA rl rc) (.slice none 0 0), .int .u64 (zf 2048 2048 n 0), .int .u64 (zf 2048 4096 ve 0), zf 2048 8192 (.slice vA vl vc) (.slice none 0 0)]) ∧ Below w.heap.size w w' := by
  have hO := Blk.new w 31 #[.int .u64 kd, .int .u64 id, .int .u64 al, .slice nA nl nc, .int .u8 pr, .int .u8 od, .int .u64 sg, .int .u64 so, .int .u64 eg, .int .u64 eo, .bool sm, .int .u64 cd, .slice rA rl rc, .int .u64 n, .int .u64 ve, .slice vA vl vc]
  have hB := (Below.refl w.heap.size w).alloc (Nat.le_refl _) (.cells #[.int .u64 kd, .int .u64 id, .int .u64 al, .slice nA nl nc, .int .u8 pr, .int .u8 od, .int .u64 sg, .int .u64 so, .int .u64 eg, .int .u64 eo, .bool sm, .int .u64 cd, .slice rA rl rc, .int .u64 n, .int .u64 ve, .slice vA vl vc] 31)
  go_enter Tryd.func40, Tryd.ntmps40
  go_wp2_with fail
  refine bodyPost_ret (by simp [results, Tryd.results40, go_sem]; rfl) rfl ?_
  refine ⟨rfl, ?_⟩
  repeat (first | with_reducible exact Below.refl _ _ | with_reducible refine Below.setCell ?_ (by simp) _ | with_reducible refine Below.alloc ?_ (by simp) _)
set_option maxHeartbeats 4000000 in
set_option maxRecDepth 100000 in
theorem bare109 (kd id al : Int) (nA : Option Addr) (nl nc : Nat) (pr od sg so eg eo : Int) (sm : Bool) (cd : Int) (rA : Option Addr) (rl rc : Nat) (n ve : Int) (vA : Option Addr) (vl vc : Nat) (w : World) : Calls Tryd.prog 40 #[.agg #[.int .u64 kd, .int .u64 id, .int .u64 al, .slice nA nl nc, .int .u8 pr, .int .u8 od, .int .u64 sg, .int .u64 so, .int .u64 eg, .int .u64 eo, .bool sm, .int .u64 cd, .slice rA rl rc, .int .u64 n, .int .u64 ve, .slice vA vl vc], .int .i64 109] w fun e w' => e = .returned (.agg #[.int .u64 0, .int .u64 (zf 109 1 id 0), .int .u64 (zf 109 2 al 0), zf 109 4 (.slice nA nl nc) (.slice none 0 0), .int .u8 (zf 109 8 pr 0), .int .u8 (zf 109 16 od 0), .int .u64 (zf 109 32 sg 0), .int .u64 (zf 109 32 so 0), .int .u64 (zf 109 192 eg 0), .int .u64 (zf 109 192 eo 0), .bool (zf 109 256 sm false), .int .u64 (zf 109 512 cd 0), zf 109 1024 (.slice rA rl rc) (.slice none 0 0), .int .u64 (zf 109 2048 n 0), .int .u64 (zf 109 4096 ve 0), zf 109 8192 (.slice vA vl vc) (.slice none 0 0)]) ∧ Below w.heap.size w w' := by
  have hO := Blk.new w 31 #[.int .u64 kd, .int .u64 id, .int .u64 al, .slice nA nl nc, .int .u8 pr, .int .u8 od, .int .u64 sg, .int .u64 so, .int .u64 eg, .int .u64 eo, .bool sm, .int .u64 cd, .slice rA rl rc, .int .u64 n, .int .u64 ve, .slice vA vl vc]
  have hB := (Below.refl w.heap.size w).alloc (Nat.le_refl _) (.cells #[.int .u64 kd, .int .u64 id, .int .u64 al, .slice nA nl nc, .int .u8 pr, .int .u8 od, .int .u64 sg, .int .u64 so, .int .u64 eg, .int .u64 eo, .bool sm, .int .u64 cd, .slice rA rl rc, .int .u64 n, .int .u64 ve, .slice vA vl vc] 31)
  go_enter Tryd.func40, Tryd.ntmps40
  go_wp2_with fail
  refine bodyPost_ret (by simp [results, Tryd.results40, go_sem]; rfl) rfl ?_
  refine ⟨rfl, ?_⟩
  repeat (first | with_reducible exact Below.refl _ _ | with_reducible refine Below.setCell ?_ (by simp) _ | with_reducible refine Below.alloc ?_ (by simp) _)

end Go.Proofs.YtjijmbpgfabgcaaDoor
