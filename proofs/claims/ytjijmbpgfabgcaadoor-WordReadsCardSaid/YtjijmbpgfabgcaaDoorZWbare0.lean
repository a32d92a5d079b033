/-
  bare.
-/
import Derived.Test.YtjijmbpgfabgcaaDoorZD
namespace Go.Proofs.YtjijmbpgfabgcaaDoor
open Go.RowKit
set_option linter.unusedVariables false
set_option linter.unusedSimpArgs false

set_option maxHeartbeats 4000000 in
set_option maxRecDepth 100000 in
theorem bare191 (kd id al : Int) (nA : Option Addr) (nl nc : Nat) (pr od sg so eg eo : Int) (sm : Bool) (cd : Int) (rA : Option Addr) (rl rc : Nat) (n ve : Int) (vA : Option Addr) (vl vc : Nat) (w : World) : Calls Tryd.prog 40 #[.agg #[.int .u64 kd, .int .u64 id, .int .u64 al, .slice nA nl nc, .int .u8 pr, .int .u8 od, .int .u64 sg, .int .u64 so, .int .u64 eg, .int .u64 eo, .bool sm, .int .u64 cd, .slice rA rl rc, .int .u64 n, .int .u64 ve, .slice vA vl vc], .int .i64 191] w fun e w' => e = .returned (.agg #[.int .u64 0, .int .u64 (zf 191 1 id 0), .int .u64 (zf 191 2 al 0), zf 191 4 (.slice nA nl nc) (.slice none 0 0), .int .u8 (zf 191 8 pr 0), .int .u8 (zf 191 16 od 0), .int .u64 (zf 191 32 sg 0), .int .u64 (zf 191 32 so 0), .int .u64 (zf 191 192 eg 0), .int .u64 (zf 191 192 eo 0), .bool (zf 191 256 sm false), .int .u64 (zf 191 512 cd 0), zf 191 1024 (.slice rA rl rc) (.slice none 0 0), .int .u64 (zf 191 2048 n 0), .int .u64 (zf 191 4096 ve 0), zf 191 8192 (.slice vA vl vc) (.slice none 0 0)]) ∧ Below w.heap.size w w' := by
  have hO := Blk.new w 31 #[.int .u64 kd, .int .u64 id, .int .u64 al, .slice nA nl nc, .int .u8 pr, .int .u8 od, .int .u64 sg, .int .u64 so, .int .u64 eg, .int .u64 eo, .bool sm, .int .u64 cd, .slice rA rl rc, .int .u64 n, .int .u64 ve, .slice vA vl vc]
  have hB := (Below.refl w.heap.size w).alloc (Nat.le_refl _) (.cells #[.int .u64 kd, .int .u64 id, .int .u64 al, .slice nA nl nc, .int .u8 pr, .int .u8 od, .int .u64 sg, .int .u64 so, .int .u64 eg, .int .u64 eo, .bool sm, .int .u64 cd, .slice rA rl rc, .int .u64 n, .int .u64 ve, .slice vA vl vc] 31)
  go_enter Tryd.func40, Tryd.ntmps40
  go_wp2_with fail
  refine bodyPost_ret (by simp [results, Tryd.results40, go_sem]; rfl) rfl ?_
  refine ⟨rfl, ?_⟩
  repeat (first | with_reducible exact Below.refl _ _ | with_reducible refine Below.setCell ?_ (by simp) _ | with_reducible refine Below.alloc ?_ (by simp) _)
set_option maxHeartbeats 4000000 in
set_option maxRecDepth 100000 in
theorem bare289 (kd id al : Int) (nA : Option Addr) (nl nc : Nat) (pr od sg so eg eo : Int) (sm : Bool) (cd : Int) (rA : Option Addr) (rl rc : Nat) (n ve : Int) (vA : Option Addr) (vl vc : Nat) (w : World) : Calls Tryd.prog 40 #[.agg #[.int .u64 kd, .int .u64 id, .int .u64 al, .slice nA nl nc, .int .u8 pr, .int .u8 od, .int .u64 sg, .int .u64 so, .int .u64 eg, .int .u64 eo, .bool sm, .int .u64 cd, .slice rA rl rc, .int .u64 n, .int .u64 ve, .slice vA vl vc], .int .i64 289] w fun e w' => e = .returned (.agg #[.int .u64 0, .int .u64 (zf 289 1 id 0), .int .u64 (zf 289 2 al 0), zf 289 4 (.slice nA nl nc) (.slice none 0 0), .int .u8 (zf 289 8 pr 0), .int .u8 (zf 289 16 od 0), .int .u64 (zf 289 32 sg 0), .int .u64 (zf 289 32 so 0), .int .u64 (zf 289 192 eg 0), .int .u64 (zf 289 192 eo 0), .bool (zf 289 256 sm false), .int .u64 (zf 289 512 cd 0), zf 289 1024 (.slice rA rl rc) (.slice none 0 0), .int .u64 (zf 289 2048 n 0), .int .u64 (zf 289 4096 ve 0), zf 289 8192 (.slice vA vl vc) (.slice none 0 0)]) ∧ Below w.heap.size w w' := by
  have hO := Blk.new w 31 #[.int .u64 kd, .int .u64 id, .int .u64 al, .slice nA nl nc, .int .u8 pr, .int .u8 od, .int .u64 sg, .int .u64 so, .int .u64 eg, .int .u64 eo, .bool sm, .int .u64 cd, .slice rA rl rc, .int .u64 n, .int .u64 ve, .slice vA vl vc]
  have hB := (Below.refl w.heap.size w).alloc (Nat.le_refl _) (.cells #[.int .u64 kd, .int .u64 id, .int .u64 al, .slice nA nl nc, .int .u8 pr, .int .u8 od, .int .u64 sg, .int .u64 so, .int .u64 eg, .int .u64 eo, .bool sm, .int .u64 cd, .slice rA rl rc, .int .u64 n, .int .u64 ve, .slice vA vl vc] 31)
  go_enter Tryd.func40, Tryd.ntmps40
  go_wp2_with fail
  refine bodyPost_ret (by simp [results, Tryd.results40, go_sem]; rfl) rfl ?_
  refine ⟨rfl, ?_⟩
  repeat (first | with_reducible exact Below.refl _ _ | with_reducible refine Below.setCell ?_ (by simp) _ | with_reducible refine Below.alloc ?_ (by simp) _)
set_option maxHeartbeats 4000000 in
set_option maxRecDepth 100000 in
theorem bare1537 (kd id al : Int) (nA : Option Addr) (nl nc : Nat) (pr od sg so eg eo : Int) (sm : Bool) (cd : Int) (rA : Option Addr) (rl rc : Nat) (n ve : Int) (vA : Option Addr) (vl vc : Nat) (w : World) : Calls Tryd.prog 40 #[.agg #[.int .u64 kd, .int .u64 id, .int .u64 al, .slice nA nl nc, .int .u8 pr, .int .u8 od, .int .u64 sg, .int .u64 so, .int .u64 eg, .int .u64 eo, .bool sm, .int .u64 cd, .slice rA rl rc, .int .u64 n, .int .u64 ve, .slice vA vl vc], .int .i64 1537] w fun e w' => e = .returned (.agg #[.int .u64 0, .int .u64 (zf 1537 1 id 0), .int .u64 (zf 1537 2 al 0), zf 1537 4 (.slice nA nl nc) (.slice none 0 0), .int .u8 (zf 1537 8 pr 0), .int .u8 (zf 1537 16 od 0), .int .u64 (zf 1537 32 sg 0), .int .u64 (zf 1537 32 so 0), .int .u64 (zf 1537 192 eg 0), .int .u64 (zf 1537 192 eo 0), .bool (zf 1537 256 sm false), .int .u64 (zf 1537 512 cd 0), zf 1537 1024 (.slice rA rl rc) (.slice none 0 0), .int .u64 (zf 1537 2048 n 0), .int .u64 (zf 1537 4096 ve 0), zf 1537 8192 (.slice vA vl vc) (.slice none 0 0)]) ∧ Below w.heap.size w w' := by
  have hO := Blk.new w 31 #[.int .u64 kd, .int .u64 id, .int .u64 al, .slice nA nl nc, .int .u8 pr, .int .u8 od, .int .u64 sg, .int .u64 so, .int .u64 eg, .int .u64 eo, .bool sm, .int .u64 cd, .slice rA rl rc, .int .u64 n, .int .u64 ve, .slice vA vl vc]
  have hB := (Below.refl w.heap.size w).alloc (Nat.le_refl _) (.cells #[.int .u64 kd, .int .u64 id, .int .u64 al, .slice nA nl nc, .int .u8 pr, .int .u8 od, .int .u64 sg, .int .u64 so, .int .u64 eg, .int .u64 eo, .bool sm, .int .u64 cd, .slice rA rl rc, .int .u64 n, .int .u64 ve, .slice vA vl vc] 31)
  go_enter Tryd.func40, Tryd.ntmps40
  go_wp2_with fail
  refine bodyPost_ret (by simp [results, Tryd.results40, go_sem]; rfl) rfl ?_
  refine ⟨rfl, ?_⟩
  repeat (first | with_reducible exact Below.refl _ _ | with_reducible refine Below.setCell ?_ (by simp) _ | with_reducible refine Below.alloc ?_ (by simp) _)

end Go.Proofs.YtjijmbpgfabgcaaDoor
