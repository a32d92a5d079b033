/-
  The document's examples are awake.
-/
import Derived.Test.YtbigbnfllkacoaaDoorFbytes
import Derived.Lib.SlBytesConst
namespace Go.Proofs.YtbigbnfllkacoaaDoor
open Go.RowKit
set_option linter.unusedVariables false
set_option linter.unusedSimpArgs false


theorem rd_bytes {w : World} {n : Nat} {fr : Nat × Nat} (hn : n = w.heap.size) (l : List Int) (hl : l.length ≤ 100) : Rd (w.alloc (.cells (l.map (Value.int .u8)).toArray 5 fr)) .u8 (.slice (some ⟨n, 0, none⟩) l.length l.length) l := by
  subst hn
  exact ⟨_, l.length, rfl, Nat.le_refl _, by unfold maxLen; omega, fun h => (by cases h), fun i hi => ⟨w.heap.size, 0, rfl, by simp, fun j hj => by
    obtain rfl : j = 0 := by omega
    simp [List.getD, hi, World.cell?_alloc_mark]⟩⟩
set_option maxHeartbeats 2000000 in
set_option maxRecDepth 100000 in
theorem awake_any (w : World) : Calls Tryd.prog 8 #[] w fun e w' => e = .returned (.bool true) ∧ Below w.heap.size w w' := by
  have kc := fun (w : World) (C : Array Value) (n c : Nat) => Lib.run_convert_bytes_const (P := Tryd.prog) w 23 5 C n c Tryd.underlying23 Tryd.underlying5
  have hr := show Rd (w.alloc (.cells #[.int .u8 97, .int .u8 98] 5 (2, 3))) .u8 (.slice (some ⟨w.heap.size, 0, none⟩) 2 2) [97, 98] from rd_bytes rfl [97, 98] (by decide)
  have hB := (Below.refl w.heap.size w).alloc (Nat.le_refl _) (.cells #[.int .u8 97, .int .u8 98] 5 (2, 3))
  go_enter Tryd.func8, Tryd.ntmps8
  go_wp2_with fail
  refine (bytes8 _ 2 _ hr).mono ?_
  rintro e w1 ⟨v1, rfl, r1, hb⟩
  have hB := hB.trans (hb.mono hB.size)
  clear hr hb kc
  have hg := Blk.new w1 56 #[.int .u64 7, .int .u64 9, .int .u64 4, .int .u64 4]
  have r1 := r1.alloc (.cells #[.int .u64 7, .int .u64 9, .int .u64 4, .int .u64 4] 56)
  have hB := hB.alloc hB.size (.cells #[.int .u64 7, .int .u64 9, .int .u64 4, .int .u64 4] 56)
  go_wp2_with fail
  refine (bytes2 _ _ hg).mono ?_
  rintro e w2 ⟨v2, rfl, r2, hb⟩
  have hB := hB.trans (hb.mono hB.size)
  have r1 := r1.below hb
  clear hg hb
  obtain ⟨A1, k1, rfl⟩ := r1.form
  obtain ⟨A2, k2, rfl⟩ := r2.form
  have q1 := show Rd ((w2).alloc (.cells #[.int .u8 11, .int .u8 4, .int .u8 2, .int .u8 97, .int .u8 98] 5)) .u8 (.slice (some ⟨w2.heap.size, 0, none⟩) 5 5) [11, 4, 2, 97, 98] from rd_bytes (by simp) [11, 4, 2, 97, 98] (by decide)
  have r1 := r1.alloc (.cells #[.int .u8 11, .int .u8 4, .int .u8 2, .int .u8 97, .int .u8 98] 5)
  have r2 := r2.alloc (.cells #[.int .u8 11, .int .u8 4, .int .u8 2, .int .u8 97, .int .u8 98] 5)
  have hB := hB.alloc hB.size (.cells #[.int .u8 11, .int .u8 4, .int .u8 2, .int .u8 97, .int .u8 98] 5)
  have q2 := show Rd ((w2.alloc (.cells #[.int .u8 11, .int .u8 4, .int .u8 2, .int .u8 97, .int .u8 98] 5)).alloc (.cells #[.int .u8 2, .int .u8 9, .int .u8 0, .int .u8 1, .int .u8 2, .int .u8 1, .int .u8 0] 5)) .u8 (.slice (some ⟨w2.heap.size + 1, 0, none⟩) 7 7) [2, 9, 0, 1, 2, 1, 0] from rd_bytes (by simp) [2, 9, 0, 1, 2, 1, 0] (by decide)
  have r2 := r2.alloc (.cells #[.int .u8 2, .int .u8 9, .int .u8 0, .int .u8 1, .int .u8 2, .int .u8 1, .int .u8 0] 5)
  have hB := hB.alloc hB.size (.cells #[.int .u8 2, .int .u8 9, .int .u8 0, .int .u8 1, .int .u8 2, .int .u8 1, .int .u8 0] 5)
  go_wp2_with fail
  refine (same_yes _ _ _ _ r1 q1).mono ?_
  rintro e w3 ⟨rfl, rfl⟩
  go_wp2_with fail
  refine (same_yes _ _ _ _ r2 q2).mono ?_
  rintro e w3 ⟨rfl, rfl⟩
  go_wp2_with fail
  go_ret
  exact ⟨by simp, hB⟩

end Go.Proofs.YtbigbnfllkacoaaDoor
