/-
  Two frames that are the same.
-/
import Derived.Test.YtbigbnfllkacoaaDoorFawk
import Derived.Test.YtbigbnfllkacoaaDoorRanges
namespace Go.Proofs.YtbigbnfllkacoaaDoor
open Go.RowKit
set_option linter.unusedVariables false
set_option linter.unusedSimpArgs false

set_option maxHeartbeats 4000000 in
set_option maxRecDepth 100000 in
theorem sameR_yes (va vb : Value) (l : List (Int × Int)) (w : World) (ha : RdP w va l) (hb : RdP w vb l) :
    Calls Tryd.prog 33 #[va, vb] w fun e w' => e = .returned (.bool true) ∧ ∃ m, w.drewN m = w' := by
  obtain ⟨A, ca, rfl⟩ := ha.form
  obtain ⟨A', cb, rfl⟩ := hb.form
  obtain ⟨_, _, pa1, pa2, _⟩ := ha.parts
  obtain ⟨_, _, pb1, pb2, _⟩ := hb.parts
  have hq : ca ≤ 9223372036854775807 := by unfold maxLen at pa2; omega
  have hq' : cb ≤ 9223372036854775807 := by unfold maxLen at pb2; omega
  clear pa2 pb2
  have H := Lib.hid ha
  have H' := Lib.hid hb
  clear ha hb
  obtain ⟨n, hn⟩ : ∃ n, n = l.length := ⟨_, rfl⟩
  rw [← hn] at pa1 pb1 ⊢
  have HN := Lib.hid hn
  clear hn
  go_enter Tryd.func33, Tryd.ntmps33
  go_wp2_with fail
  go_loopw [13] (fun i wr => ∃ (k m : Nat), k ≤ n ∧ i = .int .i64 k ∧ wr = w.drewN m) (fun i _ => n - (intOf i).toNat)
  case atStart => exact ⟨0, 0, Nat.zero_le _, rfl, rfl⟩
  case round =>
    obtain ⟨k, m, hkn, rfl, rfl⟩ := hrel
    by_cases hlt : k < n
    · obtain ⟨b, off, e, hb, c0, c1⟩ := H.out.at_ k (HN.out ▸ hlt)
      obtain ⟨b', off', e', hb', d0, d1⟩ := H'.out.at_ k (HN.out ▸ hlt)
      subst e
      subst e'
      obtain ⟨x, hx⟩ : ∃ x, x = l.getD k (0, 0) := ⟨_, rfl⟩
      rw [← hx] at c0 c1 d0 d1
      clear hx
      obtain ⟨x0, x1⟩ := x
      simp only at c0 c1 d0 d1
      go_wp2_with (go_quiet (fail))
      go_roundw
      case rel => exact ⟨k + 1, _, by omega, by go_num, rfl⟩
      case measure => simp [intOf]; omega
    · go_wp2_with fail
      go_ret
      exact ⟨rfl, _, rfl⟩
set_option maxHeartbeats 4000000 in
set_option maxRecDepth 100000 in
theorem sameF_yes (k i o n c : Int) (fin : Bool) (D T R D' T' R' : Value) (ld lt : List Int) (lr : List (Int × Int)) (w : World) (hD : Rd w .u8 D ld) (hT : Rd w .u8 T lt) (hR : RdP w R lr) (hD' : Rd w .u8 D' ld) (hT' : Rd w .u8 T' lt) (hR' : RdP w R' lr) :
    Calls Tryd.prog 13 #[.agg #[.int .u64 k, .int .u64 i, .int .u64 o, .int .u64 n, .int .u64 c, .bool fin, D, T, R], .agg #[.int .u64 k, .int .u64 i, .int .u64 o, .int .u64 n, .int .u64 c, .bool fin, D', T', R']] w fun e w' => e = .returned (.bool true) ∧ Below w.heap.size w w' := by
  have hO := (Blk.new w 26 #[.int .u64 k, .int .u64 i, .int .u64 o, .int .u64 n, .int .u64 c, .bool fin, D, T, R]).alloc (.cells #[.int .u64 k, .int .u64 i, .int .u64 o, .int .u64 n, .int .u64 c, .bool fin, D', T', R'] 26)
  have hZ := Blk.new (w.alloc (.cells #[.int .u64 k, .int .u64 i, .int .u64 o, .int .u64 n, .int .u64 c, .bool fin, D, T, R] 26)) 26 #[.int .u64 k, .int .u64 i, .int .u64 o, .int .u64 n, .int .u64 c, .bool fin, D', T', R']
  rw [World.size_alloc] at hZ
  have hB := ((Below.refl w.heap.size w).alloc (Nat.le_refl _) (.cells #[.int .u64 k, .int .u64 i, .int .u64 o, .int .u64 n, .int .u64 c, .bool fin, D, T, R] 26)).alloc (by simp) (.cells #[.int .u64 k, .int .u64 i, .int .u64 o, .int .u64 n, .int .u64 c, .bool fin, D', T', R'] 26)
  replace hD := hD.below hB
  replace hT := hT.below hB
  replace hR := hR.below hB
  replace hD' := hD'.below hB
  replace hT' := hT'.below hB
  replace hR' := hR'.below hB
  have c0 : World.cell? _ ⟨w.heap.size, 0, none⟩ = some (.int .u64 k) := hO.cell 0
  have c1 : World.cell? _ ⟨w.heap.size, 1, none⟩ = some (.int .u64 i) := hO.cell 1
  have c2 : World.cell? _ ⟨w.heap.size, 2, none⟩ = some (.int .u64 o) := hO.cell 2
  have c3 : World.cell? _ ⟨w.heap.size, 3, none⟩ = some (.int .u64 n) := hO.cell 3
  have c4 : World.cell? _ ⟨w.heap.size, 4, none⟩ = some (.int .u64 c) := hO.cell 4
  have c5 : World.cell? _ ⟨w.heap.size, 5, none⟩ = some (.bool fin) := hO.cell 5
  have c6 : World.cell? _ ⟨w.heap.size, 6, none⟩ = some (D) := hO.cell 6
  have c7 : World.cell? _ ⟨w.heap.size, 7, none⟩ = some (T) := hO.cell 7
  have c8 : World.cell? _ ⟨w.heap.size, 8, none⟩ = some (R) := hO.cell 8
  have z0 : World.cell? _ ⟨w.heap.size + 1, 0, none⟩ = some (.int .u64 k) := hZ.cell 0
  have z1 : World.cell? _ ⟨w.heap.size + 1, 1, none⟩ = some (.int .u64 i) := hZ.cell 1
  have z2 : World.cell? _ ⟨w.heap.size + 1, 2, none⟩ = some (.int .u64 o) := hZ.cell 2
  have z3 : World.cell? _ ⟨w.heap.size + 1, 3, none⟩ = some (.int .u64 n) := hZ.cell 3
  have z4 : World.cell? _ ⟨w.heap.size + 1, 4, none⟩ = some (.int .u64 c) := hZ.cell 4
  have z5 : World.cell? _ ⟨w.heap.size + 1, 5, none⟩ = some (.bool fin) := hZ.cell 5
  have z6 : World.cell? _ ⟨w.heap.size + 1, 6, none⟩ = some (D') := hZ.cell 6
  have z7 : World.cell? _ ⟨w.heap.size + 1, 7, none⟩ = some (T') := hZ.cell 7
  have z8 : World.cell? _ ⟨w.heap.size + 1, 8, none⟩ = some (R') := hZ.cell 8
  go_enter Tryd.func13, Tryd.ntmps13
  go_wp2_with fail
  refine (same_yes _ _ _ _ hD hD').mono ?_
  rintro e w3 ⟨rfl, rfl⟩
  go_wp2_with fail
  refine (same_yes _ _ _ _ hT hT').mono ?_
  rintro e w4 ⟨rfl, rfl⟩
  go_wp2_with fail
  refine (sameR_yes _ _ _ _ hR hR').mono ?_
  rintro e w5 ⟨rfl, m, rfl⟩
  go_wp2_with fail
  go_ret
  exact ⟨rfl, below_drewN hB _⟩



end Go.Proofs.YtbigbnfllkacoaaDoor
