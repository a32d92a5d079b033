/-
  The function that is ranged over: a set's ranges, the greatest first, handed to whatever loop body. No condition.
-/
import Derived.Test.YtcmkegkljappfaaStrim
import Derived.RangeFuncNested
import Derived.RangeFuncBound
import Derived.RangeFuncCalls
import Derived.RangeFuncLeaves
import Derived.RangeFuncIn
import Derived.Shelf.Abstract
import Derived.Shelf.RegionOpen
import Derived.OwnWalkIn
import Derived.TacticsInMore
import Derived.LoopNIn
import Derived.LoopIn
namespace Go.Proofs.Ytcmkegkljappfaa
open Go.RowKit Go.Shelf
set_option linter.unusedVariables false
set_option linter.unusedSimpArgs false
attribute [local go_sem] Oper.semAt_some

set_option maxHeartbeats 4000000 in
set_option maxRecDepth 100000 in
theorem falling_any (B g : Nat) (rb : Option Nat) (L : List (Int × Int)) (hL : L.length ≤ 1000000) (n l : Nat) (J : Nat → World → Prop) (Jx : World → Prop)
    (hS : ∀ i W, J i W → SetR B W g rb L)
    (hY : ∀ i (x : Int × Int) W, J i W → i < L.length → x = L.getD (L.length - 1 - i) (0, 0) → YieldAt Fence.wide (n - 1) Try.prog l #[.agg #[.int .u64 x.1, .int .u64 x.2]] W fun e W' =>
      (e = .returned (.bool true) ∧ J (i + 1) W') ∨ (e = .returned (.bool false) ∧ Jx W'))
    (W : World) (h0 : J 0 W) :
    CallsIn Fence.wide n Try.prog 27 #[.pointer (some ⟨g, 0, none⟩), .func (.yield l) #[] #[]] W fun e W' => (∃ v, e = .returned v) ∧ (J L.length W' ∨ Jx W') := by
  have HS := Lib.hid hS
  have HY := Lib.hid hY
  clear hS hY
  obtain ⟨len, hlen⟩ : ∃ len, len = L.length := ⟨_, rfl⟩
  have hln := fun W (h : SetR B W g rb L) => len_any B g rb L W h
  rw [← hlen] at HY hln hL ⊢
  have HLN := Lib.hid hln
  have HLE := Lib.hid hlen
  clear hln hlen
  have hs0 := HS.out 0 W h0
  have hl0 := (callsIn_wide (n := n - 1)).2 (HLN.out W hs0)
  have hw0 : IntKind.i64.wrap ((len : Int) - 1) = (len : Int) - 1 := Go.IntWalk.i64_in _ (by omega)
  have HL0 := Lib.hid hl0
  clear hl0 hs0
  refine callsIn_of_wp Try.func27 rfl trivial ?_ rfl
  simp only [Try.ntmps27, List.size_toArray, List.length_cons, List.length_nil, Nat.reduceAdd, Nat.reduceSub, Array.replicate_succ, Array.replicate_zero, List.push_toArray, List.append_toArray, List.nil_append, List.cons_append]
  gi_wp2_with (refine ⟨trivial, (fun h => by simp [Fence.wide] at h), ?_⟩; refine HL0.out.mono ?_; rintro e w2 ⟨rfl, rfl⟩)
  gi_loopw [4] (fun s4 wr => ∃ (i : Nat), i ≤ len ∧ s4 = .int .i64 ((len : Int) - 1 - (i : Int)) ∧ J i wr) (fun s4 _ => (intOf s4 + 1).toNat)
  case atStart => exact ⟨0, Nat.zero_le _, by simp, h0⟩
  case round =>
    obtain ⟨i, hi, rfl, hJ⟩ := hrel
    by_cases hlt : i < len
    · obtain ⟨hBg, V, hV, hblk, hown⟩ := HS.out i wr hJ
      obtain ⟨A, cap, rfl, hnc, hcm, _⟩ := sl_of_own hown
      have hcm' : cap ≤ 9223372036854775807 := by unfold maxLen at hcm; omega
      obtain ⟨k, hk⟩ : ∃ k : Nat, k = len - 1 - i := ⟨_, rfl⟩
      obtain ⟨bb, off, rfl, hbb, d0, d1⟩ := (rdp_of_own hown).get k (by rw [← HLE.out]; omega)
      have c0 : wr.cell? ⟨g, 0, none⟩ = some (.slice (some ⟨bb, off, none⟩) L.length cap) := hblk.cell 0
      rw [← HLE.out] at c0 hnc
      obtain ⟨x, hx⟩ : ∃ x, x = L.getD k (0, 0) := ⟨_, rfl⟩
      obtain ⟨fn, tmps, assign, body, hy, hR⟩ := HY.out i x wr hJ hlt (by rw [hx, hk, HLE.out])
      rw [← hx] at d0 d1
      clear hx hblk hown hcm hV
      obtain ⟨xa, xb⟩ := x
      simp only at d0 d1 hy
      have hki : (len : Int) - 1 - (i : Int) = (k : Int) := by omega
      have hkl : k < len := by omega
      have hkw : IntKind.i64.wrap ((k : Int) - 1) = (k : Int) - 1 := Go.IntWalk.i64_in _ (by omega)
      have hk1 : (k : Int) - 1 = (len : Int) - 1 - ((i + 1 : Nat) : Int) := by omega
      have HK1 := Lib.hid hk1
      rw [hki]
      clear hk hki hk1
      gi_wp2
      refine ⟨fun h => by simp [Fence.wide] at h, hR.mono ?_⟩
      rintro e W3 (⟨rfl, hJ3⟩ | ⟨rfl, hx3⟩)
      · clear d0 d1 c0 hy
        gi_wp2
        go_roundw
        case rel => exact ⟨i + 1, by omega, by rw [HK1.out], hJ3⟩
        case measure => simp [intOf] <;> omega
      · gi_wp2
        refine bodyPost_ret (results_none rfl _ _ _) rfl ?_
        exact ⟨⟨_, rfl⟩, .inr hx3⟩
    · obtain rfl : i = len := by omega
      have hneg : decide (0 ≤ (i : Int) - 1 - (i : Int)) = false := by simp; omega
      gi_wp2
      go_end0
      exact ⟨⟨_, rfl⟩, .inl hJ⟩

end Go.Proofs.Ytcmkegkljappfaa
