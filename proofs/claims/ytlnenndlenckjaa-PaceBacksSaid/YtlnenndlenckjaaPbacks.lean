/-
  PaceBacks: each try waits twice as long as the one ahead of it; no wait is nothing. For every input; no condition.
-/
import Derived.Test.YtlnenndlenckjaaPpairs
namespace Go.Proofs.Ytlnenndlenckjaa
open Go.RowKit
set_option linter.unusedVariables false
set_option linter.unusedSimpArgs false


theorem tries_id (n : Int) (h : 0 ≤ n ∧ n ≤ 20) : tries n = n := by unfold tries; rw [if_neg (show ¬ n < 0 by omega), if_neg (by omega)]
theorem wait_twice (sm va : Int) (n : Int) (h : 0 ≤ n ∧ n ≤ 19) : waitI sm va (n + 1) = 2 * waitI sm va n := by
  unfold waitI
  rw [tries_id _ (by omega), tries_id _ (by omega), show (n + 1).toNat = n.toNat + 1 by omega, Int.pow_succ]
  rw [← Int.mul_assoc, Int.mul_comm]
theorem pow_ok (n : Nat) (h : n ≤ 19) : 1 ≤ (2 : Int) ^ n ∧ (2 : Int) ^ n ≤ 524288 := by
  have hN : (2 : Nat) ^ n ≤ 2 ^ 19 := Nat.pow_le_pow_right (by decide) h
  have hc : (2 : Int) ^ n = (((2 : Nat) ^ n : Nat) : Int) := by simp
  have hp : 1 ≤ (2 : Nat) ^ n := Nat.one_le_two_pow
  rw [hc]
  exact ⟨Int.ofNat_le.2 hp, Int.ofNat_le.2 hN⟩
theorem wait_ok (sm va : Int) (hs : 0 ≤ sm ∧ sm ≤ 1099511627776) (hv : 0 ≤ va ∧ va ≤ 1099511627776) (n : Int) (hn : 0 ≤ n ∧ n ≤ 19) : 1 ≤ waitI sm va n ∧ waitI sm va n ≤ 4611686018427387904 := by
  have hb := base_ok sm va hs hv
  have hp := pow_ok n.toNat (by omega)
  unfold waitI
  rw [tries_id n (by omega)]
  refine ⟨?_, Int.le_trans (Int.mul_le_mul hb.2 hp.2 (by omega) (by decide)) (by decide)⟩
  have := Int.mul_le_mul (show 1 ≤ base sm va by omega) hp.1 (by decide) (by omega)
  simpa using this
theorem lost_pos (la sm : Int) : 1 ≤ lostI la sm := by unfold lostI; split <;> omega
set_option maxHeartbeats 1000000 in
set_option maxRecDepth 100000 in
theorem backs_walk (A : Option Addr) (n cap : Nat) (L : List (Int × Int)) (tr : Int) (w : World) (hp : Pairs w A n L) (hk : PairsOk L) (ht : 0 ≤ tr ∧ tr ≤ 255) (hnc : n ≤ cap) (hcm : cap ≤ maxLen) :
    Calls Try.prog 4 #[.slice A n cap, .int .u8 tr] w fun e w' => e = .returned (.bool true) ∧ Below w.heap.size w w' := by
  have hcm' : cap ≤ 9223372036854775807 := by unfold maxLen at hcm; omega
  clear hcm
  have HP := Lib.hid hp
  have HK := Lib.hid hk
  have HL := Lib.hid hp.1
  clear hp hk
  go_enter Try.func4, Try.ntmps4
  go_wp2_with fail
  refine (awake_any _).mono ?_
  rintro e w1 ⟨rfl, hB⟩
  go_wp2_with fail
  refine (newClock_any _).mono ?_
  rintro e w2 ⟨g, rfl, hc, hg, hb⟩
  have hg : w.heap.size ≤ g := Nat.le_trans hB.size hg
  have hB := hB.trans (hb.mono hB.size)
  clear hb
  go_wp2_with fail
  go_loopw [14] (fun i wr => ∃ (k : Nat) (c : Ck), k ≤ n ∧ i = .int .i64 k ∧ Clk wr g c ∧ CkOk c ∧ Below w.heap.size w wr) (fun i _ => n - (intOf i).toNat)
  case atStart => exact ⟨0, ck0, Nat.zero_le _, rfl, hc, ck0_ok, hB⟩
  case round =>
    clear hc hB
    obtain ⟨k, c, hkn, rfl, hc, hco, hB⟩ := hrel
    by_cases hlt : k < n
    · obtain ⟨b, off, rfl, hb, c0, c1⟩ := (HP.out.below hB).2 k hlt
      have hxy := HK.out.getD k
      obtain ⟨x, hx⟩ : ∃ x, x = (L.getD k (0, 0)).1 := ⟨_, rfl⟩
      obtain ⟨y, hy⟩ : ∃ y, y = (L.getD k (0, 0)).2 := ⟨_, rfl⟩
      rw [← hx] at c0 hxy
      rw [← hy] at c1 hxy
      clear hx hy
      have hc2 : Clk (wr.alloc (.cells #[.int .u64 x, .int .u64 y] 27)) g c := Blk.alloc hc _
      have hB2 := hB.alloc hB.size (.cells #[.int .u64 x, .int .u64 y] 27)
      by_cases h60 : k < 60
      · have h60' : (k : Int) < (60 : Int) := by omega
        go_wp2_with fail
        refine (sample_any g c x y _ hc2 hco hxy.1.1 hxy.2.1).mono ?_
        rintro e w4 ⟨rfl, hc4, hg4⟩
        have hB4 := hB2.grown hg4 hB2.size (fun b hb => by injection hb with hb; omega)
        have ho4 := smp_ok c hco x y hxy.1.1 hxy.2.1
        clear c0 c1 hc hc2 hg4
        go_wp2_with fail
        go_roundw
        case rel => exact ⟨k + 1, _, by omega, by go_num, hc4, ho4, hB4⟩
        case measure => simp [intOf]; omega
      · have h60' : ¬ (k : Int) < (60 : Int) := by omega
        go_wp2_with fail
        go_roundw
        case rel => exact ⟨k + 1, c, by omega, by go_num, hc2, hco, hB2⟩
        case measure => simp [intOf]; omega
    · obtain ⟨s, la, le, sm, va⟩ := c
      have hs : 0 ≤ sm ∧ sm ≤ 1099511627776 := ⟨hco.s0, hco.s1⟩
      have hv : 0 ≤ va ∧ va ≤ 1099511627776 := ⟨hco.v0, hco.v1⟩
      have hla : 0 ≤ la ∧ la ≤ 1099511627776 := ⟨hco.l0, hco.l1⟩
      have hw2 := wait_twice sm va (tr % 20) (by omega)
      have hw1 := wait_ok sm va hs hv (tr % 20) (by omega)
      have hw0 := wait_ok sm va hs hv 0 (by omega)
      have hl0 := lost_pos la sm
      have HW := Lib.hid hw2
      clear hw2 hco
      go_wp2_with fail
      refine (wait_any g s la le sm va (tr % 20 + 1) _ hc hs hv).mono ?_
      rintro e w4 ⟨rfl, n4, rfl⟩
      rw [HW.out]
      obtain ⟨X, hX⟩ : ∃ X, X = waitI sm va (tr % 20) := ⟨_, rfl⟩
      rw [← hX] at hw1 ⊢
      have HX := Lib.hid hX
      clear hX
      go_wp2_with fail
      refine (wait_any g s la le sm va (tr % 20) _ (show Clk (wr.drewN n4) g _ from hc) hs hv).mono ?_
      rintro e w5 ⟨rfl, n5, rfl⟩
      rw [← HX.out]
      go_wp2_with fail
      refine (wait_any g s la le sm va 0 _ (show Clk (wr.drewN (n4 + n5)) g _ from hc) hs hv).mono ?_
      rintro e w6 ⟨rfl, n6, rfl⟩
      generalize waitI sm va 0 = Y at *
      go_wp2_with fail
      refine (clost_any g s la le sm va _ (show Clk (wr.drewN _) g _ from hc) hs hla).mono ?_
      rintro e w7 ⟨rfl, n7, rfl⟩
      generalize lostI la sm = Z at *
      go_wp2_with fail
      go_ret
      exact ⟨by simp; omega, below_drewN hB _⟩
open Go.ChangeShapes Go.WideShapes Go.ChangeAt
set_option maxRecDepth 100000 in
theorem backs_lifted (os : Os) (started : os.Started) (H : Type) (enc : TypeId × Value → H) :
    ReturnsInHanded {} Try.checked os 4 .any (Rows.paceBacksSpec.pre6 enc Try.prog Try.f4 Rows.paceBacksRow.domain false) (Rows.paceBacksSpec.post enc Try.prog Try.f4 false true false false) := by
  refine returnsInHanded_of_change (C := Try.checked) own started (by kernel_rfl) Try.func4
    (ChangeSpec.witness6 (enc := enc) (C := Try.checked) false ⟨#[], #[.slice none 0 0, .int .u8 0], []⟩ 8 (by kernel_rfl) (by kernel_rfl) (by kernel_rfl) (by kernel_rfl)) ?_
  intro W base args ds gs before hval0 hW hcnd _
  have hval : ∀ (j : Nat) t v, Try.f4.params[j]? = some t → args[j]? = some v → Value.okWide Try.prog W .any base t v := hval0
  have hW' := hW
  obtain ⟨p, q, hA0, hV, rfl, hfz, hnd⟩ := hW
  have hA : DataW.TrodAll enc Try.prog W 0 (fun _ => true) true Try.f4.params.toList args.toList ds p := hA0
  rw [Try.params4] at hA hval
  obtain ⟨v0, vs0, d0, ds0, p0, q0, hargs, rfl, rfl, h0, r0⟩ := trodAll_cons hA
  obtain ⟨v1, vs1, d1, ds1, p1, q1, rfl, rfl, rfl, h1, r1⟩ := trodAll_cons r0
  obtain ⟨rfl, rfl, rfl⟩ := trodAll_nil r1
  obtain rfl : args = #[v0, v1] := by cases args; simp_all
  obtain ⟨rfl, rfl⟩ := trodVars_none hV
  obtain ⟨A0, len0, cap0, rfl⟩ := okWide_slice Try.underlying22 (hval 0 22 v0 rfl rfl)
  have k0 := h0
  have lt0 : ∀ x ∈ p0, x.block < W.heap.size := by obtain ⟨m, hm⟩ := k0; exact DataW.trod_lt m _ _ _ hm
  obtain ⟨n0, c0, L0, hR0, hK0⟩ := pairs_of h0
  obtain ⟨a1, rfl, rfl, rfl, w1⟩ := open_int Try.underlying5 (hval 1 5 v1 rfl rfl) h1
  clear hA0 hval0
  refine (backs_walk _ _ _ L0 a1 W hR0 hK0 (bounds_u8 w1) n0 c0).mono fun e W' ⟨he, bel⟩ => ?_
  subst he
  exact ⟨_, rfl, _, _, _, [], _, [], hW', trodAll_mk1 (shut_bool Try.underlying4 _), (trodAll_cons_mk (Below.trod laidOut (by kernel_rfl) (of_decide_eq_true (by kernel_rfl)) k0 bel lt0) (trodAll_cons_mk (shut_int Try.underlying5 w1) trodAll_mk0)), rfl, bel.frame _, fun h => by cases h⟩

theorem backs_holds : Rows.PaceBacksSaid :=
  OpenClaim.holds_of_wide 4 Try.f4 rfl rfl rfl rfl rfl rfl rfl ⟨rfl, rfl, rfl, rfl, rfl⟩ rfl rfl rfl rfl rfl (by kernel_rfl) Try.func4 (by kernel_rfl)
    (of_decide_eq_true (by kernel_rfl)) (by unfold Func.isWrapper; first | (rw [if_pos (by decide +kernel)]; kernel_rfl) | (rw [if_neg (by decide +kernel)]; exact ⟨rfl, rfl⟩))
    (fun os started H enc _ => backs_lifted os started H enc)
#print axioms backs_holds

end Go.Proofs.Ytlnenndlenckjaa
