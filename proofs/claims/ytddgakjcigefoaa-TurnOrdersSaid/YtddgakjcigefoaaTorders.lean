/-
  TurnOrders: within the same priorities rising groups go first where the order rises, falling ones where it falls. For every input; no condition.
-/
import Derived.Test.YtddgakjcigefoaaTless
namespace Go.Proofs.Ytddgakjcigefoaa
open Go.RowKit
set_option linter.unusedVariables false
set_option linter.unusedSimpArgs false


theorem up_is (s p x y : Int) : lessB s p (rankI 1 x) s p (rankI 1 y) = decide (x < y) := by
  rw [lessB_iff, decide_eq_decide]
  simp [rankI]
theorem down_is (s p x y : Int) (hx : x ≤ 4611686018427387903) (hy : y ≤ 4611686018427387903) : lessB s p (rankI 2 x) s p (rankI 2 y) = decide (y < x) := by
  rw [lessB_iff, decide_eq_decide]
  have e : ∀ z : Int, rankI 2 z = 4611686018427387903 - min z 4611686018427387903 := fun z => by unfold rankI; rw [if_pos rfl]
  rw [e, e]
  omega

set_option maxHeartbeats 2000000 in
set_option maxRecDepth 100000 in
theorem orders_walk (s p a b : Int) (w : World) (hs : 0 ≤ s ∧ s ≤ 255) (hp : 0 ≤ p ∧ p ≤ 255) (ha : 0 ≤ a ∧ a ≤ 18446744073709551615) (hb : 0 ≤ b ∧ b ≤ 18446744073709551615) :
    Calls Try.prog 5 #[.int .u8 s, .int .u8 p, .int .u64 a, .int .u64 b] w fun e w' => e = .returned (.bool true) ∧ Below w.heap.size w w' := by
  go_enter Try.func5, Try.ntmps5
  go_wp2_with fail
  refine (awake_any _).mono ?_
  rintro e w1 ⟨rfl, hB⟩
  go_wp2_with fail
  obtain ⟨x, hx⟩ : ∃ x, x = a % 4611686018427387904 := ⟨_, rfl⟩
  obtain ⟨y, hy⟩ : ∃ y, y = b % 4611686018427387904 := ⟨_, rfl⟩
  have hxb : 0 ≤ x ∧ x ≤ 4611686018427387903 := by omega
  have hyb : 0 ≤ y ∧ y ≤ 4611686018427387903 := by omega
  rw [← hx, ← hy]
  have hup := up_is s p x y
  have hdn := down_is s p x y hxb.2 hyb.2
  have HU := Lib.hid hup
  have HD := Lib.hid hdn
  clear hx hy hup hdn
  refine (rank_any s p 1 x _ hs hp (by omega)).mono ?_
  rintro e w2 ⟨rfl, hb1⟩
  have hB := hB.trans (hb1.mono hB.size)
  clear hb1
  go_wp2_with fail
  refine (rank_any s p 1 y _ hs hp (by omega)).mono ?_
  rintro e w3 ⟨rfl, hb1⟩
  have hB := hB.trans (hb1.mono hB.size)
  clear hb1
  go_wp2_with fail
  refine (less_any s p (rankI 1 x) s p (rankI 1 y) _).mono ?_
  rintro e w4 ⟨rfl, hb1⟩
  have hB := hB.trans (hb1.mono hB.size)
  clear hb1
  rw [HU.out]
  go_wp2_with fail
  refine (rank_any s p 2 x _ hs hp (by omega)).mono ?_
  rintro e w5 ⟨rfl, hb1⟩
  have hB := hB.trans (hb1.mono hB.size)
  clear hb1
  go_wp2_with fail
  refine (rank_any s p 2 y _ hs hp (by omega)).mono ?_
  rintro e w6 ⟨rfl, hb1⟩
  have hB := hB.trans (hb1.mono hB.size)
  clear hb1
  go_wp2_with fail
  refine (less_any s p (rankI 2 x) s p (rankI 2 y) _).mono ?_
  rintro e w7 ⟨rfl, hb1⟩
  have hB := hB.trans (hb1.mono hB.size)
  clear hb1
  rw [HD.out]
  go_wp2_with fail
  go_ret
  exact ⟨by simp, hB⟩

open Go.ChangeShapes Go.WideShapes Go.ChangeAt
set_option maxRecDepth 100000 in
theorem orders_lifted (os : Os) (started : os.Started) (H : Type) (enc : TypeId × Value → H) :
    ReturnsInHanded {} Try.checked os 5 .any (Rows.turnOrdersSpec.pre6 enc Try.prog Try.f5 Rows.turnOrdersRow.domain false) (Rows.turnOrdersSpec.post enc Try.prog Try.f5 false true false false) := by
  refine returnsInHanded_of_change (C := Try.checked) own started (by kernel_rfl) Try.func5
    (ChangeSpec.witness6 (enc := enc) (C := Try.checked) false ⟨#[], #[.int .u8 0, .int .u8 0, .int .u64 0, .int .u64 0], []⟩ 8 (by kernel_rfl) (by kernel_rfl) (by kernel_rfl) (by kernel_rfl)) ?_
  intro W base args ds gs before hval0 hW hcnd _
  have hval : ∀ (j : Nat) t v, Try.f5.params[j]? = some t → args[j]? = some v → Value.okWide Try.prog W .any base t v := hval0
  have hW' := hW
  obtain ⟨p, q, hA0, hV, rfl, hfz, hnd⟩ := hW
  have hA : DataW.TrodAll enc Try.prog W 0 (fun _ => true) true Try.f5.params.toList args.toList ds p := hA0
  rw [Try.params5] at hA hval
  obtain ⟨v0, vs0, d0, ds0, p0, q0, hargs, rfl, rfl, h0, r0⟩ := trodAll_cons hA
  obtain ⟨v1, vs1, d1, ds1, p1, q1, rfl, rfl, rfl, h1, r1⟩ := trodAll_cons r0
  obtain ⟨v2, vs2, d2, ds2, p2, q2, rfl, rfl, rfl, h2, r2⟩ := trodAll_cons r1
  obtain ⟨v3, vs3, d3, ds3, p3, q3, rfl, rfl, rfl, h3, r3⟩ := trodAll_cons r2
  obtain ⟨rfl, rfl, rfl⟩ := trodAll_nil r3
  obtain rfl : args = #[v0, v1, v2, v3] := by cases args; simp_all
  obtain ⟨rfl, rfl⟩ := trodVars_none hV
  obtain ⟨a0, rfl, rfl, rfl, w0⟩ := open_int Try.underlying5 (hval 0 5 v0 rfl rfl) h0
  obtain ⟨a1, rfl, rfl, rfl, w1⟩ := open_int Try.underlying5 (hval 1 5 v1 rfl rfl) h1
  obtain ⟨a2, rfl, rfl, rfl, w2⟩ := open_int Try.underlying22 (hval 2 22 v2 rfl rfl) h2
  obtain ⟨a3, rfl, rfl, rfl, w3⟩ := open_int Try.underlying22 (hval 3 22 v3 rfl rfl) h3
  clear hA0 hval0
  refine (orders_walk a0 a1 a2 a3 W (bounds_u8 w0) (bounds_u8 w1) (bounds_u64 w2) (bounds_u64 w3)).mono fun e W' ⟨he, bel⟩ => ?_
  subst he
  exact ⟨_, rfl, _, _, _, [], _, [], hW', trodAll_mk1 (shut_bool Try.underlying4 _), (trodAll_cons_mk (shut_int Try.underlying5 w0) (trodAll_cons_mk (shut_int Try.underlying5 w1) (trodAll_cons_mk (shut_int Try.underlying22 w2) (trodAll_cons_mk (shut_int Try.underlying22 w3) trodAll_mk0)))), rfl, bel.frame _, fun h => by cases h⟩

theorem orders_holds : Rows.TurnOrdersSaid :=
  OpenClaim.holds_of_wide 5 Try.f5 rfl rfl rfl rfl rfl rfl rfl ⟨rfl, rfl, rfl, rfl, rfl⟩ rfl rfl rfl rfl rfl (by kernel_rfl) Try.func5 (by kernel_rfl)
    (of_decide_eq_true (by kernel_rfl)) (by unfold Func.isWrapper; first | (rw [if_pos (by decide +kernel)]; kernel_rfl) | (rw [if_neg (by decide +kernel)]; exact ⟨rfl, rfl⟩))
    (fun os started H enc _ => orders_lifted os started H enc)
#print axioms orders_holds

end Go.Proofs.Ytddgakjcigefoaa
