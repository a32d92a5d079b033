/-
  PaceBounds: whatever happens at least two packets may be under way, and less than nothing never is. For every input; no condition.
-/
import Derived.Test.YtlnenndlenckjaaPstep
namespace Go.Proofs.Ytlnenndlenckjaa
open Go.RowKit
set_option linter.unusedVariables false
set_option linter.unusedSimpArgs false


set_option maxHeartbeats 4000000 in
set_option maxRecDepth 100000 in
theorem bounds_walk (A : Option Addr) (N cap : Nat) (w : World) (hp : Ops w A N) (hnc : N ≤ cap) (hcm : cap ≤ maxLen) :
    Calls Try.prog 7 #[.slice A N cap] w fun e w' => e = .returned (.bool true) ∧ Below w.heap.size w w' := by
  have hcm' : cap ≤ 9223372036854775807 := by unfold maxLen at hcm; omega
  clear hcm
  have HP := Lib.hid hp
  clear hp
  go_enter Try.func7, Try.ntmps7
  go_wp2_with fail
  refine (awake_any _).mono ?_
  rintro e w1 ⟨rfl, hB⟩
  go_wp2_with fail
  refine (newMeter_any _).mono ?_
  rintro e w2 ⟨g, rfl, hm, hg, hb⟩
  have hg : w.heap.size ≤ g := Nat.le_trans hB.size hg
  have hB := hB.trans (hb.mono hB.size)
  clear hb
  go_wp2_with fail
  go_loopw [14] (fun i wr => ∃ (k : Nat) (m : Mt), k ≤ N ∧ i = .int .i64 k ∧ Mtr wr g m ∧ MtOk m ∧ Below w.heap.size w wr) (fun i _ => N - (intOf i).toNat)
  case atStart => exact ⟨0, mt0, Nat.zero_le _, rfl, hm, mt0_ok, hB⟩
  case round =>
    clear hB hm
    obtain ⟨k, m, hkn, rfl, hm, hmo, hB⟩ := hrel
    by_cases hlt : k < N
    · obtain ⟨b, off, o, rfl, hb, ho, c0, c1, c2, c3⟩ := HP.out.below hB k hlt
      obtain ⟨d, n, sent, now⟩ := o
      obtain ⟨hd, hn, hs, hw⟩ := ho
      simp only at hd hn hs hw c0 c1 c2 c3
      have hB2 := hB.alloc hB.size (.cells #[.int .u8 d, .int .i64 n, .int .u64 sent, .int .u64 now] 53)
      have hm2 : Mtr (wr.alloc (.cells #[.int .u8 d, .int .i64 n, .int .u64 sent, .int .u64 now] 53)) g m := Blk.alloc hm _
      by_cases h60 : 60 ≤ k
      · have h60' : (60 : Int) ≤ (k : Int) := by omega
        go_wp2_with fail
        go_ret
        exact ⟨rfl, hB2⟩
      · have h60' : (k : Int) < (60 : Int) := by omega
        have hd4 : d % 4 = 0 ∨ d % 4 = 1 ∨ d % 4 = 2 ∨ d % 4 = 3 := by omega
        rcases hd4 with hd4 | hd4 | hd4 | hd4
        · have o1 : (wr.alloc (.cells #[.int .u8 d, .int .i64 n, .int .u64 sent, .int .u64 now] 53)).cell? ⟨wr.heap.size, 1, none⟩ = some (.int .i64 n) := (Blk.new wr 53 #[.int .u8 d, .int .i64 n, .int .u64 sent, .int .u64 now]).cell 1
          obtain ⟨R0, hR0⟩ : ∃ R0, R0 = (if m.may - m.away < 0 then 0 else m.may - m.away) := ⟨_, rfl⟩
          have hR1 : 0 ≤ R0 ∧ R0 ≤ 1073741824 := by rw [hR0]; have h1 := hmo.m1; have h2 := hmo.a0; have h3 := hmo.m0; split <;> omega
          have hro : ∀ W, Mtr W g m → Calls Try.prog 25 #[.pointer (some ⟨g, 0, none⟩)] W fun e w' => e = .returned (.int .i64 R0) ∧ ∃ n, W.drewN n = w' := fun W hW => by obtain ⟨may, lim, away, since, rc⟩ := m; rw [hR0]; exact room_any g may lim away since rc W hW hmo
          obtain ⟨n', hn'⟩ : ∃ n', (if R0 < n then R0 else n) = n' := ⟨_, rfl⟩
          clear hR0
          have hO : Blk (wr.alloc (.cells #[.int .u8 d, .int .i64 n, .int .u64 sent, .int .u64 now] 53)) wr.heap.size 53 #[.int .u8 d, .int .i64 n, .int .u64 sent, .int .u64 now] := Blk.new _ _ _
          have hgl : g < wr.heap.size := Blk.lt hm
          have HN := Lib.hid hn'
          go_wp2_with fail
          clear c0 c1 c2 c3
          go_region_held3 (fun w' => w'.cell? ⟨wr.heap.size, 1, none⟩ = some (.int .i64 n)) (first | exact o1 | exact o14)
            (first
              | (go_at_call 25; (refine (hro _ (by exact hm2)).mono ?_); rintro e wT ⟨rfl, nT, rfl⟩)
              | (go_at_call 18; (refine (send_step g m n' sent now _ (by exact hm2) hmo).mono ?_); rintro e w4 ⟨rfl, hm4, hg4⟩; have hO4 : Blk w4 wr.heap.size 53 #[.int .u8 d, .int .i64 n, .int .u64 sent, .int .u64 now] := (by refine Blk.grown ?_ hg4 ?_; exact hO; (simp; omega)); have o14 : w4.cell? ⟨wr.heap.size, 1, none⟩ = some (.int .i64 n) := hO4.cell 1; have hB4 : Below w.heap.size w w4 := (by refine Below.grown ?_ hg4 hB2.size (fun b hb => by injection hb with hb; omega); exact ⟨hB2.os, hB2.tape, hB2.output, hB2.size, hB2.block⟩)))
          all_goals
            clear hm2 o1 o14 hO hO4 hro hn'
            have hmo4 := stepM_ok 0 m hmo n' sent now hw.1
            clear hg4 hm hmo
            obtain ⟨m5, hm5e⟩ : ∃ m5, m5 = stepM 0 m n' sent now := ⟨_, rfl⟩
            rw [← hm5e] at hm4 hmo4
            clear hm5e
            obtain ⟨may, lim, away, since, rc⟩ := m5
            have hmo6 := hmo4
            obtain ⟨k0, k1, k2, k3, k4, k5⟩ := hmo4
            simp only at k0 k1 k2 k3 k4 k5
            have hR : 0 ≤ (if may - away < 0 then 0 else may - away) ∧ (if may - away < 0 then 0 else may - away) ≤ may := by split <;> omega
            go_wp2_with fail
            refine (mtold_any g may lim away since rc _ hm4).mono ?_
            rintro e w6 ⟨rfl, n6, rfl⟩
            have hm6 : Mtr (w4.drewN n6) g ⟨may, lim, away, since, rc⟩ := hm4
            have hB6 := below_drewN hB4 n6
            generalize w4.drewN n6 = w7 at *
            clear hm4 hB4
            go_wp2_with fail
            refine (room_any g may lim away since rc _ hm6 hmo6).mono ?_
            rintro e w8 ⟨rfl, n8, rfl⟩
            have hm8 : Mtr (w7.drewN n8) g ⟨may, lim, away, since, rc⟩ := hm6
            have hB8 := below_drewN hB6 n8
            generalize w7.drewN n8 = w9 at *
            clear hm6 hB6
            obtain ⟨R, hRe⟩ : ∃ R, R = (if may - away < 0 then 0 else may - away) := ⟨_, rfl⟩
            rw [← hRe] at hR ⊢
            have HR := Lib.hid hRe
            clear hRe
            go_wp2_with fail
            refine (room_any g may lim away since rc _ hm8 hmo6).mono ?_
            rintro e w10 ⟨rfl, n10, rfl⟩
            rw [← HR.out]
            go_wp2_with fail
            go_roundw
            case rel => exact ⟨k + 1, _, by omega, by go_num, hm8, hmo6, below_drewN hB8 n10⟩
            case measure => simp [intOf]; omega
        · go_wp2_with fail
          refine (acked_step g m n sent now _ hm2 hmo).mono ?_
          rintro e w4 ⟨rfl, hm4, hg4⟩
          clear c0 c1 c2 c3 hm2
          have hB4 := hB2.grown hg4 hB2.size (fun b hb => by injection hb with hb; omega)
          have hmo4 := stepM_ok 1 m hmo n sent now hw.1
          clear hg4 hm hmo
          obtain ⟨m5, hm5e⟩ : ∃ m5, m5 = stepM 1 m n sent now := ⟨_, rfl⟩
          rw [← hm5e] at hm4 hmo4
          clear hm5e
          obtain ⟨may, lim, away, since, rc⟩ := m5
          have hmo6 := hmo4
          obtain ⟨k0, k1, k2, k3, k4, k5⟩ := hmo4
          simp only at k0 k1 k2 k3 k4 k5
          have hR : 0 ≤ (if may - away < 0 then 0 else may - away) ∧ (if may - away < 0 then 0 else may - away) ≤ may := by split <;> omega
          go_wp2_with fail
          refine (mtold_any g may lim away since rc _ hm4).mono ?_
          rintro e w6 ⟨rfl, n6, rfl⟩
          have hm6 : Mtr (w4.drewN n6) g ⟨may, lim, away, since, rc⟩ := hm4
          have hB6 := below_drewN hB4 n6
          generalize w4.drewN n6 = w7 at *
          clear hm4 hB4
          go_wp2_with fail
          refine (room_any g may lim away since rc _ hm6 hmo6).mono ?_
          rintro e w8 ⟨rfl, n8, rfl⟩
          have hm8 : Mtr (w7.drewN n8) g ⟨may, lim, away, since, rc⟩ := hm6
          have hB8 := below_drewN hB6 n8
          generalize w7.drewN n8 = w9 at *
          clear hm6 hB6
          obtain ⟨R, hRe⟩ : ∃ R, R = (if may - away < 0 then 0 else may - away) := ⟨_, rfl⟩
          rw [← hRe] at hR ⊢
          have HR := Lib.hid hRe
          clear hRe
          go_wp2_with fail
          refine (room_any g may lim away since rc _ hm8 hmo6).mono ?_
          rintro e w10 ⟨rfl, n10, rfl⟩
          rw [← HR.out]
          go_wp2_with fail
          go_roundw
          case rel => exact ⟨k + 1, _, by omega, by go_num, hm8, hmo6, below_drewN hB8 n10⟩
          case measure => simp [intOf]; omega
        · go_wp2_with fail
          refine (mlost_step g m n sent now _ hm2 hmo).mono ?_
          rintro e w4 ⟨rfl, hm4, hg4⟩
          clear c0 c1 c2 c3 hm2
          have hB4 := hB2.grown hg4 hB2.size (fun b hb => by injection hb with hb; omega)
          have hmo4 := stepM_ok 2 m hmo n sent now hw.1
          clear hg4 hm hmo
          obtain ⟨m5, hm5e⟩ : ∃ m5, m5 = stepM 2 m n sent now := ⟨_, rfl⟩
          rw [← hm5e] at hm4 hmo4
          clear hm5e
          obtain ⟨may, lim, away, since, rc⟩ := m5
          have hmo6 := hmo4
          obtain ⟨k0, k1, k2, k3, k4, k5⟩ := hmo4
          simp only at k0 k1 k2 k3 k4 k5
          have hR : 0 ≤ (if may - away < 0 then 0 else may - away) ∧ (if may - away < 0 then 0 else may - away) ≤ may := by split <;> omega
          go_wp2_with fail
          refine (mtold_any g may lim away since rc _ hm4).mono ?_
          rintro e w6 ⟨rfl, n6, rfl⟩
          have hm6 : Mtr (w4.drewN n6) g ⟨may, lim, away, since, rc⟩ := hm4
          have hB6 := below_drewN hB4 n6
          generalize w4.drewN n6 = w7 at *
          clear hm4 hB4
          go_wp2_with fail
          refine (room_any g may lim away since rc _ hm6 hmo6).mono ?_
          rintro e w8 ⟨rfl, n8, rfl⟩
          have hm8 : Mtr (w7.drewN n8) g ⟨may, lim, away, since, rc⟩ := hm6
          have hB8 := below_drewN hB6 n8
          generalize w7.drewN n8 = w9 at *
          clear hm6 hB6
          obtain ⟨R, hRe⟩ : ∃ R, R = (if may - away < 0 then 0 else may - away) := ⟨_, rfl⟩
          rw [← hRe] at hR ⊢
          have HR := Lib.hid hRe
          clear hRe
          go_wp2_with fail
          refine (room_any g may lim away since rc _ hm8 hmo6).mono ?_
          rintro e w10 ⟨rfl, n10, rfl⟩
          rw [← HR.out]
          go_wp2_with fail
          go_roundw
          case rel => exact ⟨k + 1, _, by omega, by go_num, hm8, hmo6, below_drewN hB8 n10⟩
          case measure => simp [intOf]; omega
        · go_wp2_with fail
          refine (gone_step g m n sent now _ hm2 hmo).mono ?_
          rintro e w4 ⟨rfl, hm4, hg4⟩
          clear c0 c1 c2 c3 hm2
          have hB4 := hB2.grown hg4 hB2.size (fun b hb => by injection hb with hb; omega)
          have hmo4 := stepM_ok 3 m hmo n sent now hw.1
          clear hg4 hm hmo
          obtain ⟨m5, hm5e⟩ : ∃ m5, m5 = stepM 3 m n sent now := ⟨_, rfl⟩
          rw [← hm5e] at hm4 hmo4
          clear hm5e
          obtain ⟨may, lim, away, since, rc⟩ := m5
          have hmo6 := hmo4
          obtain ⟨k0, k1, k2, k3, k4, k5⟩ := hmo4
          simp only at k0 k1 k2 k3 k4 k5
          have hR : 0 ≤ (if may - away < 0 then 0 else may - away) ∧ (if may - away < 0 then 0 else may - away) ≤ may := by split <;> omega
          go_wp2_with fail
          refine (mtold_any g may lim away since rc _ hm4).mono ?_
          rintro e w6 ⟨rfl, n6, rfl⟩
          have hm6 : Mtr (w4.drewN n6) g ⟨may, lim, away, since, rc⟩ := hm4
          have hB6 := below_drewN hB4 n6
          generalize w4.drewN n6 = w7 at *
          clear hm4 hB4
          go_wp2_with fail
          refine (room_any g may lim away since rc _ hm6 hmo6).mono ?_
          rintro e w8 ⟨rfl, n8, rfl⟩
          have hm8 : Mtr (w7.drewN n8) g ⟨may, lim, away, since, rc⟩ := hm6
          have hB8 := below_drewN hB6 n8
          generalize w7.drewN n8 = w9 at *
          clear hm6 hB6
          obtain ⟨R, hRe⟩ : ∃ R, R = (if may - away < 0 then 0 else may - away) := ⟨_, rfl⟩
          rw [← hRe] at hR ⊢
          have HR := Lib.hid hRe
          clear hRe
          go_wp2_with fail
          refine (room_any g may lim away since rc _ hm8 hmo6).mono ?_
          rintro e w10 ⟨rfl, n10, rfl⟩
          rw [← HR.out]
          go_wp2_with fail
          go_roundw
          case rel => exact ⟨k + 1, _, by omega, by go_num, hm8, hmo6, below_drewN hB8 n10⟩
          case measure => simp [intOf]; omega
    · go_wp2_with fail
      go_ret
      exact ⟨rfl, hB⟩

open Go.ChangeShapes Go.WideShapes Go.ChangeAt
set_option maxRecDepth 100000 in
theorem bounds_lifted (os : Os) (started : os.Started) (H : Type) (enc : TypeId × Value → H) :
    ReturnsInHanded {} Try.checked os 7 .any (Rows.paceBoundsSpec.pre6 enc Try.prog Try.f7 Rows.paceBoundsRow.domain false) (Rows.paceBoundsSpec.post enc Try.prog Try.f7 false true false false) := by
  refine returnsInHanded_of_change (C := Try.checked) own started (by kernel_rfl) Try.func7
    (ChangeSpec.witness6 (enc := enc) (C := Try.checked) false ⟨#[], #[.slice none 0 0], []⟩ 8 (by kernel_rfl) (by kernel_rfl) (by kernel_rfl) (by kernel_rfl)) ?_
  intro W base args ds gs before hval0 hW hcnd _
  have hval : ∀ (j : Nat) t v, Try.f7.params[j]? = some t → args[j]? = some v → Value.okWide Try.prog W .any base t v := hval0
  have hW' := hW
  obtain ⟨p, q, hA0, hV, rfl, hfz, hnd⟩ := hW
  have hA : DataW.TrodAll enc Try.prog W 0 (fun _ => true) true Try.f7.params.toList args.toList ds p := hA0
  rw [Try.params7] at hA hval
  obtain ⟨v0, vs0, d0, ds0, p0, q0, hargs, rfl, rfl, h0, r0⟩ := trodAll_cons hA
  obtain ⟨rfl, rfl, rfl⟩ := trodAll_nil r0
  obtain rfl : args = #[v0] := by cases args; simp_all
  obtain ⟨rfl, rfl⟩ := trodVars_none hV
  obtain ⟨A0, len0, cap0, rfl⟩ := okWide_slice Try.underlying49 (hval 0 49 v0 rfl rfl)
  have k0 := h0
  have lt0 : ∀ x ∈ p0, x.block < W.heap.size := by obtain ⟨m, hm⟩ := k0; exact DataW.trod_lt m _ _ _ hm
  obtain ⟨n0, c0, hR0⟩ := ops_of h0
  clear hA0 hval0
  refine (bounds_walk _ _ _ W hR0 n0 c0).mono fun e W' ⟨he, bel⟩ => ?_
  subst he
  exact ⟨_, rfl, _, _, _, [], _, [], hW', trodAll_mk1 (shut_bool Try.underlying4 _), (trodAll_cons_mk (Below.trod laidOut (by kernel_rfl) (of_decide_eq_true (by kernel_rfl)) k0 bel lt0) trodAll_mk0), rfl, bel.frame _, fun h => by cases h⟩

theorem bounds_holds : Rows.PaceBoundsSaid :=
  OpenClaim.holds_of_wide 7 Try.f7 rfl rfl rfl rfl rfl rfl rfl ⟨rfl, rfl, rfl, rfl, rfl⟩ rfl rfl rfl rfl rfl (by kernel_rfl) Try.func7 (by kernel_rfl)
    (of_decide_eq_true (by kernel_rfl)) (by unfold Func.isWrapper; first | (rw [if_pos (by decide +kernel)]; kernel_rfl) | (rw [if_neg (by decide +kernel)]; exact ⟨rfl, rfl⟩))
    (fun os started H enc _ => bounds_lifted os started H enc)
#print axioms bounds_holds

end Go.Proofs.Ytlnenndlenckjaa
