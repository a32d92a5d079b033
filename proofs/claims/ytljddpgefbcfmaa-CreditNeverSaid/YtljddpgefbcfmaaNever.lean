/-
  CreditNever: whatever is granted and spent, no more is ever spent than the greatest grant. For every input; no condition.
-/
import Derived.Test.YtljddpgefbcfmaaScript
namespace Go.Proofs.Ytljddpgefbcfmaa
open Go.RowKit
set_option linter.unusedVariables false
set_option linter.unusedSimpArgs false

theorem never_walk (first : Int) (A : Option Addr) (len cap : Nat) (d n : Nat → Int) (w : World) (hf : 0 ≤ first) (hl : len ≤ 9223372036854775807) (hS : Script w A len d n) :
    Calls Try.prog 5 #[.int .u64 first, .slice A len cap] w fun e w' => e = .returned (.bool true) ∧ Below w.heap.size w w' := by
  go_enter Try.func5, Try.ntmps5
  go_wp2_with fail
  refine (awake_any _).mono ?_
  rintro e w1 ⟨rfl, hB1⟩
  go_wp2_with fail
  refine (newPurse_any _ _).mono ?_
  rintro e w2 ⟨rfl, rfl⟩
  have hP := Pur.new w1 first hf
  have hB := hB1.alloc hB1.size (.cells #[.int .u64 (mostI first), .int .u64 0] 60)
  obtain ⟨W, hW⟩ : ∃ W, W = w1.alloc (.cells #[.int .u64 (mostI first), .int .u64 0] 60) := ⟨_, rfl⟩
  rw [← hW] at hP hB ⊢
  clear hW
  have hg : w.heap.size ≤ w1.heap.size := hB1.size
  obtain ⟨g, hgg⟩ : ∃ g, g = w1.heap.size := ⟨_, rfl⟩
  rw [← hgg] at hP hg ⊢
  clear hgg hB1
  go_wp2_with fail
  refine (top_any _ _).mono ?_
  rintro e w3 ⟨rfl, rfl⟩
  go_wp2_with fail
  go_loopw [6, 7, 18] (fun m s i wr => ∃ (k : Nat) (l sp : Int), k ≤ len ∧ i = .int .i64 k ∧ m = .int .u64 l ∧ s = .int .u64 sp ∧ Pur wr g l sp ∧ Below w.heap.size w wr) (fun _ _ i _ => len - (intOf i).toNat)
  case atStart => exact ⟨0, _, _, Nat.zero_le _, rfl, rfl, rfl, hP, hB⟩
  case round =>
    obtain ⟨k, l, sp, hk, rfl, rfl, rfl, hP, hB⟩ := hrel
    by_cases hlt : k < len
    · obtain ⟨b, off, rfl, hb, c0, c1⟩ := hS.cells k hlt
      have k0 := (hB.cell (p := ⟨b, off + k * 2, none⟩) hb).trans c0
      have k1 := (hB.cell (p := ⟨b, off + k * 2 + 1, none⟩) hb).trans c1
      clear c0 c1
      have hd := hS.dom k hlt
      have hn := hS.num k hlt
      have hgl := hP.1.lt
      have hO := Blk.new wr 32 #[.int .u8 (d k), .int .u64 (n k)]
      have hPa := hP.alloc (.cells #[.int .u8 (d k), .int .u64 (n k)] 32)
      have hBa := hB.alloc hB.size (.cells #[.int .u8 (d k), .int .u64 (n k)] 32)
      have hml := mostI_le (n k)
      obtain ⟨hp0, hp1, hp2⟩ := hP.2
      by_cases h40 : (40 : Int) ≤ (k : Int)
      · go_wp2
        go_ret
        exact ⟨rfl, hBa⟩
      · by_cases he : d k % 2 = 0
        · obtain ⟨X, hX⟩ : ∃ X, X = max l (mostI (n k)) := ⟨_, rfl⟩
          have hXs : (l < mostI (n k) ∧ mostI (n k) = X) ∨ (mostI (n k) ≤ l ∧ l = X) := by omega
          have HX := Lib.hid hX
          clear hX
          rcases hXs with ⟨hx, rfl⟩ | ⟨hx, rfl⟩
          all_goals
            go_wp2_with fail
            refine (grant_any g l sp (n k) _ hPa).mono ?_
            rintro e w3 ⟨rfl, hP3, hg3⟩
            rw [← HX.out] at hP3
            have kN : w3.cell? ⟨wr.heap.size, 1, none⟩ = some (.int .u64 (n k)) := (hO.grown hg3 (by simp; omega)).cell 1
            have hB3 := below_grown hBa hg3 hg
            go_wp2_with fail
            refine (top_any _ _).mono ?_
            rintro e w4 ⟨rfl, rfl⟩
            go_wp2_with fail
            refine (left_any g _ _ _ hP3).mono ?_
            rintro e w5 ⟨rfl, q, rfl⟩
            go_wp2_with fail
            go_roundw
            case rel => exact ⟨k + 1, _, _, by omega, by go_num, rfl, rfl, hP3.drewN _, below_drewN hB3 _⟩
            case measure => simp [intOf]; omega
        · by_cases hx : n k ≤ l - sp
          · go_wp2_with fail
            refine (spend_yes g l sp (n k) _ hPa (by omega) hx).mono ?_
            rintro e w3 ⟨rfl, hP3, hg3⟩
            have kN : w3.cell? ⟨wr.heap.size, 1, none⟩ = some (.int .u64 (n k)) := (hO.grown hg3 (by simp; omega)).cell 1
            have hB3 := below_grown hBa hg3 hg
            go_wp2_with fail
            refine (left_any g _ _ _ hP3).mono ?_
            rintro e w5 ⟨rfl, q, rfl⟩
            go_wp2_with fail
            go_roundw
            case rel => exact ⟨k + 1, _, _, by omega, by go_num, rfl, rfl, hP3.drewN _, below_drewN hB3 _⟩
            case measure => simp [intOf]; omega
          · go_wp2_with fail
            refine (spend_no g l sp (n k) _ hPa (by omega)).mono ?_
            rintro e w3 ⟨rfl, q, rfl⟩
            go_wp2_with fail
            refine (left_any g _ _ _ (hPa.drewN _)).mono ?_
            rintro e w5 ⟨rfl, q', rfl⟩
            go_wp2_with fail
            go_roundw
            case rel => exact ⟨k + 1, _, _, by omega, by go_num, rfl, rfl, hPa.drewN _, below_drewN hBa _⟩
            case measure => simp [intOf]; omega
    · go_wp2
      go_ret
      exact ⟨rfl, hB⟩

open Go.ChangeShapes Go.WideShapes Go.ChangeAt
set_option maxRecDepth 100000 in
theorem never_lifted (os : Os) (started : os.Started) (H : Type) (enc : TypeId × Value → H) :
    ReturnsInHanded {} Try.checked os 5 .any (Rows.creditNeverSpec.pre6 enc Try.prog Try.f5 Rows.creditNeverRow.domain false) (Rows.creditNeverSpec.post enc Try.prog Try.f5 false true false false) := by
  refine returnsInHanded_of_change (C := Try.checked) own started (by kernel_rfl) Try.func5
    (ChangeSpec.witness6 (enc := enc) (C := Try.checked) false ⟨#[], #[.int .u64 0, .slice none 0 0], []⟩ 8 (by kernel_rfl) (by kernel_rfl) (by kernel_rfl) (by kernel_rfl)) ?_
  intro W base args ds gs before hval0 hW hcnd _
  have hval : ∀ (j : Nat) t v, Try.f5.params[j]? = some t → args[j]? = some v → Value.okWide Try.prog W .any base t v := hval0
  have hW' := hW
  obtain ⟨p, q, hA0, hV, rfl, hfz, hnd⟩ := hW
  have hA : DataW.TrodAll enc Try.prog W 0 (fun _ => true) true Try.f5.params.toList args.toList ds p := hA0
  rw [Try.params5] at hA hval
  obtain ⟨v0, vs0, d0, ds0, p0, q0, hargs, rfl, rfl, h0, r0⟩ := trodAll_cons hA
  obtain ⟨v1, vs1, d1, ds1, p1, q1, rfl, rfl, rfl, h1, r1⟩ := trodAll_cons r0
  obtain ⟨rfl, rfl, rfl⟩ := trodAll_nil r1
  obtain rfl : args = #[v0, v1] := by cases args; simp_all
  obtain ⟨rfl, rfl⟩ := trodVars_none hV
  obtain ⟨a0, rfl, rfl, rfl, w0⟩ := open_int Try.underlying22 (hval 0 22 v0 rfl rfl) h0
  obtain ⟨A1, len1, cap1, rfl⟩ := okWide_slice Try.underlying23 (hval 1 23 v1 rfl rfl)
  have k1 := h1
  have lt1 : ∀ x ∈ p1, x.block < W.heap.size := by obtain ⟨m, hm⟩ := k1; exact DataW.trod_lt m _ _ _ hm
  obtain ⟨hl1, d, n, hS⟩ := script_of h1
  clear hA0 hval0
  refine (never_walk a0 A1 len1 cap1 d n W (bounds_u64 w0).1 hl1 hS).mono fun e W' ⟨he, bel⟩ => ?_
  subst he
  exact ⟨_, rfl, _, _, _, [], _, [], hW', trodAll_mk1 (shut_bool Try.underlying4 _), (trodAll_cons_mk (shut_int Try.underlying22 w0) (trodAll_cons_mk (Below.trod laidOut (by kernel_rfl) (of_decide_eq_true (by kernel_rfl)) k1 bel lt1) trodAll_mk0)), rfl, bel.frame _, fun h => by cases h⟩

theorem never_holds : Rows.CreditNeverSaid :=
  OpenClaim.holds_of_wide 5 Try.f5 rfl rfl rfl rfl rfl rfl rfl ⟨rfl, rfl, rfl, rfl, rfl⟩ rfl rfl rfl rfl rfl (by kernel_rfl) Try.func5 (by kernel_rfl)
    (of_decide_eq_true (by kernel_rfl)) (by unfold Func.isWrapper; first | (rw [if_pos (by decide +kernel)]; kernel_rfl) | (rw [if_neg (by decide +kernel)]; exact ⟨rfl, rfl⟩))
    (fun os started H enc _ => never_lifted os started H enc)
#print axioms never_holds
end Go.Proofs.Ytljddpgefbcfmaa
