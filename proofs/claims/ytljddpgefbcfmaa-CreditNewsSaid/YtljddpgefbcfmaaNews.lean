/-
  CreditNews: a limit that is told is more than all that were told ahead of it, and a window more than what was read. For every input; no condition.
-/
import Derived.Test.YtljddpgefbcfmaaScript
namespace Go.Proofs.Ytljddpgefbcfmaa
open Go.RowKit
set_option linter.unusedVariables false
set_option linter.unusedSimpArgs false


theorem news_walk (window : Int) (A : Option Addr) (len cap : Nat) (d n : Nat → Int) (w : World) (hf : 0 ≤ window) (hl : len ≤ 9223372036854775807) (hS : Script w A len d n) :
    Calls Try.prog 4 #[.int .u64 window, .slice A len cap] w fun e w' => e = .returned (.bool true) ∧ Below w.heap.size w w' := by
  go_enter Try.func4, Try.ntmps4
  go_wp2_with fail
  refine (awake_any _).mono ?_
  rintro e w1 ⟨rfl, hB1⟩
  go_wp2_with fail
  refine (newTill_any _ _).mono ?_
  rintro e w2 ⟨rfl, rfl⟩
  have hT := Til.new w1 window hf
  have hB := hB1.alloc hB1.size (.cells #[.int .u64 (mostI window), .int .u64 (mostI window), .int .u64 0, .int .u64 0] 58)
  obtain ⟨W, hW⟩ : ∃ W, W = w1.alloc (.cells #[.int .u64 (mostI window), .int .u64 (mostI window), .int .u64 0, .int .u64 0] 58) := ⟨_, rfl⟩
  rw [← hW] at hT hB ⊢
  clear hW
  have hg : w.heap.size ≤ w1.heap.size := hB1.size
  obtain ⟨g, hgg⟩ : ∃ g, g = w1.heap.size := ⟨_, rfl⟩
  rw [← hgg] at hT hg ⊢
  clear hgg hB1
  go_wp2_with fail
  refine (top_any _ _).mono ?_
  rintro e w3 ⟨rfl, rfl⟩
  go_wp2_with fail
  go_loopw [6, 25] (fun m i wr => ∃ (k : Nat) (lim came took : Int), k ≤ len ∧ i = .int .i64 k ∧ m = .int .u64 lim ∧ Til wr g (mostI window) lim came took ∧ Below w.heap.size w wr) (fun _ i _ => len - (intOf i).toNat)
  case atStart => exact ⟨0, _, _, _, Nat.zero_le _, rfl, rfl, hT, hB⟩
  case round =>
    obtain ⟨k, lim, came, took, hk, rfl, rfl, hT, hB⟩ := hrel
    by_cases hlt : k < len
    · obtain ⟨b, off, rfl, hb, c0, c1⟩ := hS.cells k hlt
      have k0 := (hB.cell (p := ⟨b, off + k * 2, none⟩) hb).trans c0
      have k1 := (hB.cell (p := ⟨b, off + k * 2 + 1, none⟩) hb).trans c1
      clear c0 c1
      have hd := hS.dom k hlt
      have hn := hS.num k hlt
      have hgl := hT.1.lt
      have hO := Blk.new wr 32 #[.int .u8 (d k), .int .u64 (n k)]
      have hTa := hT.alloc (.cells #[.int .u8 (d k), .int .u64 (n k)] 32)
      have hBa := hB.alloc hB.size (.cells #[.int .u8 (d k), .int .u64 (n k)] 32)
      obtain ⟨hp0, hp1, hp2, hp3, hp4, hp5⟩ := hT.2
      by_cases h40 : (40 : Int) ≤ (k : Int)
      · go_wp2_with fail
        refine (ttold_any g _ _ _ _ _ hTa).mono ?_
        rintro e w5 ⟨rfl, q, rfl⟩
        go_wp2_with fail
        go_ret
        exact ⟨by simp, below_drewN hBa _⟩
      · go_wp2_with fail
        refine (ttold_any g _ _ _ _ _ hTa).mono ?_
        rintro e w5 ⟨rfl, q, rfl⟩
        have h0 : 0 ≤ d k % 3 ∧ d k % 3 < 3 := by omega
        obtain ⟨r, hr⟩ : ∃ r, r = d k % 3 := ⟨_, rfl⟩
        have hr3 : r = 0 ∨ r = 1 ∨ r = 2 := by omega
        rcases hr3 with rfl | rfl | rfl
        · have HR := Lib.hid hr
          clear hr
          have he : (d k % 3 == 0) = true := by simp; exact HR.out.symm
          by_cases hx : lim < n k
          all_goals
            go_wp2_with fail
            refine (til_came_yes g _ _ _ _ _ _ (hTa.drewN _) (by omega) (by omega)).mono ?_
            rintro e w6 ⟨rfl, hT6, hg6⟩
            have hB6 := below_grown (below_drewN hBa _) hg6 hg
            go_wp2_with fail
            go_roundw
            case rel => exact ⟨k + 1, lim, _, took, by omega, by go_num, rfl, hT6, hB6⟩
            case measure => simp [intOf]; omega
        · have HR := Lib.hid hr
          clear hr
          have he0 : (d k % 3 == 0) = false := by have := HR.out; simp; omega
          have he : (d k % 3 == 1) = true := by simp; exact HR.out.symm
          by_cases hx : came - took < n k
          all_goals
            go_wp2_with fail
            refine (til_took_yes g _ _ _ _ _ _ (hTa.drewN _) (by omega) (by omega)).mono ?_
            rintro e w6 ⟨rfl, hT6, hg6⟩
            have hB6 := below_grown (below_drewN hBa _) hg6 hg
            go_wp2_with fail
            go_roundw
            case rel => exact ⟨k + 1, lim, came, _, by omega, by go_num, rfl, hT6, hB6⟩
            case measure => simp [intOf]; omega
        · have HR := Lib.hid hr
          clear hr
          have he0 : (d k % 3 == 0) = false := by have := HR.out; simp; omega
          have he : (d k % 3 == 1) = false := by have := HR.out; simp; omega
          have hm := mostI_nn (n := took + mostI window) (by omega)
          have hm1 := mostI_le (took + mostI window)
          by_cases hq : lim - took < max (mostI window / 2) 1
          · by_cases hx : lim < mostI (took + mostI window)
            · go_wp2_with fail
              refine (til_news_yes g _ _ _ _ _ (hTa.drewN _) hq hx).mono ?_
              rintro e w6 ⟨rfl, hT6, hg6⟩
              have hB6 := below_grown (below_drewN hBa _) hg6 hg
              go_wp2_with (go_at_call 10; refine (top_any _ _).mono ?_; rintro e w7 ⟨rfl, rfl⟩)
              go_roundw
              case rel => exact ⟨k + 1, _, came, took, by omega, by go_num, rfl, hT6, hB6⟩
              case measure => simp [intOf]; omega
            · go_wp2_with fail
              refine (til_news_no g _ _ _ _ _ (hTa.drewN _) hq (by omega)).mono ?_
              rintro e w6 ⟨rfl, q', rfl⟩
              go_wp2_with fail
              go_roundw
              case rel => exact ⟨k + 1, lim, came, took, by omega, by go_num, rfl, hTa.drewN _, below_drewN hBa _⟩
              case measure => simp [intOf]; omega
          · go_wp2_with fail
            refine (til_news_far g _ _ _ _ _ (hTa.drewN _) (by omega)).mono ?_
            rintro e w6 ⟨rfl, q', rfl⟩
            go_wp2_with fail
            go_roundw
            case rel => exact ⟨k + 1, lim, came, took, by omega, by go_num, rfl, hTa.drewN _, below_drewN hBa _⟩
            case measure => simp [intOf]; omega
    · go_wp2_with fail
      refine (ttold_any g _ _ _ _ _ hT).mono ?_
      rintro e w5 ⟨rfl, q, rfl⟩
      go_wp2_with fail
      go_ret
      exact ⟨by simp, below_drewN hB _⟩

open Go.ChangeShapes Go.WideShapes Go.ChangeAt
set_option maxRecDepth 100000 in
theorem news_lifted (os : Os) (started : os.Started) (H : Type) (enc : TypeId × Value → H) :
    ReturnsInHanded {} Try.checked os 4 .any (Rows.creditNewsSpec.pre6 enc Try.prog Try.f4 Rows.creditNewsRow.domain false) (Rows.creditNewsSpec.post enc Try.prog Try.f4 false true false false) := by
  refine returnsInHanded_of_change (C := Try.checked) own started (by kernel_rfl) Try.func4
    (ChangeSpec.witness6 (enc := enc) (C := Try.checked) false ⟨#[], #[.int .u64 0, .slice none 0 0], []⟩ 8 (by kernel_rfl) (by kernel_rfl) (by kernel_rfl) (by kernel_rfl)) ?_
  intro W base args ds gs before hval0 hW hcnd _
  have hval : ∀ (j : Nat) t v, Try.f4.params[j]? = some t → args[j]? = some v → Value.okWide Try.prog W .any base t v := hval0
  have hW' := hW
  obtain ⟨p, q, hA0, hV, rfl, hfz, hnd⟩ := hW
  have hA : DataW.TrodAll enc Try.prog W 0 (fun _ => true) true Try.f4.params.toList args.toList ds p := hA0
  rw [Try.params4] at hA hval
  obtain ⟨v0, vs0, d0, ds0, p0, q0, hargs, rfl, rfl, h0, r0⟩ := trodAll_cons hA
  obtain ⟨v1, vs1, d1, ds1, p1, q1, rfl, rfl, rfl, h1, r1⟩ := trodAll_cons r0
  obtain ⟨rfl, rfl, rfl⟩ := trodAll_nil r1
  obtain rfl : args = #[v0, v1] := by cases args; simp_all
  obtain ⟨rfl, rfl⟩ := trodVars_none hV
  obtain ⟨a0, rfl, rfl, rfl, w0⟩ := open_int Try.underlying22 (hval 0 22 v0 rfl rfl) h0
  obtain ⟨A1, len1, cap1, rfl⟩ := okWide_slice Try.underlying23 (hval 1 23 v1 rfl rfl)
  have k1 := h1
  have lt1 : ∀ x ∈ p1, x.block < W.heap.size := by obtain ⟨m, hm⟩ := k1; exact DataW.trod_lt m _ _ _ hm
  obtain ⟨hl1, d, n, hS⟩ := script_of h1
  clear hA0 hval0
  refine (news_walk a0 A1 len1 cap1 d n W (bounds_u64 w0).1 hl1 hS).mono fun e W' ⟨he, bel⟩ => ?_
  subst he
  exact ⟨_, rfl, _, _, _, [], _, [], hW', trodAll_mk1 (shut_bool Try.underlying4 _), (trodAll_cons_mk (shut_int Try.underlying22 w0) (trodAll_cons_mk (Below.trod laidOut (by kernel_rfl) (of_decide_eq_true (by kernel_rfl)) k1 bel lt1) trodAll_mk0)), rfl, bel.frame _, fun h => by cases h⟩

theorem news_holds : Rows.CreditNewsSaid :=
  OpenClaim.holds_of_wide 4 Try.f4 rfl rfl rfl rfl rfl rfl rfl ⟨rfl, rfl, rfl, rfl, rfl⟩ rfl rfl rfl rfl rfl (by kernel_rfl) Try.func4 (by kernel_rfl)
    (of_decide_eq_true (by kernel_rfl)) (by unfold Func.isWrapper; first | (rw [if_pos (by decide +kernel)]; kernel_rfl) | (rw [if_neg (by decide +kernel)]; exact ⟨rfl, rfl⟩))
    (fun os started H enc _ => news_lifted os started H enc)
#print axioms news_holds

end Go.Proofs.Ytljddpgefbcfmaa
