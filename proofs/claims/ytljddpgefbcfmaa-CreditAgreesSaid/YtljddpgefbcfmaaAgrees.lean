/-
  CreditAgrees: who spends what was told is never refused; once all was read and told there is a window to spend. For every input; no condition.
-/
import Derived.Test.YtljddpgefbcfmaaScript
namespace Go.Proofs.Ytljddpgefbcfmaa
open Go.RowKit
set_option linter.unusedVariables false
set_option linter.unusedSimpArgs false

def agB (k : Nat) : Int := 65536 * ((k : Int) + 1)
theorem agB_zero : agB 0 = 65536 := by decide
theorem agB_succ (k : Nat) : agB (k + 1) = agB k + 65536 := by unfold agB; omega
theorem agB_le (k : Nat) (h : k ≤ 60) : agB k ≤ 4000000 := by unfold agB; omega

set_option maxHeartbeats 4000000 in
set_option maxRecDepth 100000 in
theorem agrees_walk (window : Int) (A : Option Addr) (len cap : Nat) (d n : Nat → Int) (w : World) (hf : 0 ≤ window ∧ window ≤ 65535) (hl : len ≤ 9223372036854775807) (hS : Script w A len d n) :
    Calls Try.prog 7 #[.int .u16 window, .slice A len cap] w fun e w' => e = .returned (.bool true) ∧ Below w.heap.size w w' := by
  have HM : Hid (∀ x : Int, x ≤ 4611686018427387903 → mostI x = x) := fun x hx => by unfold mostI; omega
  go_enter Try.func7, Try.ntmps7
  go_wp2_with fail
  refine (awake_any _).mono ?_
  rintro e w1 ⟨rfl, hB1⟩
  go_wp2_with fail
  refine (newTill_any _ _).mono ?_
  rintro e w2 ⟨rfl, rfl⟩
  go_wp2_with fail
  refine (newPurse_any _ _).mono ?_
  rintro e w3 ⟨rfl, rfl⟩
  rw [HM.out (1 + window) (by omega)]
  have hT := Til.new w1 (1 + window) (by omega)
  rw [HM.out (1 + window) (by omega)] at hT
  have hT2 := hT.alloc (.cells #[.int .u64 (1 + window), .int .u64 0] 60)
  have hP := Pur.new (w1.alloc (.cells #[.int .u64 (1 + window), .int .u64 (1 + window), .int .u64 0, .int .u64 0] 58)) (1 + window) (by omega)
  rw [HM.out (1 + window) (by omega)] at hP
  have hB := (hB1.alloc hB1.size (.cells #[.int .u64 (1 + window), .int .u64 (1 + window), .int .u64 0, .int .u64 0] 58))
  have hB2 := hB.alloc hB.size (.cells #[.int .u64 (1 + window), .int .u64 0] 60)
  have hsz := hB1.size
  simp only [World.size_alloc] at hP
  obtain ⟨W, hW⟩ : ∃ W, W = (w1.alloc (.cells #[.int .u64 (1 + window), .int .u64 (1 + window), .int .u64 0, .int .u64 0] 58)).alloc (.cells #[.int .u64 (1 + window), .int .u64 0] 60) := ⟨_, rfl⟩
  rw [← hW] at hP hT2 hB2 ⊢
  clear hW hT hB hB1
  obtain ⟨win, hwin⟩ : ∃ win, win = 1 + window := ⟨_, rfl⟩
  rw [← hwin] at hT2 hP ⊢
  have hw1 : 1 ≤ win ∧ win ≤ 65536 := by omega
  clear hwin
  obtain ⟨gt, hgt0⟩ : ∃ gt, gt = w1.heap.size := ⟨_, rfl⟩
  obtain ⟨gp, hgp0⟩ : ∃ gp, gp = w1.heap.size + 1 := ⟨_, rfl⟩
  rw [World.size_alloc]
  rw [← hgp0] at hP ⊢
  rw [← hgt0] at hT2 ⊢
  have hgt : w.heap.size ≤ gt := by omega
  have hgp : w.heap.size ≤ gp := by omega
  have hneq : gt ≠ gp := by omega
  have hne : some gp ≠ some gt := by simp; omega
  have hne' : some gt ≠ some gp := by simp; omega
  clear hgt0 hgp0 hsz
  go_wp2_with fail
  go_loopw [8, 36] (fun m i wr => ∃ (k : Nat) (l s lim took : Int), k ≤ len ∧ k ≤ 60 ∧ i = .int .i64 k ∧ m = .int .u64 lim ∧ l ≤ lim ∧ lim ≤ agB k ∧ Pur wr gp l s ∧ Til wr gt win lim s took ∧ Below w.heap.size w wr) (fun _ i _ => len - (intOf i).toNat)
  case atStart => exact ⟨0, _, _, _, _, Nat.zero_le _, by omega, rfl, rfl, by omega, by rw [agB_zero]; omega, hP, hT2, hB2⟩
  case round =>
    obtain ⟨k, l, s, lim, took, hk, hk60, rfl, rfl, hll, hlb, hP, hT, hB⟩ := hrel
    obtain ⟨hp0, hp1, hp2⟩ := hP.2
    have hbk := agB_le k hk60
    obtain ⟨hq0, hq1, hq2, hq3, hq4, hq5⟩ := hT.2
    by_cases hlt : k < len
    · obtain ⟨b, off, rfl, hb, c0, c1⟩ := hS.cells k hlt
      have k0 := (hB.cell (p := ⟨b, off + k * 2, none⟩) hb).trans c0
      have k1 := (hB.cell (p := ⟨b, off + k * 2 + 1, none⟩) hb).trans c1
      clear c0 c1
      have hd := hS.dom k hlt
      have hn := hS.num k hlt
      have hgl := hT.1.lt
      have hgl2 := hP.1.lt
      have hO := Blk.new wr 32 #[.int .u8 (d k), .int .u64 (n k)]
      have hTa := hT.alloc (.cells #[.int .u8 (d k), .int .u64 (n k)] 32)
      have hPa := hP.alloc (.cells #[.int .u8 (d k), .int .u64 (n k)] 32)
      have hBa := hB.alloc hB.size (.cells #[.int .u8 (d k), .int .u64 (n k)] 32)
      by_cases h60 : (60 : Int) ≤ (k : Int)
      · go_wp2_with fail
        refine (ttold_any gt _ _ _ _ _ (hTa)).mono ?_
        rintro e w5 ⟨rfl, q5, rfl⟩
        go_wp2_with fail
        refine (til_took_yes gt _ _ _ _ _ _ ((hTa).drewN _) (by omega) (by omega)).mono ?_
        rintro e w6 ⟨rfl, hT6, hg6⟩
        rw [show took + (s - took) = s by omega] at hT6
        have hP6 := ((hPa).drewN q5).grown hg6 hne
        have hB6 := below_grown (below_drewN (hBa) q5) hg6 hgt
        by_cases hq : lim - s < max (win / 2) 1
        · have hx : lim < mostI (s + win) := by rw [HM.out _ (by omega)]; omega
          go_wp2_with fail
          refine (til_news_yes gt _ _ _ _ _ hT6 hq hx).mono ?_
          rintro e w7 ⟨rfl, hT7, hg7⟩
          have hP7 := hP6.grown hg7 hne
          have hB7 := below_grown hB6 hg7 hgt
          rw [HM.out (s + win) (by omega)] at hT7 ⊢
          go_wp2_with fail
          refine (grant_any gp _ _ _ _ hP7).mono ?_
          rintro e w8 ⟨rfl, hP8, hg8⟩
          rw [HM.out (s + win) (by omega), show max l (s + win) = s + win by omega] at hP8
          have hB8 := below_grown hB7 hg8 hgp
          have hfin1 : win / 2 ≤ s + win - s := by omega
          by_cases h6 : win / 2 < 1
          all_goals
            go_wp2_with fail
            refine (left_any gp _ _ _ hP8).mono ?_
            rintro e w9 ⟨rfl, q9, rfl⟩
            go_wp2_with fail
            go_ret
            exact ⟨by first | (simp; done) | (simp; omega), below_drewN hB8 _⟩
        · go_wp2_with fail
          refine (til_news_far gt _ _ _ _ _ hT6 (by omega)).mono ?_
          rintro e w7 ⟨rfl, q7, rfl⟩
          go_wp2_with fail
          refine (grant_any gp _ _ _ _ (hP6.drewN _)).mono ?_
          rintro e w8 ⟨rfl, hP8, hg8⟩
          rw [HM.out lim (by omega), show max l lim = lim by omega] at hP8
          have hB8 := below_grown (below_drewN hB6 q7) hg8 hgp
          by_cases h6 : win / 2 < 1
          all_goals
            go_wp2_with fail
            refine (left_any gp _ _ _ hP8).mono ?_
            rintro e w9 ⟨rfl, q9, rfl⟩
            go_wp2_with fail
            go_ret
            exact ⟨by first | (simp; done) | (simp; omega), below_drewN hB8 _⟩
      · have hk6 : k < 60 := by omega
        obtain ⟨r, hr⟩ : ∃ r, r = d k % 4 := ⟨_, rfl⟩
        have hr4 : (r = 0 ∨ r = 1) ∨ r = 2 ∨ r = 3 := by omega
        have HR := Lib.hid hr
        clear hr
        rcases hr4 with h01 | rfl | rfl
        · have hcase : (d k % 4 == 0) = true ∨ ((d k % 4 == 0) = false ∧ (d k % 4 == 1) = true) := by
            have := HR.out
            rcases h01 with h | h
            · left; simp; omega
            · right; simp; omega
          clear h01
          have hN : ∃ x, x = min (n k) (l - s) := ⟨_, rfl⟩
          obtain ⟨x, hx⟩ := hN
          have hxs : (l - s < n k ∧ l - s = x) ∨ (n k ≤ l - s ∧ n k = x) := by omega
          clear hx
          rcases hcase with he | ⟨he, he1⟩ <;> rcases hxs with ⟨hx, rfl⟩ | ⟨hx, rfl⟩
          all_goals
            go_wp2_with fail
            go_quiet ((go_at_call 21; first | exact quiet_oneN (left_any gp l s _ (hPa.drewN _)) | exact quiet_addN (left_any gp l s _ (hPa.drewN _))))
            go_wp2_with fail
            refine (spend_yes gp l s _ _ (hPa.drewN _) (by omega) (by omega)).mono ?_
            rintro e w6 ⟨rfl, hP6, hg6⟩
            have hT6 := (hTa.drewN nq).grown hg6 hne'
            have hB6 := below_grown (below_drewN hBa nq) hg6 hgp
            go_wp2_with fail
            refine (ptold_any gp l _ _ hP6).mono ?_
            rintro e w7 ⟨rfl, q7, rfl⟩
            go_wp2_with fail
            refine (til_came_yes gt _ _ _ _ _ _ (hT6.drewN _) (by omega) (by omega)).mono ?_
            rintro e w8 ⟨rfl, hT8, hg8⟩
            rw [Int.max_eq_right (by omega)] at hT8
            have hP8 := (hP6.drewN q7).grown hg8 hne
            have hB8 := below_grown (below_drewN hB6 q7) hg8 hgt
            go_wp2_with fail
            go_roundw
            case rel => exact ⟨k + 1, l, _, lim, took, by omega, by omega, by go_num, rfl, by omega, by rw [agB_succ]; omega, hP8, hT8, hB8⟩
            case measure => simp [intOf]; omega
        · have he0 : (d k % 4 == 0) = false := by have := HR.out; simp; omega
          have he1 : (d k % 4 == 1) = false := by have := HR.out; simp; omega
          have he2 : (d k % 4 == 2) = true := by have := HR.out; simp; omega
          have hN : ∃ x, x = min (n k) (s - took) := ⟨_, rfl⟩
          obtain ⟨x, hx⟩ := hN
          have hxs : (s - took < n k ∧ s - took = x) ∨ (n k ≤ s - took ∧ n k = x) := by omega
          clear hx
          rcases hxs with ⟨hx, rfl⟩ | ⟨hx, rfl⟩
          all_goals
            go_wp2_with fail
            refine (ttold_any gt _ _ _ _ _ hTa).mono ?_
            rintro e w5 ⟨rfl, q5, rfl⟩
            go_wp2_with fail
            refine (til_took_yes gt _ _ _ _ _ _ (hTa.drewN _) (by omega) (by omega)).mono ?_
            rintro e w6 ⟨rfl, hT6, hg6⟩
            have hP6 := (hPa.drewN q5).grown hg6 hne
            have hB6 := below_grown (below_drewN hBa q5) hg6 hgt
            obtain ⟨tk, htk, hT6⟩ : ∃ tk, took ≤ tk ∧ Til w6 gt win lim s tk := ⟨_, by omega, hT6⟩
            obtain ⟨hz0, hz1, hz2, hz3, hz4, hz5⟩ := hT6.2
            have hltk : lim ≤ tk + win ∨ True := .inr trivial
            by_cases hq : lim - tk < max (win / 2) 1
            · have hy : lim < mostI (tk + win) := by rw [HM.out _ (by omega)]; omega
              go_wp2_with fail
              refine (til_news_yes gt _ _ _ _ _ hT6 hq hy).mono ?_
              rintro e w7 ⟨rfl, hT7, hg7⟩
              have hP7 := hP6.grown hg7 hne
              have hB7 := below_grown hB6 hg7 hgt
              rw [HM.out (tk + win) (by omega)] at hT7 ⊢
              go_wp2_with fail
              go_roundw
              case rel => exact ⟨k + 1, l, s, _, _, by omega, by omega, by go_num, rfl, by omega, by rw [agB_succ]; omega, hP7, hT7, hB7⟩
              case measure => simp [intOf]; omega
            · go_wp2_with fail
              refine (til_news_far gt _ _ _ _ _ hT6 (by omega)).mono ?_
              rintro e w7 ⟨rfl, q7, rfl⟩
              go_wp2_with fail
              go_roundw
              case rel => exact ⟨k + 1, l, s, lim, _, by omega, by omega, by go_num, rfl, by omega, by rw [agB_succ]; omega, hP6.drewN _, hT6.drewN _, below_drewN hB6 _⟩
              case measure => simp [intOf]; omega
        · have he0 : (d k % 4 == 0) = false := by have := HR.out; simp; omega
          have he1 : (d k % 4 == 1) = false := by have := HR.out; simp; omega
          have he2 : (d k % 4 == 2) = false := by have := HR.out; simp; omega
          go_wp2_with fail
          refine (grant_any gp l s _ _ hPa).mono ?_
          rintro e w6 ⟨rfl, hP6, hg6⟩
          rw [HM.out lim (by omega), show max l lim = lim by omega] at hP6
          have hT6 := hTa.grown hg6 hne'
          have hB6 := below_grown hBa hg6 hgp
          go_wp2_with fail
          go_roundw
          case rel => exact ⟨k + 1, lim, s, lim, took, by omega, by omega, by go_num, rfl, by omega, by rw [agB_succ]; omega, hP6, hT6, hB6⟩
          case measure => simp [intOf]; omega
    · go_wp2_with fail
      refine (ttold_any gt _ _ _ _ _ (hT)).mono ?_
      rintro e w5 ⟨rfl, q5, rfl⟩
      go_wp2_with fail
      refine (til_took_yes gt _ _ _ _ _ _ ((hT).drewN _) (by omega) (by omega)).mono ?_
      rintro e w6 ⟨rfl, hT6, hg6⟩
      rw [show took + (s - took) = s by omega] at hT6
      have hP6 := ((hP).drewN q5).grown hg6 hne
      have hB6 := below_grown (below_drewN (hB) q5) hg6 hgt
      by_cases hq : lim - s < max (win / 2) 1
      · have hx : lim < mostI (s + win) := by rw [HM.out _ (by omega)]; omega
        go_wp2_with fail
        refine (til_news_yes gt _ _ _ _ _ hT6 hq hx).mono ?_
        rintro e w7 ⟨rfl, hT7, hg7⟩
        have hP7 := hP6.grown hg7 hne
        have hB7 := below_grown hB6 hg7 hgt
        rw [HM.out (s + win) (by omega)] at hT7 ⊢
        go_wp2_with fail
        refine (grant_any gp _ _ _ _ hP7).mono ?_
        rintro e w8 ⟨rfl, hP8, hg8⟩
        rw [HM.out (s + win) (by omega), show max l (s + win) = s + win by omega] at hP8
        have hB8 := below_grown hB7 hg8 hgp
        have hfin1 : win / 2 ≤ s + win - s := by omega
        by_cases h6 : win / 2 < 1
        all_goals
          go_wp2_with fail
          refine (left_any gp _ _ _ hP8).mono ?_
          rintro e w9 ⟨rfl, q9, rfl⟩
          go_wp2_with fail
          go_ret
          exact ⟨by first | (simp; done) | (simp; omega), below_drewN hB8 _⟩
      · go_wp2_with fail
        refine (til_news_far gt _ _ _ _ _ hT6 (by omega)).mono ?_
        rintro e w7 ⟨rfl, q7, rfl⟩
        go_wp2_with fail
        refine (grant_any gp _ _ _ _ (hP6.drewN _)).mono ?_
        rintro e w8 ⟨rfl, hP8, hg8⟩
        rw [HM.out lim (by omega), show max l lim = lim by omega] at hP8
        have hB8 := below_grown (below_drewN hB6 q7) hg8 hgp
        by_cases h6 : win / 2 < 1
        all_goals
          go_wp2_with fail
          refine (left_any gp _ _ _ hP8).mono ?_
          rintro e w9 ⟨rfl, q9, rfl⟩
          go_wp2_with fail
          go_ret
          exact ⟨by first | (simp; done) | (simp; omega), below_drewN hB8 _⟩

open Go.ChangeShapes Go.WideShapes Go.ChangeAt
set_option maxRecDepth 100000 in
theorem agrees_lifted (os : Os) (started : os.Started) (H : Type) (enc : TypeId × Value → H) :
    ReturnsInHanded {} Try.checked os 7 .any (Rows.creditAgreesSpec.pre6 enc Try.prog Try.f7 Rows.creditAgreesRow.domain false) (Rows.creditAgreesSpec.post enc Try.prog Try.f7 false true false false) := by
  refine returnsInHanded_of_change (C := Try.checked) own started (by kernel_rfl) Try.func7
    (ChangeSpec.witness6 (enc := enc) (C := Try.checked) false ⟨#[], #[.int .u16 0, .slice none 0 0], []⟩ 8 (by kernel_rfl) (by kernel_rfl) (by kernel_rfl) (by kernel_rfl)) ?_
  intro W base args ds gs before hval0 hW hcnd _
  have hval : ∀ (j : Nat) t v, Try.f7.params[j]? = some t → args[j]? = some v → Value.okWide Try.prog W .any base t v := hval0
  have hW' := hW
  obtain ⟨p, q, hA0, hV, rfl, hfz, hnd⟩ := hW
  have hA : DataW.TrodAll enc Try.prog W 0 (fun _ => true) true Try.f7.params.toList args.toList ds p := hA0
  rw [Try.params7] at hA hval
  obtain ⟨v0, vs0, d0, ds0, p0, q0, hargs, rfl, rfl, h0, r0⟩ := trodAll_cons hA
  obtain ⟨v1, vs1, d1, ds1, p1, q1, rfl, rfl, rfl, h1, r1⟩ := trodAll_cons r0
  obtain ⟨rfl, rfl, rfl⟩ := trodAll_nil r1
  obtain rfl : args = #[v0, v1] := by cases args; simp_all
  obtain ⟨rfl, rfl⟩ := trodVars_none hV
  obtain ⟨a0, rfl, rfl, rfl, w0⟩ := open_int Try.underlying55 (hval 0 55 v0 rfl rfl) h0
  obtain ⟨A1, len1, cap1, rfl⟩ := okWide_slice Try.underlying23 (hval 1 23 v1 rfl rfl)
  have k1 := h1
  have lt1 : ∀ x ∈ p1, x.block < W.heap.size := by obtain ⟨m, hm⟩ := k1; exact DataW.trod_lt m _ _ _ hm
  obtain ⟨hl1, d, n, hS⟩ := script_of h1
  clear hA0 hval0
  refine (agrees_walk a0 A1 len1 cap1 d n W (bounds_u16 w0) hl1 hS).mono fun e W' ⟨he, bel⟩ => ?_
  subst he
  exact ⟨_, rfl, _, _, _, [], _, [], hW', trodAll_mk1 (shut_bool Try.underlying4 _), (trodAll_cons_mk (shut_int Try.underlying55 w0) (trodAll_cons_mk (Below.trod laidOut (by kernel_rfl) (of_decide_eq_true (by kernel_rfl)) k1 bel lt1) trodAll_mk0)), rfl, bel.frame _, fun h => by cases h⟩

theorem agrees_holds : Rows.CreditAgreesSaid :=
  OpenClaim.holds_of_wide 7 Try.f7 rfl rfl rfl rfl rfl rfl rfl ⟨rfl, rfl, rfl, rfl, rfl⟩ rfl rfl rfl rfl rfl (by kernel_rfl) Try.func7 (by kernel_rfl)
    (of_decide_eq_true (by kernel_rfl)) (by unfold Func.isWrapper; first | (rw [if_pos (by decide +kernel)]; kernel_rfl) | (rw [if_neg (by decide +kernel)]; exact ⟨rfl, rfl⟩))
    (fun os started H enc _ => agrees_lifted os started H enc)
#print axioms agrees_holds

end Go.Proofs.Ytljddpgefbcfmaa
