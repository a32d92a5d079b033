/-
  SpanApart: between any two ranges there is a number that isn't there, and each range is there, to its ends. For every input; no condition.
-/
import Derived.Test.YtcmkegkljappfaaSscr
namespace Go.Proofs.Ytcmkegkljappfaa
open Go.RowKit
set_option linter.unusedVariables false
set_option linter.unusedSimpArgs false


/-- What holds of each range of a set. -/
theorem apart_at {L : List (Int × Int)} (h : Nm 0 L) {t : Nat} (ht : t < L.length) : hasB L (L.getD t (0, 0)).1 = true ∧ hasB L (L.getD t (0, 0)).2 = true ∧ hasB L ((L.getD t (0, 0)).2 + 1) = false ∧ hasB L ((L.getD t (0, 0)).1 - 1) = false := by
  have hup := h.up t ht
  unfold hasB
  refine ⟨decide_eq_true (h.at_.2 ⟨t, ht, Int.le_refl _, hup.2.1⟩), decide_eq_true (h.at_.2 ⟨t, ht, hup.2.1, Int.le_refl _⟩), decide_eq_false fun hm => ?_, decide_eq_false fun hm => ?_⟩
  · obtain ⟨u, hu, h1, h2⟩ := h.at_.1 hm
    rcases Nat.lt_trichotomy u t with h7 | h7 | h7
    · have := h.lt u t h7 ht; omega
    · subst h7; omega
    · have := h.lt t u h7 hu; omega
  · obtain ⟨u, hu, h1, h2⟩ := h.at_.1 hm
    rcases Nat.lt_trichotomy u t with h7 | h7 | h7
    · have := h.lt u t h7 ht; omega
    · subst h7; omega
    · have := h.lt t u h7 hu; omega
theorem rev_at {L : List (Int × Int)} {i : Nat} (hi : i < L.length) : L.reverse.getD i (0, 0) = L.getD (L.length - 1 - i) (0, 0) := by
  have h : i < L.reverse.length := by simpa using hi
  have h2 : L.length - 1 - i < L.length := by omega
  simp only [List.getD, List.getElem?_eq_getElem h, List.getElem?_eq_getElem h2, List.getElem_reverse, Option.getD_some]
theorem rg_rev {L : List (Int × Int)} (h : L.length ≤ 30) : rgL 1000 L = L.reverse := by
  unfold rgL
  exact List.take_of_length_le (by simp; omega)
set_option maxHeartbeats 8000000 in
set_option maxRecDepth 100000 in
theorem apart_walk (A : Option Addr) (N cap : Nat) (d f t : Nat → Int) (w : World) (hS : Scr w A N d f t) (hN0 : N ≤ 9223372036854775807) :
    Calls Try.prog 4 #[.slice A N cap] w fun e w' => e = .returned (.bool true) ∧ Below w.heap.size w w' := by
  have HS := Lib.hid hS
  clear hS
  go_enter Try.func4, Try.ntmps4
  go_wp2_with fail
  refine (awake_any _).mono ?_
  rintro e w1 ⟨rfl, hB1⟩
  go_wp2_with fail
  refine (new_any _ [] _ (RdP.nil _) (fun p hp => by simp at hp) (by decide)).mono ?_
  rintro e w2 ⟨g, rb0, rfl, hsa, hb2⟩
  have hsa := hsa.base hB1.size
  have hB2 := hB1.trans (hb2.mono hB1.size)
  have hbx := (Below.refl w2.heap.size w2).alloc (Nat.le_refl _) (.cells #[.slice none 0 0] 37)
  have hds : DS w.heap.size (w2.alloc (.cells #[.slice none 0 0] 37)) g rb0 [] w2.heap.size none [] := ⟨hsa.below hbx, rnewR (Below.refl _ _) hB2.size, fun q _ => by simp, Nat.le_trans hB2.size hbx.size⟩
  have hB3 := hB2.trans (hbx.mono hB2.size)
  obtain ⟨gx, hgx⟩ : ∃ gx, gx = w2.heap.size := ⟨_, rfl⟩
  rw [← hgx] at hds
  clear hbx hB1 hb2 hsa
  go_wp2_with fail
  rw [← hgx]
  clear hgx
  go_loopw [17] (fun sc wr => ∃ (k : Nat) (rb rx : Option Nat) (L R : List (Int × Int)), k ≤ N ∧ sc = .int .i64 k ∧ DS w.heap.size wr g rb L gx rx R ∧ Hid (Dp k L R) ∧ Below w.heap.size w wr) (fun sc _ => N - (intOf sc).toNat)
  case atStart => exact ⟨0, rb0, none, [], [], Nat.zero_le _, rfl, hds, Lib.hid Dp.start, hB3⟩
  case round =>
    clear hds hB3
    obtain ⟨k, rb, rx, L, R, hkN, rfl, hds, HD, hB⟩ := hrel
    by_cases hk : k < N
    · obtain ⟨bb, off, rfl, hbb, d0, d1, d2⟩ := (HS.out.below hB).at_ k hk
      have hdb := HS.out.db k hk
      have hfb := HS.out.fb k hk
      have htb := HS.out.tb k hk
      obtain ⟨dk, hdk⟩ : ∃ x, x = d k := ⟨_, rfl⟩
      obtain ⟨fk, hfk⟩ : ∃ x, x = f k := ⟨_, rfl⟩
      obtain ⟨tk, htk⟩ : ∃ x, x = t k := ⟨_, rfl⟩
      rw [← hdk] at d0 hdb
      rw [← hfk] at d1 hfb
      rw [← htk] at d2 htb
      clear hdk hfk htk
      have hbo := (Below.refl wr.heap.size wr).alloc (Nat.le_refl _) (.cells #[.int .u8 dk, .int .u64 fk, .int .u64 tk] 39)
      have hds1 := hds.below hbo
      have hBo := hB.trans (hbo.mono hB.size)
      have hsm := HD.out.small
      clear hbo
      by_cases h30 : k < 30
      · have h30' : (k : Int) < 30 := by omega
        have HD2 := Lib.hid (HD.out.step h30 (d := dk) (f := fk) (t := tk) hfb.1)
        go_wp2_with fail
        (with_reducible refine (do_any w.heap.size _ g gx rb rx L R dk fk tk hds1 HD.out.r (by omega) hsm.2 hdb hfb htb).mono ?_)
        rintro e w4 ⟨rb', rx', rfl, hds4, hb4⟩
        have hB4 := hBo.trans hb4
        clear d0 d1 d2 hds hds1 hBo hB hb4 HD
        go_wp2_with fail
        go_roundw
        case rel => exact ⟨k + 1, rb', rx', _, _, by omega, by go_num, hds4, HD2, hB4⟩
        case measure => simp [intOf]; omega
      · have h30' : decide ((k : Int) < 30) = false := by simp; omega
        have HD2 := Lib.hid (HD.out.skip h30)
        go_wp2_with fail
        clear d0 d1 d2 hds hBo
        go_roundw
        case rel => exact ⟨k + 1, rb, rx, L, R, by omega, by go_num, hds1, HD2, hB.alloc hB.size _⟩
        case measure => simp [intOf]; omega
    · have hN := HD.out.r.n
      have hLl := HD.out.small.1
      have hsa := hds.s
      clear hkN hds HD
      go_wp2_with fail
      clear hk
      refine (ranges_any _ g rb L 1000 _ hsa (by omega)).mono ?_
      rintro e w5 ⟨v5, rfl, ho5, hb5⟩
      rw [rg_rev hLl] at ho5
      have hr5 := rdp_of_own ho5
      rw [List.length_reverse] at ho5
      have hs5 := hsa.below hb5
      have hB5 := hB.trans (hb5.mono hB.size)
      obtain ⟨A5, cp5, rfl, hn5, hc5, _⟩ := sl_of_own ho5
      have hc5' : cp5 ≤ 9223372036854775807 := by unfold maxLen at hc5; omega
      obtain ⟨n, hn⟩ : ∃ n, n = L.length := ⟨_, rfl⟩
      rw [← hn] at hr5 hn5 ⊢
      have HNN := Lib.hid hn
      have HR5 := Lib.hid hr5
      rw [← hn] at hLl
      clear hn hr5 ho5 hc5 hb5 hB hsa
      go_wp2_with fail
      go_loopw [33] (fun sc wr => ∃ (j : Nat), j ≤ n ∧ sc = .int .i64 j ∧ Below w5.heap.size w5 wr) (fun sc _ => n - (intOf sc).toNat)
      case atStart => exact ⟨0, Nat.zero_le _, rfl, Below.refl _ _⟩
      case round =>
        obtain ⟨j, hjn, rfl, hb6⟩ := hrel
        by_cases hj : j < n
        · skip
          obtain ⟨b5, off5, hA5, hbb5, e0, e1⟩ := (HR5.out.below hb6).get j hj
          subst hA5
          have hjl : j < L.length := by rw [← HNN.out]; exact hj
          rw [rev_at hjl] at e0 e1
          have htl : L.length - 1 - j < L.length := by omega
          have hap := apart_at hN htl
          have hup := hN.up _ htl
          have hpv : ∀ i, j = i + 1 → (L.getD (L.length - 1 - j) (0, 0)).2 + 2 ≤ (L.reverse.getD i (0, 0)).1 := fun i hi => by
            rw [rev_at (by omega)]
            have := hN.lt (L.length - 1 - j) (L.length - 1 - i) (by omega) (by omega)
            omega
          obtain ⟨x, hx⟩ : ∃ x, x = L.getD (L.length - 1 - j) (0, 0) := ⟨_, rfl⟩
          rw [← hx] at e0 e1 hap hup hpv
          clear hx hjl htl
          obtain ⟨xa, xb⟩ := x
          simp only [MX] at e0 e1 hap hup hpv
          obtain ⟨p1, p2, p3, p4⟩ := hap
          have HPV := Lib.hid hpv
          clear hpv
          have hs6 := hs5.below hb6
          have hal := (Below.refl wr.heap.size wr).alloc (Nat.le_refl _) (.cells #[.int .u64 xa, .int .u64 xb] 30)
          have hsA := hs6.below hal
          have hbBA := hb6.trans (hal.mono hb6.size)
          have o0 : World.cell? (wr.alloc (.cells #[.int .u64 xa, .int .u64 xb] 30)) ⟨wr.heap.size, 0, none⟩ = some (.int .u64 xa) := (Blk.new wr 30 _).cell 0
          have o1 : World.cell? (wr.alloc (.cells #[.int .u64 xa, .int .u64 xb] 30)) ⟨wr.heap.size, 1, none⟩ = some (.int .u64 xb) := (Blk.new wr 30 _).cell 1
          have P1 := Lib.hid p1
          have P2 := Lib.hid p2
          have P3 := Lib.hid p3
          have P4 := Lib.hid p4
          have hw1 : IntKind.u64.wrap (xb + 1) = xb + 1 := Go.IntWalk.u64_in _ (by omega)
          have hw2 : IntKind.u64.wrap (xb + 2) = xb + 2 := Go.IntWalk.u64_in _ (by omega)
          clear p1 p2 p3 p4 hs6 hal
          have hle : ¬ xb < xa := by omega
          go_wp2_with fail
          (with_reducible refine (has_any w.heap.size g rb L (xa) _ hsA hN).mono ?_)
          rintro e w7 ⟨rfl, hb7⟩
          rw [P1.out]
          have hs7 := hsA.below hb7
          have hbB7 := hbBA.trans (hb7.mono hbBA.size)
          have o0 := keepB_cell o0 _ hb7
          have o1 := keepB_cell o1 _ hb7
          clear hsA hb7 hbBA
          clear e0 e1
          go_wp2_with fail
          (with_reducible refine (has_any w.heap.size g rb L (xb) _ hs7 hN).mono ?_)
          rintro e w8 ⟨rfl, hb8⟩
          rw [P2.out]
          have hs8 := hs7.below hb8
          have hbB8 := hbB7.trans (hb8.mono hbB7.size)
          have o0 := keepB_cell o0 _ hb8
          have o1 := keepB_cell o1 _ hb8
          clear hs7 hb8 hbB7
          go_wp2_with fail
          (with_reducible refine (has_any w.heap.size g rb L (xb + 1) _ hs8 hN).mono ?_)
          rintro e w9 ⟨rfl, hb9⟩
          rw [P3.out]
          have hs9 := hs8.below hb9
          have hbB9 := hbB8.trans (hb9.mono hbB8.size)
          have o0 := keepB_cell o0 _ hb9
          have o1 := keepB_cell o1 _ hb9
          clear hs8 hb9 hbB8
          by_cases hz : 0 < xa
          · have hw3 : IntKind.u64.wrap (xa - 1) = xa - 1 := Go.IntWalk.u64_in _ (by omega)
            go_wp2_with fail
            (with_reducible refine (has_any w.heap.size g rb L (xa - 1) _ hs9 hN).mono ?_)
            rintro e w10 ⟨rfl, hb10⟩
            rw [P4.out]
            have hs10 := hs9.below hb10
            have hbB10 := hbB9.trans (hb10.mono hbB9.size)
            have o0 := keepB_cell o0 _ hb10
            have o1 := keepB_cell o1 _ hb10
            clear hs9 hb10 hbB9
            rcases j with _ | i
            · go_wp2_with fail
              go_quiet (fail)
              go_wp2_with fail
              go_roundw
              case rel => first | exact ⟨i + 1 + 1, by omega, by go_num, below_drewN hbB10 _⟩ | exact ⟨1, by omega, by first | rfl | go_num, below_drewN hbB10 _⟩
              case measure => simp [intOf] <;> omega
            · obtain ⟨b7, off7, hA7, hbb7, k0, k1⟩ := (HR5.out.below hbB10).get i (by omega)
              simp only [Option.some.injEq, Addr.mk.injEq, and_true] at hA7
              obtain ⟨rfl, rfl⟩ := hA7
              have hq := HPV.out i rfl
              obtain ⟨y, hy⟩ : ∃ y, y = (L.reverse.getD i (0, 0)).1 := ⟨_, rfl⟩
              rw [← hy] at k0 hq
              clear hy k1
              have hi1 : IntKind.i64.wrap (((i + 1 : Nat) : Int) - 1) = (i : Int) := (Go.IntWalk.i64_in _ (by omega)).trans (by omega)
              have hi2 : IntKind.i64.wrap ((i : Int) + 1 - 1) = (i : Int) := (Go.IntWalk.i64_in _ (by omega)).trans (by omega)
              have hi3 : IntKind.i64.wrap (i : Int) = (i : Int) := Go.IntWalk.i64_in _ (by omega)
              have hi4 : i < n := by omega
              have hi5 : (i : Int) < (n : Int) := by omega
              have hi6 : (0 : Int) < (i : Int) + 1 := by omega
              have hq2 : ¬ y < xb + 2 := by omega
              go_wp2_with fail
              go_quiet (fail)
              go_wp2_with fail
              go_roundw
              case rel => first | exact ⟨i + 1 + 1, by omega, by go_num, below_drewN hbB10 _⟩ | exact ⟨1, by omega, by first | rfl | go_num, below_drewN hbB10 _⟩
              case measure => simp [intOf] <;> omega
          · have hz' : decide (0 < xa) = false := decide_eq_false hz
            rcases j with _ | i
            · go_wp2_with fail
              go_quiet (fail)
              go_wp2_with fail
              go_roundw
              case rel => first | exact ⟨i + 1 + 1, by omega, by go_num, below_drewN hbB9 _⟩ | exact ⟨1, by omega, by first | rfl | go_num, below_drewN hbB9 _⟩
              case measure => simp [intOf] <;> omega
            · obtain ⟨b7, off7, hA7, hbb7, k0, k1⟩ := (HR5.out.below hbB9).get i (by omega)
              simp only [Option.some.injEq, Addr.mk.injEq, and_true] at hA7
              obtain ⟨rfl, rfl⟩ := hA7
              have hq := HPV.out i rfl
              obtain ⟨y, hy⟩ : ∃ y, y = (L.reverse.getD i (0, 0)).1 := ⟨_, rfl⟩
              rw [← hy] at k0 hq
              clear hy k1
              have hi1 : IntKind.i64.wrap (((i + 1 : Nat) : Int) - 1) = (i : Int) := (Go.IntWalk.i64_in _ (by omega)).trans (by omega)
              have hi2 : IntKind.i64.wrap ((i : Int) + 1 - 1) = (i : Int) := (Go.IntWalk.i64_in _ (by omega)).trans (by omega)
              have hi3 : IntKind.i64.wrap (i : Int) = (i : Int) := Go.IntWalk.i64_in _ (by omega)
              have hi4 : i < n := by omega
              have hi5 : (i : Int) < (n : Int) := by omega
              have hi6 : (0 : Int) < (i : Int) + 1 := by omega
              have hq2 : ¬ y < xb + 2 := by omega
              go_wp2_with fail
              go_quiet (fail)
              go_wp2_with fail
              go_roundw
              case rel => first | exact ⟨i + 1 + 1, by omega, by go_num, below_drewN hbB9 _⟩ | exact ⟨1, by omega, by first | rfl | go_num, below_drewN hbB9 _⟩
              case measure => simp [intOf] <;> omega
        · go_wp2_with fail
          go_ret
          exact ⟨rfl, hB5.trans (hb6.mono hB5.size)⟩
open Go.ChangeShapes Go.WideShapes Go.ChangeAt
set_option maxRecDepth 100000 in
theorem apart_lifted (os : Os) (started : os.Started) (H : Type) (enc : TypeId × Value → H) :
    ReturnsInHanded {} Try.checked os 4 .any (Rows.spanApartSpec.pre6 enc Try.prog Try.f4 Rows.spanApartRow.domain false) (Rows.spanApartSpec.post enc Try.prog Try.f4 false true false false) := by
  refine returnsInHanded_of_change (C := Try.checked) own started (by kernel_rfl) Try.func4
    (ChangeSpec.witness6 (enc := enc) (C := Try.checked) false ⟨#[], #[.slice none 0 0], []⟩ 8 (by kernel_rfl) (by kernel_rfl) (by kernel_rfl) (by kernel_rfl)) ?_
  intro W base args ds gs before hval0 hW hcnd _
  have hval : ∀ (j : Nat) t v, Try.f4.params[j]? = some t → args[j]? = some v → Value.okWide Try.prog W .any base t v := hval0
  have hW' := hW
  obtain ⟨p, q, hA0, hV, rfl, hfz, hnd⟩ := hW
  have hA : DataW.TrodAll enc Try.prog W 0 (fun _ => true) true Try.f4.params.toList args.toList ds p := hA0
  rw [Try.params4] at hA hval
  obtain ⟨v0, vs0, d0, ds0, p0, q0, hargs, rfl, rfl, h0, r0⟩ := trodAll_cons hA
  obtain ⟨rfl, rfl, rfl⟩ := trodAll_nil r0
  obtain rfl : args = #[v0] := by cases args; simp_all
  obtain ⟨rfl, rfl⟩ := trodVars_none hV
  obtain ⟨A0, len0, cap0, rfl⟩ := okWide_slice Try.underlying34 (hval 0 34 v0 rfl rfl)
  have k0 := h0
  have lt0 : ∀ x ∈ p0, x.block < W.heap.size := by obtain ⟨m, hm⟩ := k0; exact DataW.trod_lt m _ _ _ hm
  obtain ⟨n0, d0', f0, t0, hR0⟩ := scr_of k0
  clear hA0 hval0
  refine (apart_walk _ _ _ _ _ _ W hR0 n0).mono fun e W' ⟨he, bel⟩ => ?_
  subst he
  exact ⟨_, rfl, _, _, _, [], _, [], hW', trodAll_mk1 (shut_bool Try.underlying4 _), (trodAll_cons_mk (Below.trod laidOut (by kernel_rfl) (of_decide_eq_true (by kernel_rfl)) k0 bel lt0) trodAll_mk0), rfl, bel.frame _, fun h => by cases h⟩

theorem apart_holds : Rows.SpanApartSaid :=
  OpenClaim.holds_of_wide 4 Try.f4 rfl rfl rfl rfl rfl rfl rfl ⟨rfl, rfl, rfl, rfl, rfl⟩ rfl rfl rfl rfl rfl (by kernel_rfl) Try.func4 (by kernel_rfl)
    (of_decide_eq_true (by kernel_rfl)) (by unfold Func.isWrapper; first | (rw [if_pos (by decide +kernel)]; kernel_rfl) | (rw [if_neg (by decide +kernel)]; exact ⟨rfl, rfl⟩))
    (fun os started H enc _ => apart_lifted os started H enc)
#print axioms apart_holds

end Go.Proofs.Ytcmkegkljappfaa
