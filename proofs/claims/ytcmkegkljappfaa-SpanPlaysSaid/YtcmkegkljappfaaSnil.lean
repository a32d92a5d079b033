/-
  Nil sets, the program's and the reference's; whether a number is there, and the next hole, by the reference. No condition.
-/
import Derived.Test.YtcmkegkljappfaaSapart
namespace Go.Proofs.Ytcmkegkljappfaa
open Go.RowKit Go.Shelf
set_option linter.unusedVariables false
set_option linter.unusedSimpArgs false

attribute [local go_sem] Oper.semAt_some

set_option maxHeartbeats 8000000 in
set_option maxRecDepth 100000 in
theorem falling_nil (n l : Nat) (W : World) : CallsIn Fence.wide n Try.prog 27 #[.pointer none, .func (.yield l) #[] #[]] W fun e W' => (∃ v, e = .returned v) ∧ W = W' := by
  have hl0 := (callsIn_wide (n := n - 1)).2 (len_nil W)
  have HL0 := Lib.hid hl0
  clear hl0
  refine callsIn_of_wp Try.func27 rfl trivial ?_ rfl
  simp only [Try.ntmps27, List.size_toArray, List.length_cons, List.length_nil, Nat.reduceAdd, Nat.reduceSub, Array.replicate_succ, Array.replicate_zero, List.push_toArray, List.append_toArray, List.nil_append, List.cons_append]
  gi_wp2_with (refine ⟨trivial, (fun h => by simp [Fence.wide] at h), ?_⟩; refine HL0.out.mono ?_; rintro e w2 ⟨rfl, rfl⟩)
  gi_loopw [4] (fun s4 wr => s4 = .int .i64 (-1) ∧ wr = W) (fun s4 _ => 0)
  case atStart => exact ⟨rfl, rfl⟩
  case round =>
    obtain ⟨rfl, rfl⟩ := hrel
    gi_wp2
    go_end0
    exact ⟨⟨_, rfl⟩, rfl⟩
set_option maxHeartbeats 2000000 in
theorem rng_nil {assign body : Code} {Q : Exit → Act → World → Prop} {tm : Array Value} {w W0 : World}
    (h8 : ({ tmps := tm, defers := [] } : Act).eval (.tmp 8) = .func (.func 27) #[.pointer none] #[]) (hsz : W0.heap.size = w.heap.size + 2)
    (hout : Blk W0 (w.heap.size + 1) 22 #[.slice none 0 0]) (hbel : Below w.heap.size w W0)
    (hdone : ∀ (W : World), Blk W (w.heap.size + 1) 22 #[.slice none 0 0] → W.heap[w.heap.size + 2]? = some (.deferred (some [])) → Below w.heap.size w W → Q .normal { tmps := tm, defers := [{ target := .collected (w.heap.size + 2), args := #[] }] } W) :
    (Code.rangeFunc (.tmp 8) #[9] assign body).wpIn Fence.wide 3 Try.prog Q { tmps := tm, defers := [] } W0 := by
  refine wpIn_rangeFunc ?_
  intro fn hfn
  have eg := enters_of Try.func27 (by kernel_rfl) rfl
  obtain ⟨rec, hrec⟩ : ∃ rec : LoopState → Option Code → Loop, rec = fun st pe => { state := st, pending := pe, fn, tmps := tm, params := #[9], assign, body, defers := w.heap.size + 2 } := ⟨_, rfl⟩
  obtain ⟨W1, hW1⟩ : ∃ W1, W1 = (W0.alloc (.deferred (some []))).alloc (.loop (rec .ready none)) := ⟨_, rfl⟩
  have hb1 : Below W0.heap.size W0 W1 := by rw [hW1]; exact ((Below.refl _ _).alloc (Nat.le_refl _) _).alloc (by simp) _
  have hl1 : W1.heap[w.heap.size + 3]? = some (.loop (rec .ready none)) := by
    rw [hW1]
    have := World.alloc_heap_new (W0.alloc (.deferred (some []))) (.loop (rec .ready none))
    rwa [World.size_alloc, hsz] at this
  have hd1 : W1.heap[w.heap.size + 2]? = some (.deferred (some [])) := by
    rw [hW1, ← hsz]
    exact (Below.heap_alloc _ _ _ (by simp)).trans (World.alloc_heap_new W0 _)
  have ho1 := hout.same hb1
  have hB1 := hbel.trans (hb1.mono hbel.size)
  refine ⟨w.heap.size + 3, [{ target := .collected (w.heap.size + 2), args := #[] }], W1, { target := .fn (.func 27) #[], args := #[.pointer none, .func (.yield (w.heap.size + 3)) #[] #[]] }, W1, 27,
    #[.pointer none, .func (.yield (w.heap.size + 3)) #[] #[]], W1, ?_, ?_, fun _ _ => trivial, ?_, fun h => by simp [Fence.wide] at h, ?_⟩
  · have := run_enterLoop_outer (P := Try.prog) (w := W0) fn tm #[9] assign body
    rw [hsz] at this
    rw [hW1, hrec]
    exact this
  · simp only [resolve, h8]
    simp [go_sem]
  · simp [invoke, go_sem, eg]
  · refine (falling_nil 2 (w.heap.size + 3) W1).mono ?_
    rintro e W2 ⟨⟨v, rfl⟩, rfl⟩
    exact ⟨none, _, by have := run_endLoop (P := Try.prog) hl1 (by rw [hrec]; simp); rw [hrec] at this; exact this, hdone _ (ho1.putObj hl1) ((World.putObj_heap_other (by omega)).trans hd1) (below_putObj hB1 (by omega))⟩
set_option maxHeartbeats 8000000 in
set_option maxRecDepth 100000 in
theorem ranges_nil (m : Int) (w : World) : Calls Try.prog 13 #[.pointer none, .int .i64 m] w fun e w' => e = .returned (.slice none 0 0) ∧ Below w.heap.size w w' := by
  obtain ⟨W0, hW0⟩ : ∃ W0, W0 = (w.alloc (.cells #[.int .i64 m] 3)).alloc (.cells #[.slice none 0 0] 22) := ⟨_, rfl⟩
  have hb0 : Below w.heap.size w W0 := by rw [hW0]; exact ((Below.refl _ _).alloc (Nat.le_refl _) _).alloc (by simp) _
  have hsz : W0.heap.size = w.heap.size + 2 := by rw [hW0]; simp
  have hout : Blk W0 (w.heap.size + 1) 22 #[.slice none 0 0] := by rw [hW0]; exact blk_new_at (by simp)
  refine (callsIn_wide (n := 3)).1 ?_
  refine callsIn_of_wp_marks Try.func13 rfl trivial ?_ rfl
  simp only [Try.ntmps13, List.size_toArray, List.length_cons, List.length_nil, Nat.reduceAdd, Nat.reduceSub, Array.replicate_succ, Array.replicate_zero, List.push_toArray, List.append_toArray, List.nil_append, List.cons_append]
  gi_wp2
  rw [← hW0]
  refine rng_nil (w := w) rfl hsz hout hb0 ?done
  case done =>
    intro W h1 h6 h7
    have hb : Below w.heap.size w (W.putObj (w.heap.size + 2) (.deferred none)) := below_putObj h7 (by omega)
    have c1 : W.cell? ⟨w.heap.size + 1, 0, none⟩ = some (.slice none 0 0) := h1.cell 0
    gi_wp2
    refine ⟨by simp, .inl ⟨_, _, rfl, run_takeDeferred h6, ?_⟩⟩
    exact ⟨_, results_tmp rfl _ _ _, rfl, hb⟩
set_option maxHeartbeats 8000000 in
set_option maxRecDepth 100000 in
theorem rangesR_nil (w : World) : Calls Try.prog 22 #[.pointer none] w fun e w' => e = .returned (.slice none 0 0) ∧ w = w' := by
  go_enter Try.func22, Try.ntmps22
  go_wp2_with fail
  go_ret
  exact ⟨rfl, rfl⟩
set_option maxHeartbeats 8000000 in
set_option maxRecDepth 100000 in
theorem addR_nil (f t : Int) (w : World) : Calls Try.prog 31 #[.pointer none, .int .u64 f, .int .u64 t] w fun e w' => e = .returned (.int .i64 6) ∧ w = w' := by
  go_enter Try.func31, Try.ntmps31
  go_wp2_with fail
  go_ret
  exact ⟨rfl, rfl⟩
set_option maxHeartbeats 8000000 in
set_option maxRecDepth 100000 in
theorem trimR_nil (m : Int) (w : World) : Calls Try.prog 30 #[.pointer none, .int .i64 m] w fun e w' => e = .returned (.tuple #[]) ∧ w = w' := by
  go_enter Try.func30, Try.ntmps30
  go_wp2_with fail
  first | go_end0 | refine bodyPost_ret (results_none rfl _ _ _) rfl ?_
  exact ⟨rfl, rfl⟩
set_option maxHeartbeats 8000000 in
set_option maxRecDepth 100000 in
theorem hasR_nil (n : Int) (w : World) : Calls Try.prog 23 #[.pointer none, .int .u64 n] w fun e w' => e = .returned (.bool false) ∧ w = w' := by
  go_enter Try.func23, Try.ntmps23
  go_wp2_with fail
  go_ret
  exact ⟨rfl, rfl⟩
set_option maxHeartbeats 8000000 in
set_option maxRecDepth 100000 in
theorem holeR_nil (n : Int) (w : World) : Calls Try.prog 24 #[.pointer none, .int .u64 n] w fun e w' => e = .returned (.int .u64 n) ∧ w = w' := by
  go_enter Try.func24, Try.ntmps24
  go_wp2_with fail
  refine (rangesR_nil _).mono ?_
  rintro e w2 ⟨rfl, rfl⟩
  go_wp2_with fail
  go_loopw [10] (fun s7 wr => s7 = .int .i64 0 ∧ wr = w) (fun s7 _ => 0)
  case atStart => exact ⟨rfl, rfl⟩
  case round =>
    obtain ⟨rfl, rfl⟩ := hrel
    go_wp2_with fail
    go_ret
    exact ⟨rfl, rfl⟩
set_option maxHeartbeats 8000000 in
set_option maxRecDepth 100000 in
theorem do_nil (d f t : Int) (w : World) (hd : 0 ≤ d ∧ d ≤ 255) (hf : 0 ≤ f ∧ f ≤ 18446744073709551615) (ht : 0 ≤ t ∧ t ≤ 18446744073709551615) :
    Calls Try.prog 14 #[.pointer none, .pointer none, .agg #[.int .u8 d, .int .u64 f, .int .u64 t]] w fun e w' => e = .returned (.bool true) ∧ Below w.heap.size w w' := by
  have hb0 : Below w.heap.size w (w.alloc (.cells #[.int .u8 d, .int .u64 f, .int .u64 t] 39)) := (Below.refl w.heap.size w).alloc (Nat.le_refl _) _
  by_cases h3 : d % 6 = 3
  · have h3' : (d % 6 == 3) = true := by simpa using h3
    by_cases hf0 : 0 < f
    · have hw : IntKind.u64.wrap (f - 1) = f - 1 := Go.IntWalk.u64_in _ (by omega)
      clear h3
      go_enter Try.func14, Try.ntmps14
      go_wp2_with (first | (go_at_call 28; refine (drop_nil f _ hf).mono ?_; rintro e w2 ⟨rfl, rfl⟩) | (go_at_call 29; refine (cutR_any_nil 0 (f - 1) _).mono ?_; rintro e w2 ⟨rfl, rfl⟩))
      go_ret
      exact ⟨rfl, hb0⟩
    · have hf0' : decide (0 < f) = false := decide_eq_false hf0
      clear h3
      go_enter Try.func14, Try.ntmps14
      go_wp2_with (first | (go_at_call 28; refine (drop_nil f _ hf).mono ?_; rintro e w2 ⟨rfl, rfl⟩))
      go_ret
      exact ⟨rfl, hb0⟩
  · have h3' : (d % 6 == 3) = false := by simpa using h3
    clear h3
    by_cases h4 : d % 6 = 4
    · have h4' : (d % 6 == 4) = true := by simpa using h4
      clear h4
      go_enter Try.func14, Try.ntmps14
      go_wp2_with (first | (go_at_call 20; refine (cut_any_nil f t _).mono ?_; rintro e w2 ⟨rfl, rfl⟩) | (go_at_call 29; refine (cutR_any_nil f t _).mono ?_; rintro e w2 ⟨rfl, rfl⟩))
      go_ret
      exact ⟨rfl, hb0⟩
    · have h4' : (d % 6 == 4) = false := by simpa using h4
      clear h4
      by_cases h5 : d % 6 = 5
      · have h5' : (d % 6 == 5) = true := by simpa using h5
        clear h5
        have hw : IntKind.i64.wrap (f % 5) = f % 5 := Go.IntWalk.i64_in _ (by omega)
        go_enter Try.func14, Try.ntmps14
        go_wp2_with (first | (go_at_call 17; refine (trim_nil (f % 5) _).mono ?_; rintro e w2 ⟨rfl, rfl⟩) | (go_at_call 30; refine (trimR_nil (f % 5) _).mono ?_; rintro e w2 ⟨rfl, rfl⟩))
        go_ret
        exact ⟨rfl, hb0⟩
      · have h5' : (d % 6 == 5) = false := by simpa using h5
        clear h5
        go_enter Try.func14, Try.ntmps14
        go_wp2_with fail
        go_quiet ((first | (go_at_call 11; exact Calls.quiet_of_same (quiet_left (add_nil f t _))) | (go_at_call 31; exact Calls.quiet_of_same (quiet_left (addR_nil f t _)))))
        go_wp2_with fail
        go_ret
        exact ⟨by simp, below_drewN hb0 _⟩
theorem hasB_no {R : List (Int × Int)} {n : Int} (h : ∀ t, t < R.length → ¬ ((R.getD t (0, 0)).1 ≤ n ∧ n ≤ (R.getD t (0, 0)).2)) : hasB R n = false := by
  refine decide_eq_false ?_
  rintro ⟨r, hr, h1⟩
  obtain ⟨t, ht, rfl⟩ := get_mem hr
  exact h t ht h1
theorem hasB_yes {R : List (Int × Int)} {n : Int} {t : Nat} (ht : t < R.length) (h1 : (R.getD t (0, 0)).1 ≤ n) (h2 : n ≤ (R.getD t (0, 0)).2) : hasB R n = true := decide_eq_true ⟨_, mem_get ht, h1, h2⟩
theorem hasB_rp {R L : List (Int × Int)} (h : Rp R L) (n : Int) : hasB R n = hasB L n := by
  unfold hasB
  exact decide_eq_decide.2 (h.m n)
set_option maxHeartbeats 8000000 in
set_option maxRecDepth 100000 in
theorem hasR_any (B g : Nat) (rb : Option Nat) (R : List (Int × Int)) (n : Int) (w : World) (hs : RSet B w g rb R) (hlen : R.length ≤ 4000000000) :
    Calls Try.prog 23 #[.pointer (some ⟨g, 0, none⟩), .int .u64 n] w fun e w' => e = .returned (.bool (hasB R n)) ∧ Below w.heap.size w w' := by
  obtain ⟨hBg, V, hV, hblk, hown⟩ := hs
  obtain ⟨A, cap, rfl, hnc, hcm, _⟩ := sl_of_own hown
  have hcm' : cap ≤ 9223372036854775807 := by unfold maxLen at hcm; omega
  have hrd := rdp_of_own hown
  have c0 : w.cell? ⟨g, 0, none⟩ = some (.slice A R.length cap) := hblk.cell 0
  obtain ⟨m, hm⟩ : ∃ m, m = R.length := ⟨_, rfl⟩
  rw [← hm] at c0 hrd hnc hlen
  have HN := Lib.hid hm
  have HR := Lib.hid hrd
  clear hblk hown hrd hm hcm
  go_enter Try.func23, Try.ntmps23
  go_wp2_with fail
  clear c0
  go_loopw [14] (fun s wr => ∃ (k : Nat), s = .int .i64 k ∧ k ≤ m ∧ Hid (∀ t, t < k → ¬ ((R.getD t (0, 0)).1 ≤ n ∧ n ≤ (R.getD t (0, 0)).2)) ∧ Below w.heap.size w wr) (fun s _ => m - (intOf s).toNat)
  case atStart => exact ⟨0, rfl, Nat.zero_le _, Lib.hid fun t ht => absurd ht (by omega), Below.refl _ _⟩
  case round =>
    obtain ⟨k, rfl, hkm, HA, hB⟩ := hrel
    by_cases hk : k < m
    · obtain ⟨bb, off, rfl, hbb, d0, d1⟩ := (HR.out.below hB).get k hk
      obtain ⟨x, hx⟩ : ∃ x, x = R.getD k (0, 0) := ⟨_, rfl⟩
      rw [← hx] at d0 d1
      have HX := Lib.hid hx
      clear hx
      obtain ⟨a, b⟩ := x
      simp only at d0 d1
      have ea : (R.getD k (0, 0)).1 = a := by rw [← HX.out]
      have eb : (R.getD k (0, 0)).2 = b := by rw [← HX.out]
      have hbA := hB.alloc hB.size (.cells #[.int .u64 a, .int .u64 b] 30)
      by_cases h1 : a ≤ n
      · by_cases h2 : n ≤ b
        · have hy := hasB_yes (R := R) (n := n) (t := k) (by rw [← HN.out]; exact hk) (by rw [ea]; exact h1) (by rw [eb]; exact h2)
          have HY := Lib.hid hy
          have q1 : decide (a ≤ n) = true := decide_eq_true h1
          have q2 : decide (n ≤ b) = true := decide_eq_true h2
          clear hy ea eb
          go_wp2_with fail
          go_ret
          rw [HY.out]
          exact ⟨rfl, hbA⟩
        · have HK : Hid (∀ t, t < k + 1 → ¬ ((R.getD t (0, 0)).1 ≤ n ∧ n ≤ (R.getD t (0, 0)).2)) := Lib.hid fun t ht => by
            rcases Nat.lt_or_eq_of_le (Nat.le_of_lt_succ ht) with h4 | rfl
            · exact HA.out t h4
            · rw [eb]; exact fun h => h2 h.2
          have q1 : decide (a ≤ n) = true := decide_eq_true h1
          have q2 : decide (n ≤ b) = false := decide_eq_false h2
          clear ea eb
          go_wp2_with fail
          go_roundw
          case rel => exact ⟨k + 1, by go_num, by omega, HK, hbA⟩
          case measure => simp [intOf]; omega
      · have HK : Hid (∀ t, t < k + 1 → ¬ ((R.getD t (0, 0)).1 ≤ n ∧ n ≤ (R.getD t (0, 0)).2)) := Lib.hid fun t ht => by
          rcases Nat.lt_or_eq_of_le (Nat.le_of_lt_succ ht) with h4 | rfl
          · exact HA.out t h4
          · rw [ea]; exact fun h => h1 h.1
        have q1 : decide (a ≤ n) = false := decide_eq_false h1
        clear ea eb
        go_wp2_with fail
        go_roundw
        case rel => exact ⟨k + 1, by go_num, by omega, HK, hbA⟩
        case measure => simp [intOf]; omega
    · obtain rfl : k = m := by omega
      have HY := Lib.hid (hasB_no (R := R) (n := n) (fun t ht => HA.out t (by rw [HN.out]; exact ht)))
      go_wp2_with fail
      go_ret
      rw [HY.out]
      exact ⟨rfl, hB⟩
theorem hole_yes {L : List (Int × Int)} (h : Nm 0 L) {n : Int} {t : Nat} (ht : t < L.length) (h1 : (L.getD t (0, 0)).1 ≤ n) (h2 : n ≤ (L.getD t (0, 0)).2) : holeL L n = (L.getD t (0, 0)).2 + 1 := by
  unfold holeL
  have hm : Mm L n := h.at_.2 ⟨t, ht, h1, h2⟩
  rw [if_pos hm]
  have e : t = pl n L := pl_eq h n t (by omega) (fun u hu => by have := h.lt u t hu ht; omega) (fun u hu hl => by
    rcases Nat.lt_or_eq_of_le hu with h3 | rfl
    · have := h.lt t u h3 hl; have := (h.up u hl).2.1; omega
    · exact h2)
  rw [← e]
theorem hole_no {L : List (Int × Int)} (h : Nm 0 L) {n : Int} (hn : ∀ t, t < L.length → ¬ ((L.getD t (0, 0)).1 ≤ n ∧ n ≤ (L.getD t (0, 0)).2)) : holeL L n = n := by
  unfold holeL
  rw [if_neg]
  intro hm
  obtain ⟨t, ht, h1, h2⟩ := h.at_.1 hm
  exact hn t ht ⟨h1, h2⟩
set_option maxHeartbeats 8000000 in
set_option maxRecDepth 100000 in
theorem holeR_any (B g : Nat) (rb : Option Nat) (R L : List (Int × Int)) (n : Int) (w : World) (hs : RSet B w g rb R) (hR : Rp R L) (hlen : R.length ≤ 4000000000) :
    Calls Try.prog 24 #[.pointer (some ⟨g, 0, none⟩), .int .u64 n] w fun e w' => e = .returned (.int .u64 (holeL L n)) ∧ Below w.heap.size w w' := by
  have hN := hR.n
  have HRG := Lib.hid (rangesR_any B g rb R L w hs hR hlen)
  have hLl : L.length ≤ 4000000000 := by have := rp_len hR; omega
  obtain ⟨m, hm⟩ : ∃ m, m = L.length := ⟨_, rfl⟩
  have HN := Lib.hid hN
  have HM := Lib.hid hm
  rw [← hm] at hLl
  clear hR hN hs hm
  go_enter Try.func24, Try.ntmps24
  go_wp2_with fail
  (with_reducible refine HRG.out.mono ?_)
  rintro e w2 ⟨v, rfl, ho2, hb2⟩
  have hr2 := rdp_of_own ho2
  rw [List.length_reverse] at ho2
  obtain ⟨A, cap, rfl, hnc, hcm, _⟩ := sl_of_own ho2
  have hcm' : cap ≤ 9223372036854775807 := by unfold maxLen at hcm; omega
  have HR2 := Lib.hid hr2
  clear HRG ho2 hr2 hcm
  rw [← HM.out] at hnc ⊢
  go_wp2_with fail
  go_loopw [10] (fun s wr => ∃ (k : Nat), s = .int .i64 k ∧ k ≤ m ∧ Hid (∀ t, t < k → ¬ ((L.getD (m - 1 - t) (0, 0)).1 ≤ n ∧ n ≤ (L.getD (m - 1 - t) (0, 0)).2)) ∧ Below w2.heap.size w2 wr) (fun s _ => m - (intOf s).toNat)
  case atStart => exact ⟨0, rfl, Nat.zero_le _, Lib.hid fun t ht => absurd ht (by omega), Below.refl _ _⟩
  case round =>
    obtain ⟨k, rfl, hkm, HA, hB⟩ := hrel
    have hBB := hb2.trans (hB.mono hb2.size)
    by_cases hk : k < m
    · obtain ⟨bb, off, hA2, hbb, d0, d1⟩ := (HR2.out.below hB).get k (by rw [← HM.out]; exact hk)
      subst hA2
      rw [rev_at (by rw [← HM.out]; exact hk), ← HM.out] at d0 d1
      have htl : m - 1 - k < L.length := by rw [← HM.out]; omega
      have hup := HN.out.up _ htl
      obtain ⟨x, hx⟩ : ∃ x, x = L.getD (m - 1 - k) (0, 0) := ⟨_, rfl⟩
      rw [← hx] at d0 d1 hup
      have HX := Lib.hid hx
      clear hx
      obtain ⟨a, b⟩ := x
      simp only [MX] at d0 d1 hup
      have ea : (L.getD (m - 1 - k) (0, 0)).1 = a := by rw [← HX.out]
      have eb : (L.getD (m - 1 - k) (0, 0)).2 = b := by rw [← HX.out]
      have hal := (Below.refl wr.heap.size wr).alloc (Nat.le_refl _) (.cells #[.int .u64 a, .int .u64 b] 30)
      have hbA := hB.trans (hal.mono hB.size)
      have hBA := hBB.trans (hal.mono hBB.size)
      have hw1 : IntKind.u64.wrap (b + 1) = b + 1 := Go.IntWalk.u64_in _ (by omega)
      clear hal
      by_cases h1 : a ≤ n
      · by_cases h2 : n ≤ b
        · have hy := hole_yes HN.out (n := n) htl (by rw [ea]; exact h1) (by rw [eb]; exact h2)
          rw [eb] at hy
          have HY := Lib.hid hy
          have q1 : decide (a ≤ n) = true := decide_eq_true h1
          have q2 : decide (n ≤ b) = true := decide_eq_true h2
          clear hy ea eb htl
          go_wp2_with fail
          go_ret
          rw [HY.out]
          exact ⟨rfl, hBA⟩
        · have HK : Hid (∀ t, t < k + 1 → ¬ ((L.getD (m - 1 - t) (0, 0)).1 ≤ n ∧ n ≤ (L.getD (m - 1 - t) (0, 0)).2)) := Lib.hid fun t ht => by
            rcases Nat.lt_or_eq_of_le (Nat.le_of_lt_succ ht) with h4 | rfl
            · exact HA.out t h4
            · rw [eb]; exact fun h => h2 h.2
          have q1 : decide (a ≤ n) = true := decide_eq_true h1
          have q2 : decide (n ≤ b) = false := decide_eq_false h2
          clear ea eb htl
          go_wp2_with fail
          go_roundw
          case rel => exact ⟨k + 1, by go_num, by omega, HK, hbA⟩
          case measure => simp [intOf]; omega
      · have HK : Hid (∀ t, t < k + 1 → ¬ ((L.getD (m - 1 - t) (0, 0)).1 ≤ n ∧ n ≤ (L.getD (m - 1 - t) (0, 0)).2)) := Lib.hid fun t ht => by
          rcases Nat.lt_or_eq_of_le (Nat.le_of_lt_succ ht) with h4 | rfl
          · exact HA.out t h4
          · rw [ea]; exact fun h => h1 h.1
        have q1 : decide (a ≤ n) = false := decide_eq_false h1
        clear ea eb htl
        go_wp2_with fail
        go_roundw
        case rel => exact ⟨k + 1, by go_num, by omega, HK, hbA⟩
        case measure => simp [intOf]; omega
    · obtain rfl : k = m := by omega
      have HY := Lib.hid (hole_no HN.out (n := n) (fun t ht => by
        have := HA.out (k - 1 - t) (by have := HM.out; omega)
        rwa [show k - 1 - (k - 1 - t) = t by have := HM.out; omega] at this))
      go_wp2_with fail
      go_ret
      rw [HY.out]
      exact ⟨rfl, hBB⟩

end Go.Proofs.Ytcmkegkljappfaa
