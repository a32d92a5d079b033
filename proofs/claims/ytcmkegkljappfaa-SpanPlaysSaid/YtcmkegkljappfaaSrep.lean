/-
  slices.Replace of some ranges by one, in a row of the call's own. No condition.
-/
import Derived.Test.YtcmkegkljappfaaSins
namespace Go.Proofs.Ytcmkegkljappfaa
open Go.RowKit
set_option linter.unusedVariables false
set_option linter.unusedSimpArgs false

set_option maxHeartbeats 4000000 in
set_option maxRecDepth 100000 in
theorem rep_ins (B i j n cap vb : Nat) (A : Option Addr) (f t : Int) (L : List (Int × Int)) (w : World) (hown : w.ownsRow B 30 2 (.slice A n cap) n (pcs L)) (hB : B ≤ w.heap.size) (hn : n ≤ 1000000000) (hv : Blk w vb 30 #[.int .u64 f, .int .u64 t]) (hne : (Value.slice A n cap).ownBlock ≠ some vb) (hij : i = j) (hjn : j ≤ n) :
    Calls Try.prog 26 #[.slice A n cap, .int .i64 i, .int .i64 j, .slice (some ⟨vb, 0, none⟩) 1 1] w fun e w' => ∃ v', e = .returned v' ∧ w'.ownsRow B 30 2 v' (i + 1 + (n - j)) (pcs (L.take i ++ (f, t) :: L.drop j)) ∧ w.grownBy w' (Value.slice A n cap).ownBlock ∧ (v'.ownBlock = (Value.slice A n cap).ownBlock ∨ ∃ b, v'.ownBlock = some b ∧ w.heap.size ≤ b) := by
  subst hij
  have hins := ins_any B i n cap vb A f t L w hown hB hn hv hne hjn
  have hcapm : i ≤ cap ∧ cap ≤ maxLen ∧ n ≤ cap ∧ (A = none → cap = 0) := by
    rcases hown.2 with ⟨h', h0⟩ | ⟨g, cap', cur, h', _, _, h1, h2, _⟩
    · simp only [Value.slice.injEq] at h'
      unfold maxLen
      omega
    · simp only [Value.slice.injEq] at h'
      obtain ⟨rfl, _, rfl⟩ := h'
      exact ⟨by omega, h2, h1, fun h => by cases h⟩
  obtain ⟨h1, h2, h3, h4⟩ := hcapm
  have hcm' : cap ≤ 9223372036854775807 := by unfold maxLen at h2; omega
  have en : i + 1 + (n - i) = n + 1 := by omega
  rw [en]
  clear hown hB hn hne h2 en
  rcases A with _ | ad
  · obtain rfl := h4 rfl
    obtain rfl : n = 0 := by omega
    obtain rfl : i = 0 := by omega
    rw [show ((0 : Nat) : Int) = 0 from rfl] at hins ⊢
    have HI := Lib.hid hins
    clear hins
    go_enter Try.func26, Try.ntmps26
    go_wp2_with fail
    (with_reducible refine HI.out.mono ?_)
    rintro e w2 ⟨v', rfl, hr⟩
    go_wp2_with fail
    go_ret
    exact ⟨_, rfl, hr⟩
  · by_cases hcap : cap = i
    first | subst hcap | skip
    all_goals
      have HI := Lib.hid hins
      clear hins
      go_enter Try.func26, Try.ntmps26
      go_wp2_with fail
      (with_reducible refine HI.out.mono ?_)
      rintro e w2 ⟨v', rfl, hr⟩
      go_wp2_with fail
      go_ret
      exact ⟨_, rfl, hr⟩
set_option maxHeartbeats 4000000 in
set_option maxRecDepth 100000 in
theorem rep_end (B i j n cap vb : Nat) (A : Option Addr) (f t : Int) (L : List (Int × Int)) (w : World) (hown : w.ownsRow B 30 2 (.slice A n cap) n (pcs L)) (hB : B ≤ w.heap.size) (hn : n ≤ 1000000000) (hv : Blk w vb 30 #[.int .u64 f, .int .u64 t]) (hne : (Value.slice A n cap).ownBlock ≠ some vb) (hij : i < j) (hjn : j = n) :
    Calls Try.prog 26 #[.slice A n cap, .int .i64 i, .int .i64 j, .slice (some ⟨vb, 0, none⟩) 1 1] w fun e w' => ∃ v', e = .returned v' ∧ w'.ownsRow B 30 2 v' (i + 1 + (n - j)) (pcs (L.take i ++ (f, t) :: L.drop j)) ∧ w.grownBy w' (Value.slice A n cap).ownBlock ∧ (v'.ownBlock = (Value.slice A n cap).ownBlock ∨ ∃ b, v'.ownBlock = some b ∧ w.heap.size ≤ b) := by
  obtain ⟨i0, hi, hz0, hz1, hz2⟩ := info_parts infoR
  have hlen : L.length = n := by have := hown.1; rw [pcs_len] at this; omega
  subst hjn
  obtain ⟨g, cur, rfl, hBg, hg, hnc, hcm, hcl, hcur⟩ := own_open hown (by omega)
  have hcm' : cap ≤ 9223372036854775807 := by unfold maxLen at hcm; omega
  have hvg : vb ≠ g := by rintro rfl; exact hne rfl
  have hzc : ∀ v ∈ (Value.agg #[.int .u64 0, .int .u64 0]).cells.toList, v.oneCell' = true := by
    intro v hv
    simp only [Value.cells, List.mem_cons, List.not_mem_nil, or_false] at hv
    rcases hv with rfl | rfl <;> rfl
  have e1 : L.take i ++ (f, t) :: L.drop j = L.take i ++ [(f, t)] := by rw [List.drop_eq_nil_of_le (by omega)]
  rw [e1, Nat.sub_self, Nat.add_zero, pcs_app]
  clear e1 hown hlen hne
  have e2 := spl_take (cur := cur) (cs := pcs [(f, t)]) (o := i * 2) (by omega)
  rw [pcs_len, List.length_singleton, show i * 2 + 1 * 2 = (i + 1) * 2 by omega, pcs_eq hcur (by omega)] at e2
  have hsl : (spl cur (i * 2) (pcs [(f, t)])).length = cap * 2 := by rw [spl_len (by rw [pcs_len, List.length_singleton]; omega)]; exact hcl
  have hw2 : IntKind.i64.wrap ((i : Int) + 1) = (i : Int) + 1 := Go.IntWalk.i64_in _ (by omega)
  have hij' : ¬ (i : Int) = (j : Int) := by omega
  have hci : ¬ cap = i := by omega
  have HE := Lib.hid e2
  have HC := Lib.hid hcur
  clear e2 hcur
  by_cases hlast : i + 1 < j
  · have hc2 : ¬ cap = i + 1 := by omega
    have hz : (Builtin.zeroCells (Value.agg #[.int .u64 0, .int .u64 0]).cells (j - (i + 1))).toList.length = (j - (i + 1)) * 2 := by
      rw [Array.length_toList, size_zeroCells]
      rfl
    go_enter Try.func26, Try.ntmps26
    go_wp2_with (first
      | (with_reducible refine wpList_clear_w rfl (.tmp 43) 22 rfl 30 i0 _ Try.underlying22 hi hz0 hzc g ((i + 1) * 2) (j - (i + 1)) (cap - (i + 1)) (spl cur (i * 2) (pcs [(f, t)])) 30 rfl hg4 (by omega) (by rw [hsl, show (Value.agg #[.int .u64 0, .int .u64 0]).cells.size = 2 from rfl]; omega) ?_; intro w5 hg5 hgr5)
      | (at_builtin; refine wpList_append_w rfl (.tmp 32) (.tmp 33) 22 rfl 30 i0 2 Try.underlying22 hi hz1 g i cap ⟨vb, 0, none⟩ 1 1 cur (pcs [(f, t)]) rfl rfl hg (by rw [pcs_len, List.length_singleton]) (src_one hv) (by omega) (by rw [pcs_len, List.length_singleton]; omega) (pcs_one _) ?_; intro w4 hg4 hgr4))
    go_ret
    refine ⟨_, rfl, own_shut hBg hg5 (by omega) hcm (by rw [spl_len (by rw [hz, hsl]; omega)]; exact hsl) ?_, grown_trans hgr4 hgr5, .inl rfl⟩
    rw [spl_before (Nat.le_refl _) (by rw [hsl]; omega)]
    exact HE.out
  · have hlj' : ¬ (i : Int) + 1 < (j : Int) := by omega
    go_enter Try.func26, Try.ntmps26
    go_wp2_with (at_builtin; refine wpList_append_w rfl (.tmp 32) (.tmp 33) 22 rfl 30 i0 2 Try.underlying22 hi hz1 g i cap ⟨vb, 0, none⟩ 1 1 cur (pcs [(f, t)]) rfl rfl hg (by rw [pcs_len, List.length_singleton]) (src_one hv) (by omega) (by rw [pcs_len, List.length_singleton]; omega) (pcs_one _) ?_; intro w4 hg4 hgr4)
    go_ret
    exact ⟨_, rfl, own_shut hBg hg4 (by omega) hcm hsl HE.out, hgr4, .inl rfl⟩
set_option maxHeartbeats 4000000 in
set_option maxRecDepth 100000 in
theorem rep_mid (B i j n cap vb : Nat) (A : Option Addr) (f t : Int) (L : List (Int × Int)) (w : World) (hown : w.ownsRow B 30 2 (.slice A n cap) n (pcs L)) (hB : B ≤ w.heap.size) (hn : n ≤ 1000000000) (hv : Blk w vb 30 #[.int .u64 f, .int .u64 t]) (hne : (Value.slice A n cap).ownBlock ≠ some vb) (hij : i < j) (hjn : j < n) :
    Calls Try.prog 26 #[.slice A n cap, .int .i64 i, .int .i64 j, .slice (some ⟨vb, 0, none⟩) 1 1] w fun e w' => ∃ v', e = .returned v' ∧ w'.ownsRow B 30 2 v' (i + 1 + (n - j)) (pcs (L.take i ++ (f, t) :: L.drop j)) ∧ w.grownBy w' (Value.slice A n cap).ownBlock ∧ (v'.ownBlock = (Value.slice A n cap).ownBlock ∨ ∃ b, v'.ownBlock = some b ∧ w.heap.size ≤ b) := by
  obtain ⟨i0, hi, hz0, hz1, hz2⟩ := info_parts infoR
  have hlen : L.length = n := by have := hown.1; rw [pcs_len] at this; omega
  obtain ⟨g, cur, rfl, hBg, hg, hnc, hcm, hcl, hcur⟩ := own_open hown (by omega)
  have hcm' : cap ≤ 9223372036854775807 := by unfold maxLen at hcm; omega
  have hvg : vb ≠ g := by rintro rfl; exact hne rfl
  have hzc : ∀ v ∈ (Value.agg #[.int .u64 0, .int .u64 0]).cells.toList, v.oneCell' = true := by
    intro v hv
    simp only [Value.cells, List.mem_cons, List.not_mem_nil, or_false] at hv
    rcases hv with rfl | rfl <;> rfl
  have hdl : (pcs (L.drop j)).length = (n - j) * 2 := by rw [pcs_len, List.length_drop, hlen]
  obtain ⟨tot, htot⟩ : ∃ tot : Nat, tot = i + 1 + (n - j) := ⟨_, rfl⟩
  rw [← htot]
  have ht1 : (i : Int) + 1 + ((n : Int) - (j : Int)) = (tot : Int) := by omega
  have ht2 : ((n - j : Nat) : Int) = (n : Int) - (j : Int) := by omega
  have ht3 : tot ≤ n := by omega
  have ht4 : i + 1 ≤ tot := by omega
  have htd : tot - (i + 1) = n - j := by omega
  have hw2 : IntKind.i64.wrap ((i : Int) + 1) = (i : Int) + 1 := Go.IntWalk.i64_in _ (by omega)
  have hw3 : IntKind.i64.wrap ((i : Int) + 1 + ((n : Int) - (j : Int))) = (tot : Int) := by rw [ht1]; exact Go.IntWalk.i64_in _ (by omega)
  have ht5 : (i : Int) + 1 + ((n - j : Nat) : Int) = (tot : Int) := by omega
  have hij' : ¬ (i : Int) = (j : Int) := by omega
  have hjn' : ¬ (j : Int) = (n : Int) := by omega
  have hci : ¬ cap = i := by omega
  have hcj : ¬ cap = j := by omega
  have hci1 : ¬ cap = i + 1 := by omega
  have htc : (tot : Int) ≤ (cap : Int) := by omega
  have hb1 : (0 : Int) ≤ (i : Int) + 1 := by omega
  have htn : ((i : Int) + 1).toNat = i + 1 := by omega
  have hle1 : (i : Int) + 1 ≤ (j : Int) := by omega
  have hle2 : j ≤ n := by omega
  have hle6 : (i : Int) + 1 ≤ (tot : Int) := by omega
  have hle7 : (j : Int) ≤ (n : Int) := by omega
  have hle3 : i ≤ tot := by omega
  have hle4 : i ≤ cap := by omega
  have hle5 : tot ≤ cap := by omega
  have hc1l : (pcs [(f, t)]).length = 2 := by rw [pcs_len, List.length_singleton]
  have hsl : (spl cur (i * 2) (pcs [(f, t)])).length = cap * 2 := by rw [spl_len (by rw [hc1l]; omega)]; exact hcl
  have hsl2 : (spl (spl cur (i * 2) (pcs [(f, t)])) ((i + 1) * 2) (pcs (L.drop j))).length = cap * 2 := by rw [spl_len (by rw [hdl, hsl]; omega)]; exact hsl
  have hfin : (spl (spl cur (i * 2) (pcs [(f, t)])) ((i + 1) * 2) (pcs (L.drop j))).take (tot * 2) = pcs (L.take i ++ (f, t) :: L.drop j) := by
    have e := spl_take (cur := spl cur (i * 2) (pcs [(f, t)])) (cs := pcs (L.drop j)) (o := (i + 1) * 2) (by omega)
    have e2 := spl_take (cur := cur) (cs := pcs [(f, t)]) (o := i * 2) (by omega)
    rw [hc1l, show i * 2 + 2 = (i + 1) * 2 by omega, pcs_eq hcur (by omega)] at e2
    rw [hdl, show (i + 1) * 2 + (n - j) * 2 = tot * 2 by omega, e2] at e
    rw [e, pcs_app, List.append_assoc, ← pcs_app]
    rfl
  have hsrc2 : ∀ W : World, Blk W g 30 (spl cur (i * 2) (pcs [(f, t)])).toArray → ∀ k v, (pcs (L.drop j))[k]? = some v → W.cell? ((⟨g, j * 2, none⟩ : Addr).add k) = some v := by
    intro W hW k v hk
    rw [addr_add, hW.cell]
    rw [pcs_drop, List.getElem?_drop, ← hcur, List.getElem?_take] at hk
    split at hk
    · have e : (spl cur (i * 2) (pcs [(f, t)]))[j * 2 + k]? = cur[j * 2 + k]? := by
        unfold spl
        rw [List.getElem?_append_right (by rw [List.length_append, hc1l]; simp; omega), List.getElem?_drop]
        congr 1
        rw [List.length_append, hc1l]
        simp
        omega
      simpa [e] using hk
    · cases hk
  have HS := Lib.hid hsrc2
  have HF := Lib.hid hfin
  clear hsrc2 hfin hown hlen hne hcur ht1 ht2 htot
  go_enter Try.func26, Try.ntmps26
  go_wp2_with fail
  go_quiet (fail)
  go_wp2_with (with_reducible refine wpList_copy_w rfl (.tmp 95) (.tmp 96) 22 22 rfl 30 2 Try.underlying22 sizeI g (i * 2) (tot - i) (cap - i) ⟨vb, 0, none⟩ 1 1 cur 30 (pcs [(f, t)]) rfl rfl (hg.drewN nq) (by simp only [Nat.min_def, pcs_len, List.length_singleton]; split <;> omega) (src_one (hv.drewN nq)) (by rw [hc1l]; omega) (pcs_one _) ?_; intro w4 hg4 hgr4)
  have hv4 := (hv.drewN nq).grown hgr4 (by simp; exact hvg)
  clear hg hv
  go_region_law ((refine step_copy_w rfl (.tmp 103) (.tmp 106) 22 22 rfl 30 2 Try.underlying22 sizeI g ((i + 1) * 2) (n - j) (cap - (i + 1)) ⟨g, j * 2, none⟩ (n - j) (cap - j) (spl cur (i * 2) (pcs [(f, t)])) 30 (pcs (L.drop j)) (by simp [Act.eval, Act.put]) (by simp [Act.eval, Act.put]) (by first | exact hg4 | exact hg4.drew) (by rw [hdl]; simp only [Nat.min_def]; split <;> omega) (by first | exact HS.out _ hg4 | exact HS.out _ hg4.drew) (by rw [hdl, hsl]; omega) (pcs_one _) ?_; intro w5 hg5 hgr5))
  all_goals
    have hgr : w.grownBy w5 (some g) := grown_trans (grown_trans (grown_drewN (grown_refl w (some g)) nq) hgr4) (grown_pre hgr5)
    clear hgr4 hgr5 hw2 hw3 htn ht5 hg4
    rcases Nat.lt_or_eq_of_le ht3 with hlt | heq
    · have hct : ¬ cap = tot := by omega
      have hz : (Builtin.zeroCells (Value.agg #[.int .u64 0, .int .u64 0]).cells (n - tot)).toList.length = (n - tot) * 2 := by
        rw [Array.length_toList, size_zeroCells]
        rfl
      go_wp2_with (with_reducible refine wpList_clear_w rfl (.tmp 110) 22 rfl 30 i0 _ Try.underlying22 hi hz0 hzc g (tot * 2) (n - tot) (cap - tot) _ 30 rfl hg5 (by omega) (by rw [hsl2, show (Value.agg #[.int .u64 0, .int .u64 0]).cells.size = 2 from rfl]; omega) ?_; intro w6 hg6 hgr6)
      go_ret
      refine ⟨_, rfl, own_shut hBg hg6 (by omega) hcm (by rw [spl_len (by rw [hz, hsl2]; omega)]; exact hsl2) ?_, grown_trans hgr hgr6, .inl rfl⟩
      rw [spl_before (Nat.le_refl _) (by rw [hsl2]; omega)]
      exact HF.out
    · subst heq
      have e0 : tot - tot = 0 := Nat.sub_self _
      by_cases hct : cap = tot
      first | subst hct | skip
      all_goals
        go_wp2_with (with_reducible refine wpList_clear_no rfl (.tmp 110) 22 rfl 30 Try.underlying22 _ _ rfl ?_)
        go_ret
        exact ⟨_, rfl, own_shut hBg hg5 (by omega) hcm hsl2 HF.out, hgr, .inl rfl⟩
set_option maxHeartbeats 4000000 in
set_option maxRecDepth 100000 in
theorem rep_any (B i j n cap vb : Nat) (A : Option Addr) (f t : Int) (L : List (Int × Int)) (w : World) (hown : w.ownsRow B 30 2 (.slice A n cap) n (pcs L)) (hB : B ≤ w.heap.size) (hn : n ≤ 1000000000) (hv : Blk w vb 30 #[.int .u64 f, .int .u64 t]) (hne : (Value.slice A n cap).ownBlock ≠ some vb) (hij : i ≤ j) (hjn : j ≤ n) :
    Calls Try.prog 26 #[.slice A n cap, .int .i64 i, .int .i64 j, .slice (some ⟨vb, 0, none⟩) 1 1] w fun e w' => ∃ v', e = .returned v' ∧ w'.ownsRow B 30 2 v' (i + 1 + (n - j)) (pcs (L.take i ++ (f, t) :: L.drop j)) ∧ w.grownBy w' (Value.slice A n cap).ownBlock ∧ (v'.ownBlock = (Value.slice A n cap).ownBlock ∨ ∃ b, v'.ownBlock = some b ∧ w.heap.size ≤ b) := by
  rcases Nat.lt_or_eq_of_le hij with h | h
  · rcases Nat.lt_or_eq_of_le hjn with h2 | h2
    · exact rep_mid B i j n cap vb A f t L w hown hB hn hv hne h h2
    · exact rep_end B i j n cap vb A f t L w hown hB hn hv hne h h2
  · exact rep_ins B i j n cap vb A f t L w hown hB hn hv hne h hjn

end Go.Proofs.Ytcmkegkljappfaa
