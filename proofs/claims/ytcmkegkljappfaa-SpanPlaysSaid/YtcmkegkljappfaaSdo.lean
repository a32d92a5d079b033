/-
  The reference's Add and Trim; both sets side by side. No condition.
-/
import Derived.Test.YtcmkegkljappfaaSrefr
import Derived.Test.YtcmkegkljappfaaSorder
namespace Go.Proofs.Ytcmkegkljappfaa
open Go.RowKit
set_option linter.unusedVariables false
set_option linter.unusedSimpArgs false


theorem own_pre {w : World} {B n cap m : Nat} {A : Option Addr} {l : List (Int × Int)} (h : w.ownsRow B 30 2 (.slice A n cap) n (pcs l)) (hm : m ≤ n) : w.ownsRow B 30 2 (.slice A m cap) m (pcs (l.take m)) := by
  have hl := h.1
  rw [pcs_len] at hl
  refine ⟨by rw [pcs_len, List.length_take]; omega, ?_⟩
  rcases h.2 with ⟨h1, h2⟩ | ⟨g, c, cur, h1, hb, hg, h3, h4, h5, h6⟩
  · simp only [Value.slice.injEq] at h1
    obtain ⟨rfl, rfl, rfl⟩ := h1
    exact .inl ⟨by rw [show m = 0 by omega], by omega⟩
  · simp only [Value.slice.injEq] at h1
    obtain ⟨rfl, _, rfl⟩ := h1
    refine .inr ⟨g, cap, cur, rfl, hb, hg, by omega, h4, h5, ?_⟩
    rw [pcs_take, ← h6, List.take_take]
    congr 1
    omega
theorem rdv_row {w : World} {base n cap : Nat} {A : Option Addr} {l : List (Int × Int)} (h : w.ownsRow base 30 2 (.slice A n cap) n (pcs l)) : RdV w 2 A n (pcs l) ∧ (A = none → n = 0) := by
  have h1 := rdp_of_own h
  obtain ⟨e, h2, _, _, h3⟩ := h1.parts
  exact ⟨h3, h2⟩
theorem own_litR {B n : Nat} {X w : World} (hn : n = X.heap.size) (h : Below (X.alloc (.cells #[] 30)).heap.size (X.alloc (.cells #[] 30)) w) (hB : B ≤ X.heap.size) : w.ownsRow B 30 2 (.slice (some ⟨n, 0, none⟩) 0 0) 0 [] :=
  hn ▸ own_same (World.ownsRow_lit (size := 2) (e := 30) X #[] 0 hB (by decide) rfl) h
def adR (f t : Int) (R : List (Int × Int)) : List (Int × Int) := if adE f t = 0 then R ++ [(f, t)] else R
set_option maxHeartbeats 4000000 in
set_option maxRecDepth 100000 in
theorem addR_any (B g : Nat) (rb : Option Nat) (R : List (Int × Int)) (f t : Int) (w : World) (hs : RSet B w g rb R) (hB0 : B ≤ w.heap.size) (hL : R.length ≤ 4000000000) (hf : 0 ≤ f) : Calls Try.prog 31 #[.pointer (some ⟨g, 0, none⟩), .int .u64 f, .int .u64 t] w fun e w' => ∃ rb', e = .returned (.int .i64 (adE f t)) ∧ RSet B w' g rb' (adR f t R) ∧ w.grownBy w' (some g) ∧ Fr w rb rb' := by
  unfold adR
  by_cases hE : adE f t = 0
  · rw [if_pos hE, hE]
    obtain ⟨i0, hi, hz0, hz1, hz2⟩ := info_parts infoR
    obtain ⟨h1, h2⟩ := adE_ok hE
    have h2' : t ≤ 4611686018427387903 := h2
    clear h2 hE
    obtain ⟨hBg, V, hV, hblk, hown⟩ := hs
    obtain ⟨A, cap, rfl, hnc, hcm, _⟩ := sl_of_own hown
    have hcm' : cap ≤ 9223372036854775807 := by unfold maxLen at hcm; omega
    have hgl := hblk.lt
    have hBal := (Below.refl w.heap.size w).alloc (Nat.le_refl _) (.cells #[] 30)
    have c0 : World.cell? (w.alloc (.cells #[] 30)) ⟨g, 0, none⟩ = some (.slice A R.length cap) := (hblk.alloc _).cell 0
    obtain ⟨hrv, hrn⟩ := rdv_row (hown.alloc (.cells #[] 30))
    have hlit := own_litR (B := w.heap.size) (X := w) rfl (Below.refl _ _) (Nat.le_refl _)
    have h1' : ¬ t < f := by omega
    have HB := Lib.hid hblk
    clear hblk hown hcm
    go_enter Try.func31, Try.ntmps31
    go_wp2_with (first
      | (at_builtin; refine wpList_append_any _ rfl _ _ 22 rfl w.heap.size 30 i0 _ 2 16 Try.underlying22 hi hz0 hz1 hz2 rfl (by decide) v4 R.length _ rfl (hown4.alloc _) (some ⟨w4.heap.size, 0, none⟩) 1 1 (pcs [(f, t)]) rfl (rdv_one (f := f) (t := t) (blk_new_at rfl)) (pcs_one _) (by unfold maxLen; omega) (by omega) (by have := hB4.size; simp; omega) (by simp) ?_; intro v6 w6 hown6 hgrow6 hat6; have hB6 := (hB4.alloc hB4.size (.cells #[.int .u64 f, .int .u64 t] 30)).grown hgrow6 (by have := hB4.size; simp; omega) (fun b hb => (hown4.lt b hb).1); have hbk := HB.out.same hB6; have hne := own_blk_ne hown6 hbk (by decide); obtain ⟨A6, c6, hv6, _⟩ := sl_of_own hown6; subst hv6; have d1 : w6.cell? ⟨g, 0, none⟩ = some _ := hbk.cell 0; have f1 := hbk.frozen 0)
      | (at_builtin; refine wpList_append_any _ rfl _ _ 22 rfl w.heap.size 30 i0 _ 2 16 Try.underlying22 hi hz0 hz1 hz2 rfl (by decide) (.slice (some ⟨w.heap.size, 0, none⟩) 0 0) 0 [] rfl hlit A R.length cap (pcs R) rfl hrv (pcs_one _) (by unfold maxLen; omega) (by omega) (by simp) hrn ?_; intro v4 w4 hown4 hgrow4 hat4; rw [Nat.zero_add, List.nil_append] at hown4; have hB4 : Below w.heap.size w w4 := hBal.grown hgrow4 (by simp) (fun b hb => by simp [Value.ownBlock] at hb; omega)))
    go_ret
    first | refine ⟨_, rfl, ⟨hBg, _, rfl, by simpa using hbk.set_ 0 _, ?_⟩, grown_set (grown_below hB6 _) _ _, fun b hb => .inr (hown6.lt b hb).1⟩ | refine ⟨rfl, _, ⟨hBg, _, rfl, by simpa using hbk.set_ 0 _, ?_⟩, grown_set (grown_below hB6 _) _ _, fun b hb => .inr (hown6.lt b hb).1⟩
    have e1 : (R ++ [(f, t)]).length = R.length + 1 := by simp
    rw [e1, pcs_app]
    exact own_base (own_far hown6 hne _) hB0
  · rw [if_neg hE]
    unfold adE at hE ⊢
    by_cases h1 : t < f
    · rw [if_pos (.inl h1)]
      go_enter Try.func31, Try.ntmps31
      go_wp2_with fail
      go_ret
      first | exact ⟨rb, rfl, hs, grown_refl _ _, Fr.refl _ _⟩ | exact ⟨rfl, rb, hs, grown_refl _ _, Fr.refl _ _⟩
    · by_cases h2 : MX < t
      · rw [if_pos (.inr h2)]
        have h2' : 4611686018427387903 < t := h2
        have h1' : f ≤ t := by omega
        clear hE h2
        go_enter Try.func31, Try.ntmps31
        go_wp2_with fail
        go_ret
        first | exact ⟨rb, rfl, hs, grown_refl _ _, Fr.refl _ _⟩ | exact ⟨rfl, rb, hs, grown_refl _ _, Fr.refl _ _⟩
      · rw [if_neg (by omega)] at hE
        exact absurd rfl hE
def trR (m : Int) (L : List (Int × Int)) : List (Int × Int) := L.reverse.take (min L.length (max m 0).toNat)
set_option maxHeartbeats 4000000 in
set_option maxRecDepth 100000 in
theorem trimR_any (B g : Nat) (rb : Option Nat) (R : List (Int × Int)) (L : List (Int × Int)) (m : Int) (w : World) (hs : RSet B w g rb R) (hR : Rp R L) (hB0 : B ≤ w.heap.size) (hL : R.length ≤ 4000000000) : Calls Try.prog 30 #[.pointer (some ⟨g, 0, none⟩), .int .i64 m] w fun e w' => ∃ rb', e = .returned (.tuple #[]) ∧ RSet B w' g rb' (trR m L) ∧ w.grownBy w' (some g) ∧ Fr w rb rb' := by
  have hrg := rangesR_any B g rb R L w hs hR hL
  have HRG := Lib.hid hrg
  have hLR := rp_len hR
  obtain ⟨hBg, V, hV, hblk, hown⟩ := hs
  have HB := Lib.hid hblk
  unfold trR
  rw [List.length_reverse] at hrg
  obtain ⟨n, hn⟩ : ∃ n, n = L.length := ⟨_, rfl⟩
  rw [← hn] at hrg hLR ⊢
  obtain ⟨k, hk⟩ : ∃ k : Nat, (k : Int) = max m 0 := ⟨(max m 0).toNat, by omega⟩
  rw [← hk]
  simp only [Int.toNat_natCast]
  obtain ⟨d, hd⟩ : ∃ d, d = min n k := ⟨_, rfl⟩
  rw [← hd]
  have hm1 : (if m < 0 then 0 else m) = (k : Int) := by rw [hk]; split <;> omega
  have hm2 : (if 0 < m then m else 0) = (k : Int) := by rw [hk]; split <;> omega
  have hd1 : (if (n : Int) < (k : Int) then (n : Int) else (k : Int)) = (d : Int) := by rw [hd]; split <;> omega
  have hd2 : (if (k : Int) < (n : Int) then (k : Int) else (n : Int)) = (d : Int) := by rw [hd]; split <;> omega
  have hdn : d ≤ n := by omega
  have hmk : (m < 0 ∧ k = 0) ∨ (0 ≤ m ∧ m = (k : Int)) := by omega
  have hdk : (n < k ∧ d = n) ∨ (k ≤ n ∧ d = k) := by omega
  have hgl := hblk.lt
  clear hk hd hm1 hm2 hd1 hd2 hrg hown hblk hV hR
  have HN := Lib.hid hn
  clear hn
  rcases hmk with ⟨hneg, rfl⟩ | ⟨hge, rfl⟩
  · obtain rfl : d = 0 := by omega
    clear hdk
    rcases Nat.eq_zero_or_pos n with rfl | hnp
    · go_enter Try.func30, Try.ntmps30
      go_wp2_with fail
      (with_reducible refine HRG.out.mono ?_)
      rintro e w2 ⟨v, rfl, ho, hB⟩
      rw [List.length_reverse] at ho
      rw [← HN.out] at ho
      have hbk := HB.out.same hB
      obtain ⟨A1, cp1, rfl, hn1, hc1, _⟩ := sl_of_own ho
      have hq1 : cp1 ≤ 9223372036854775807 := by unfold maxLen at hc1; omega
      have hp := own_pre ho hdn
      have hne := own_blk_ne hp hbk (by decide)
      have c1 : w2.cell? ⟨g, 0, none⟩ = some V := hbk.cell 0
      have f1 := hbk.frozen 0
      have hnc1 : (0 : Int) ≤ (cp1 : Int) := by omega
      clear hc1
      go_wp2_with fail
      go_end0
      first | refine ⟨_, rfl, ⟨hBg, _, rfl, by simpa using hbk.set_ 0 _, ?_⟩, grown_set (grown_below hB _) _ _, fun b hb => .inr (hp.lt b hb).1⟩ | refine ⟨rfl, _, ⟨hBg, _, rfl, by simpa using hbk.set_ 0 _, ?_⟩, grown_set (grown_below hB _) _ _, fun b hb => .inr (hp.lt b hb).1⟩
      have e1 : (L.reverse.take 0).length = 0 := by rw [List.length_take, List.length_reverse, ← HN.out]; omega
      first | rw [e1] | skip
      exact own_base (own_far hp hne _) hB0
    · go_enter Try.func30, Try.ntmps30
      go_wp2_with fail
      (with_reducible refine HRG.out.mono ?_)
      rintro e w2 ⟨v, rfl, ho, hB⟩
      rw [List.length_reverse] at ho
      rw [← HN.out] at ho
      have hbk := HB.out.same hB
      obtain ⟨A1, cp1, rfl, hn1, hc1, _⟩ := sl_of_own ho
      have hq1 : cp1 ≤ 9223372036854775807 := by unfold maxLen at hc1; omega
      have hp := own_pre ho hdn
      have hne := own_blk_ne hp hbk (by decide)
      have c1 : w2.cell? ⟨g, 0, none⟩ = some V := hbk.cell 0
      have f1 := hbk.frozen 0
      have hnc1 : (0 : Int) ≤ (cp1 : Int) := by omega
      clear hc1
      go_wp2_with fail
      go_end0
      first | refine ⟨_, rfl, ⟨hBg, _, rfl, by simpa using hbk.set_ 0 _, ?_⟩, grown_set (grown_below hB _) _ _, fun b hb => .inr (hp.lt b hb).1⟩ | refine ⟨rfl, _, ⟨hBg, _, rfl, by simpa using hbk.set_ 0 _, ?_⟩, grown_set (grown_below hB _) _ _, fun b hb => .inr (hp.lt b hb).1⟩
      have e1 : (L.reverse.take 0).length = 0 := by rw [List.length_take, List.length_reverse, ← HN.out]; omega
      first | rw [e1] | skip
      exact own_base (own_far hp hne _) hB0
  · rcases hdk with ⟨hlt, rfl⟩ | ⟨hle, rfl⟩
    · go_enter Try.func30, Try.ntmps30
      go_wp2_with fail
      (with_reducible refine HRG.out.mono ?_)
      rintro e w2 ⟨v, rfl, ho, hB⟩
      rw [List.length_reverse] at ho
      rw [← HN.out] at ho
      have hbk := HB.out.same hB
      obtain ⟨A1, cp1, rfl, hn1, hc1, _⟩ := sl_of_own ho
      have hq1 : cp1 ≤ 9223372036854775807 := by unfold maxLen at hc1; omega
      have hp := own_pre ho hdn
      have hne := own_blk_ne hp hbk (by decide)
      have c1 : w2.cell? ⟨g, 0, none⟩ = some V := hbk.cell 0
      have f1 := hbk.frozen 0
      have hnc1 : (d : Int) ≤ (cp1 : Int) := by omega
      clear hc1
      go_wp2_with fail
      go_end0
      first | refine ⟨_, rfl, ⟨hBg, _, rfl, by simpa using hbk.set_ 0 _, ?_⟩, grown_set (grown_below hB _) _ _, fun b hb => .inr (hp.lt b hb).1⟩ | refine ⟨rfl, _, ⟨hBg, _, rfl, by simpa using hbk.set_ 0 _, ?_⟩, grown_set (grown_below hB _) _ _, fun b hb => .inr (hp.lt b hb).1⟩
      have e1 : (L.reverse.take d).length = d := by rw [List.length_take, List.length_reverse, ← HN.out]; omega
      first | rw [e1] | skip
      exact own_base (own_far hp hne _) hB0
    · rcases Nat.lt_or_eq_of_le hle with hlt | rfl
      · go_enter Try.func30, Try.ntmps30
        go_wp2_with fail
        (with_reducible refine HRG.out.mono ?_)
        rintro e w2 ⟨v, rfl, ho, hB⟩
        rw [List.length_reverse] at ho
        rw [← HN.out] at ho
        have hbk := HB.out.same hB
        obtain ⟨A1, cp1, rfl, hn1, hc1, _⟩ := sl_of_own ho
        have hq1 : cp1 ≤ 9223372036854775807 := by unfold maxLen at hc1; omega
        have hp := own_pre ho hdn
        have hne := own_blk_ne hp hbk (by decide)
        have c1 : w2.cell? ⟨g, 0, none⟩ = some V := hbk.cell 0
        have f1 := hbk.frozen 0
        have hnc1 : (d : Int) ≤ (cp1 : Int) := by omega
        clear hc1
        go_wp2_with fail
        go_end0
        first | refine ⟨_, rfl, ⟨hBg, _, rfl, by simpa using hbk.set_ 0 _, ?_⟩, grown_set (grown_below hB _) _ _, fun b hb => .inr (hp.lt b hb).1⟩ | refine ⟨rfl, _, ⟨hBg, _, rfl, by simpa using hbk.set_ 0 _, ?_⟩, grown_set (grown_below hB _) _ _, fun b hb => .inr (hp.lt b hb).1⟩
        have e1 : (L.reverse.take d).length = d := by rw [List.length_take, List.length_reverse, ← HN.out]; omega
        first | rw [e1] | skip
        exact own_base (own_far hp hne _) hB0
      · go_enter Try.func30, Try.ntmps30
        go_wp2_with fail
        (with_reducible refine HRG.out.mono ?_)
        rintro e w2 ⟨v, rfl, ho, hB⟩
        rw [List.length_reverse] at ho
        rw [← HN.out] at ho
        have hbk := HB.out.same hB
        obtain ⟨A1, cp1, rfl, hn1, hc1, _⟩ := sl_of_own ho
        have hq1 : cp1 ≤ 9223372036854775807 := by unfold maxLen at hc1; omega
        have hp := own_pre ho hdn
        have hne := own_blk_ne hp hbk (by decide)
        have c1 : w2.cell? ⟨g, 0, none⟩ = some V := hbk.cell 0
        have f1 := hbk.frozen 0
        have hnc1 : (d : Int) ≤ (cp1 : Int) := by omega
        clear hc1
        go_wp2_with fail
        go_end0
        first | refine ⟨_, rfl, ⟨hBg, _, rfl, by simpa using hbk.set_ 0 _, ?_⟩, grown_set (grown_below hB _) _ _, fun b hb => .inr (hp.lt b hb).1⟩ | refine ⟨rfl, _, ⟨hBg, _, rfl, by simpa using hbk.set_ 0 _, ?_⟩, grown_set (grown_below hB _) _ _, fun b hb => .inr (hp.lt b hb).1⟩
        have e1 : (L.reverse.take d).length = d := by rw [List.length_take, List.length_reverse, ← HN.out]; omega
        first | rw [e1] | skip
        exact own_base (own_far hp hne _) hB0

end Go.Proofs.Ytcmkegkljappfaa
