/-
  Drop and Trim; two slices of ranges held against one another; a copy. No condition.
-/
import Derived.Test.YtcmkegkljappfaaScut
namespace Go.Proofs.Ytcmkegkljappfaa
open Go.RowKit
set_option linter.unusedVariables false
set_option linter.unusedSimpArgs false

set_option maxHeartbeats 4000000 in
set_option maxRecDepth 100000 in
theorem sameR_yes (va vb : Value) (l : List (Int × Int)) (w : World) (ha : RdP w va l) (hb : RdP w vb l) :
    Calls Try.prog 12 #[va, vb] w fun e w' => e = .returned (.bool true) ∧ ∃ m, w.drewN m = w' := by
  obtain ⟨A, ca, rfl⟩ := ha.form
  obtain ⟨A', cb, rfl⟩ := hb.form
  obtain ⟨_, _, pa1, pa2, _⟩ := ha.parts
  obtain ⟨_, _, pb1, pb2, _⟩ := hb.parts
  have hq : ca ≤ 9223372036854775807 := by unfold maxLen at pa2; omega
  have hq' : cb ≤ 9223372036854775807 := by unfold maxLen at pb2; omega
  clear pa2 pb2
  have H := Lib.hid ha
  have H' := Lib.hid hb
  clear ha hb
  obtain ⟨n, hn⟩ : ∃ n, n = l.length := ⟨_, rfl⟩
  rw [← hn] at pa1 pb1 ⊢
  have HN := Lib.hid hn
  clear hn
  go_enter Try.func12, Try.ntmps12
  go_wp2_with fail
  go_loopw [13] (fun i wr => ∃ (k m : Nat), k ≤ n ∧ i = .int .i64 k ∧ wr = w.drewN m) (fun i _ => n - (intOf i).toNat)
  case atStart => exact ⟨0, 0, Nat.zero_le _, rfl, rfl⟩
  case round =>
    obtain ⟨k, m, hkn, rfl, rfl⟩ := hrel
    by_cases hlt : k < n
    · obtain ⟨b, off, e, hb, c0, c1⟩ := H.out.at_ k (HN.out ▸ hlt)
      obtain ⟨b', off', e', hb', d0, d1⟩ := H'.out.at_ k (HN.out ▸ hlt)
      subst e
      subst e'
      obtain ⟨x, hx⟩ : ∃ x, x = l.getD k (0, 0) := ⟨_, rfl⟩
      rw [← hx] at c0 c1 d0 d1
      clear hx
      obtain ⟨x0, x1⟩ := x
      simp only at c0 c1 d0 d1
      go_wp2_with (go_quiet (fail))
      go_roundw
      case rel => exact ⟨k + 1, _, by omega, by go_num, rfl⟩
      case measure => simp [intOf]; omega
    · go_wp2_with fail
      go_ret
      exact ⟨rfl, _, rfl⟩
set_option maxHeartbeats 4000000 in
set_option maxRecDepth 100000 in
theorem cloneR_any (v : Value) (l : List (Int × Int)) (w : World) (ha : RdP w v l) (hl : l.length ≤ 1000000) :
    Calls Try.prog 32 #[v] w fun e w' => ∃ v', e = .returned v' ∧ w'.ownsRow w.heap.size 30 2 v' l.length (pcs l) ∧ Below w.heap.size w w' := by
  obtain ⟨j0, hj, hy0, hy1, hy2⟩ := info_parts infoR
  obtain ⟨A, cap, rfl⟩ := ha.form
  obtain ⟨_, hA, hlc, hcm, hrd⟩ := ha.parts
  have hrd1 := (ha.alloc (.cells #[] 30)).parts.2.2.2.2
  have hown0 := World.ownsRow_lit (size := 2) (e := 30) w #[] 0 (Nat.le_refl _) (by decide) rfl
  have hnil := fun W : World => Lib.run_eql_slice_nil (P := Try.prog) W 22 30 A l.length cap 0 0 Try.underlying22
  rcases A with _ | ad
  · have h0 : l = [] := List.eq_nil_of_length_eq_zero (hA rfl)
    subst h0
    simp only [List.length_nil] at hnil
    go_enter Try.func32, Try.ntmps32
    go_wp2
    go_ret
    exact ⟨_, rfl, World.ownsRow_nil _ _ _ _, Below.refl _ _⟩
  · go_enter Try.func32, Try.ntmps32
    go_wp2_with (at_builtin; refine wpList_append_any _ rfl _ _ 22 rfl w.heap.size 30 j0 _ 2 16 Try.underlying22 hj hy0 hy1 hy2 rfl (by decide) (.slice (some ⟨w.heap.size, 0, none⟩) 0 0) 0 [] rfl hown0 (some ad) l.length cap _ rfl hrd1 (pcs_one _) (by unfold maxLen; omega) (by omega) (by simp) hA ?_; intro v1 w1 hown1 hgrow1 hat1)
    go_ret
    exact ⟨_, rfl, by simpa using hown1, ((Below.refl _ _).alloc (Nat.le_refl _) _).grown hgrow1 (by simp) (by simp [Value.ownBlock])⟩


def drN (b : Int) (L : List (Int × Int)) : List (Int × Int) := if 0 < b then cuN 0 (b - 1) L else L
def trN (m : Int) (L : List (Int × Int)) : List (Int × Int) := if max m 0 < (L.length : Int) then L.drop (L.length - (max m 0).toNat) else L
theorem own_some {w : World} {b n c : Nat} {e : TypeId} {s : Nat} {A : Option Addr} {xs : List Value} (h : w.ownsRow b e s (.slice A n c) n xs) (hn : 0 < n) : ∃ g, A = some ⟨g, 0, none⟩ := by
  rcases h.2 with ⟨_, h0⟩ | ⟨g, cap, cur, h', _⟩
  · omega
  · simp only [Value.slice.injEq] at h'
    exact ⟨g, h'.1⟩
theorem RdP.suf {w : World} {b off n cap : Nat} {l : List (Int × Int)} (h : RdP w (.slice (some ⟨b, off, none⟩) n cap) l) {m : Nat} (hm : m ≤ l.length) : RdP w (.slice (some ⟨b, off + m * 2, none⟩) (l.length - m) (cap - m)) (l.drop m) := by
  obtain ⟨rfl, h1, h2, h3, h4, h5⟩ := h.parts
  have hl : (l.drop m).length = l.length - m := by simp
  refine ⟨_, cap - m, by rw [hl], by omega, by omega, (fun e => by cases e), by rw [pcs_len], fun k hk => ?_⟩
  rw [hl] at hk
  obtain ⟨b', off', e, hb, hc⟩ := h5 (k + m) (by omega)
  simp only [Option.some.injEq, Addr.mk.injEq, and_true] at e
  obtain ⟨rfl, rfl⟩ := e
  refine ⟨b, off + m * 2, rfl, hb, fun j hj => ?_⟩
  have := hc j hj
  rw [show off + m * 2 + (k * 2 + j) = off + ((k + m) * 2 + j) by omega, this, pcs_drop]
  simp only [List.getD, List.getElem?_drop]
  congr 2
  congr 1
  omega
set_option maxHeartbeats 4000000 in
set_option maxRecDepth 100000 in
theorem drop_any (B g : Nat) (rb : Option Nat) (L : List (Int × Int)) (b : Int) (w : World) (hs : SetR B w g rb L) (hB0 : B ≤ w.heap.size) (hL : L.length ≤ 4000000000) (hP : PairsOk L) (hb : 0 ≤ b ∧ b ≤ 18446744073709551615) : Calls Try.prog 28 #[.pointer (some ⟨g, 0, none⟩), .int .u64 b] w fun e w' => ∃ rb', e = .returned (.tuple #[]) ∧ SetR B w' g rb' (drN b L) ∧ w.grownBy w' (some g) ∧ Fr w rb rb' := by
  unfold drN
  by_cases h : 0 < b
  · rw [if_pos h]
    have hc := cut_any B g rb L 0 (b - 1) w hs hB0 hL hP (by omega) (by omega)
    have HC := Lib.hid hc
    have hw : IntKind.u64.wrap (b - 1) = b - 1 := Go.IntWalk.u64_in _ (by omega)
    clear hc hs hL hP
    go_enter Try.func28, Try.ntmps28
    go_wp2_with fail
    (with_reducible refine HC.out.mono ?_)
    rintro e w2 ⟨rb', rfl, h1, h2, h3⟩
    go_wp2_with fail
    go_end0
    exact ⟨rb', rfl, h1, h2, h3⟩
  · rw [if_neg h]
    have h' : decide (0 < b) = false := decide_eq_false h
    go_enter Try.func28, Try.ntmps28
    go_wp2_with fail
    go_end0
    first | exact ⟨rb, rfl, hs, grown_refl _ _, Fr.refl _ _⟩ | exact ⟨rfl, rb, hs, grown_refl _ _, Fr.refl _ _⟩
set_option maxHeartbeats 4000000 in
set_option maxRecDepth 100000 in
theorem drop_nil (b : Int) (w : World) (hb : 0 ≤ b ∧ b ≤ 18446744073709551615) : Calls Try.prog 28 #[.pointer none, .int .u64 b] w fun e w' => e = .returned (.tuple #[]) ∧ w = w' := by
  by_cases h : 0 < b
  · have hw : IntKind.u64.wrap (b - 1) = b - 1 := Go.IntWalk.u64_in _ (by omega)
    go_enter Try.func28, Try.ntmps28
    go_wp2_with fail
    refine (cut_any_nil _ _ _).mono ?_
    rintro e w2 ⟨rfl, rfl⟩
    go_wp2_with fail
    go_end0
    exact ⟨rfl, rfl⟩
  · have h' : decide (0 < b) = false := decide_eq_false h
    go_enter Try.func28, Try.ntmps28
    go_wp2_with fail
    go_end0
    exact ⟨rfl, rfl⟩
set_option maxHeartbeats 4000000 in
set_option maxRecDepth 100000 in
theorem trim_any (B g : Nat) (rb : Option Nat) (L : List (Int × Int)) (m : Int) (w : World) (hs : SetR B w g rb L) (hB0 : B ≤ w.heap.size) (hL : L.length ≤ 1000000) : Calls Try.prog 17 #[.pointer (some ⟨g, 0, none⟩), .int .i64 m] w fun e w' => ∃ rb', e = .returned (.tuple #[]) ∧ SetR B w' g rb' (trN m L) ∧ w.grownBy w' (some g) ∧ Fr w rb rb' := by
  have hlen := fun W (h : SetR B W g rb L) => len_any B g rb L W h
  have HLEN := Lib.hid hlen
  clear hlen
  unfold trN
  -- max(most, 0) as a number
  obtain ⟨k, hk⟩ : ∃ k : Nat, (k : Int) = max m 0 := ⟨(max m 0).toNat, by omega⟩
  rw [← hk]
  simp only [Int.toNat_natCast]
  have hm1 : (if m < 0 then 0 else m) = (k : Int) := by rw [hk]; split <;> omega
  have hm2 : (if 0 < m then m else 0) = (k : Int) := by rw [hk]; split <;> omega
  have hmk : (m < 0 ∧ k = 0) ∨ (0 ≤ m ∧ m = (k : Int)) := by omega
  clear hk hm1 hm2
  by_cases hc : (k : Int) < (L.length : Int)
  · rw [if_pos hc]
    obtain ⟨n, hn⟩ : ∃ n, n = L.length := ⟨_, rfl⟩
    obtain ⟨d, hd⟩ : ∃ d, d = L.length - k := ⟨_, rfl⟩
    have hs0 := hs
    obtain ⟨hBg, V, hV, hblk, hown⟩ := hs
    obtain ⟨A, cap, rfl, hnc, hcm, _⟩ := sl_of_own hown
    have hcm' : cap ≤ 9223372036854775807 := by unfold maxLen at hcm; omega
    have hrd := rdp_of_own hown
    obtain ⟨gg, hgg⟩ := own_some hown (by omega)
    subst hgg
    have c0 : w.cell? ⟨g, 0, none⟩ = some (.slice (some ⟨gg, 0, none⟩) L.length cap) := hblk.cell 0
    have hgl := hblk.lt
    have hsuf := hrd.suf (m := d) (by omega)
    have hemp := RdP.emp w (some ⟨gg, 0, none⟩) 0 (Nat.zero_le _)
    have hdl : L.length - d = k := by omega
    have hDl : (L.drop d).length = k := by rw [List.length_drop]; omega
    rw [hdl, Nat.zero_add] at hsuf
    rw [← hd]
    have hcl := fun W v (h : RdP W v (L.drop d)) => cloneR_any v (L.drop d) W h (by omega)
    rw [hDl] at hcl
    have HCL := Lib.hid hcl
    have HDL := Lib.hid hDl
    have hf0 := hblk.frozen 0
    rw [← hn] at hc hnc c0 hL
    have hwd : IntKind.i64.wrap ((n : Int) - (k : Int)) = (d : Int) := (Go.IntWalk.i64_in _ (by omega)).trans (by omega)
    have hdn : d ≤ n := by omega
    have hdk : n - d = k := by omega
    have hdc : d ≤ cap := by omega
    have hnd : (n : Int) - (k : Int) = (d : Int) := by omega
    have HB := Lib.hid hblk
    have HS := Lib.hid hsuf
    have hlenw := HLEN.out w hs0
    rw [← hn] at hlenw
    have HLW := Lib.hid hlenw
    have hkc : cap = d → k = 0 := by omega
    have HD0 : Hid (k = 0 → L.drop d = []) := Lib.hid fun h0 => List.eq_nil_of_length_eq_zero (by rw [HDL.out]; exact h0)
    clear hlenw hcl hsuf hDl hown hrd hn hd hblk HLEN hdl
    rcases hmk with ⟨hneg, rfl⟩ | ⟨hge, rfl⟩
    · have hdn2 : d = n := by omega
      clear hnd hwd hdk
      subst hdn2
      by_cases hcd : cap = d
      · subst hcd
        have hr0 : RdP w (.slice (some ⟨gg, 0, none⟩) 0 0) (L.drop cap) := by rw [HD0.out rfl]; exact hemp
        have HR0 := Lib.hid hr0
        clear hr0 hemp hkc
        go_enter Try.func17, Try.ntmps17
        go_wp2_with fail
        (with_reducible refine HLW.out.mono ?_)
        rintro e w2 ⟨rfl, rfl⟩
        go_wp2_with fail
        (with_reducible refine (HCL.out _ _ HR0.out).mono ?_)
        rintro e w3 ⟨v3, rfl, hown3, hB3⟩
        have hbk := HB.out.same hB3
        have hne := own_blk_ne hown3 hbk (by decide)
        have hfr : ∀ b, v3.ownBlock = some b → w.heap.size ≤ b := fun b hb => (hown3.lt b hb).1
        obtain ⟨A1, cp1, rfl, _⟩ := sl_of_own hown3
        have c1 : w3.cell? ⟨g, 0, none⟩ = some _ := hbk.cell 0
        have f1 := hbk.frozen 0
        clear c0
        go_wp2_with fail
        go_end0
        exact ⟨_, rfl, ⟨hBg, _, rfl, by simpa using hbk.set_ 0 _, by rw [HDL.out]; exact own_base (own_far hown3 hne _) hB0⟩, grown_set (grown_below hB3 _) _ _, fun b hb => .inr (hfr b hb)⟩
      · clear hkc hemp
        go_enter Try.func17, Try.ntmps17
        go_wp2_with fail
        (with_reducible refine HLW.out.mono ?_)
        rintro e w2 ⟨rfl, rfl⟩
        go_wp2_with fail
        (with_reducible refine (HCL.out _ _ HS.out).mono ?_)
        rintro e w3 ⟨v3, rfl, hown3, hB3⟩
        have hbk := HB.out.same hB3
        have hne := own_blk_ne hown3 hbk (by decide)
        have hfr : ∀ b, v3.ownBlock = some b → w.heap.size ≤ b := fun b hb => (hown3.lt b hb).1
        obtain ⟨A1, cp1, rfl, _⟩ := sl_of_own hown3
        have c1 : w3.cell? ⟨g, 0, none⟩ = some _ := hbk.cell 0
        have f1 := hbk.frozen 0
        clear c0
        go_wp2_with fail
        go_end0
        exact ⟨_, rfl, ⟨hBg, _, rfl, by simpa using hbk.set_ 0 _, by rw [HDL.out]; exact own_base (own_far hown3 hne _) hB0⟩, grown_set (grown_below hB3 _) _ _, fun b hb => .inr (hfr b hb)⟩
    · by_cases hcd : cap = d
      · obtain rfl := hkc hcd
        subst hcd
        have hr0 : RdP w (.slice (some ⟨gg, 0, none⟩) 0 0) (L.drop cap) := by rw [HD0.out rfl]; exact hemp
        have HR0 := Lib.hid hr0
        clear hr0 hemp hkc
        go_enter Try.func17, Try.ntmps17
        go_wp2_with fail
        (with_reducible refine HLW.out.mono ?_)
        rintro e w2 ⟨rfl, rfl⟩
        go_wp2_with fail
        (with_reducible refine (HCL.out _ _ HR0.out).mono ?_)
        rintro e w3 ⟨v3, rfl, hown3, hB3⟩
        have hbk := HB.out.same hB3
        have hne := own_blk_ne hown3 hbk (by decide)
        have hfr : ∀ b, v3.ownBlock = some b → w.heap.size ≤ b := fun b hb => (hown3.lt b hb).1
        obtain ⟨A1, cp1, rfl, _⟩ := sl_of_own hown3
        have c1 : w3.cell? ⟨g, 0, none⟩ = some _ := hbk.cell 0
        have f1 := hbk.frozen 0
        clear c0
        go_wp2_with fail
        go_end0
        exact ⟨_, rfl, ⟨hBg, _, rfl, by simpa using hbk.set_ 0 _, by rw [HDL.out]; exact own_base (own_far hown3 hne _) hB0⟩, grown_set (grown_below hB3 _) _ _, fun b hb => .inr (hfr b hb)⟩
      · clear hkc hemp
        go_enter Try.func17, Try.ntmps17
        go_wp2_with fail
        (with_reducible refine HLW.out.mono ?_)
        rintro e w2 ⟨rfl, rfl⟩
        go_wp2_with fail
        (with_reducible refine (HCL.out _ _ HS.out).mono ?_)
        rintro e w3 ⟨v3, rfl, hown3, hB3⟩
        have hbk := HB.out.same hB3
        have hne := own_blk_ne hown3 hbk (by decide)
        have hfr : ∀ b, v3.ownBlock = some b → w.heap.size ≤ b := fun b hb => (hown3.lt b hb).1
        obtain ⟨A1, cp1, rfl, _⟩ := sl_of_own hown3
        have c1 : w3.cell? ⟨g, 0, none⟩ = some _ := hbk.cell 0
        have f1 := hbk.frozen 0
        clear c0
        go_wp2_with fail
        go_end0
        exact ⟨_, rfl, ⟨hBg, _, rfl, by simpa using hbk.set_ 0 _, by rw [HDL.out]; exact own_base (own_far hown3 hne _) hB0⟩, grown_set (grown_below hB3 _) _ _, fun b hb => .inr (hfr b hb)⟩
  · rw [if_neg hc]
    have hlenw := HLEN.out w hs
    have HLW := Lib.hid hlenw
    clear hlenw HLEN
    have hc' : decide ((k : Int) < (L.length : Int)) = false := decide_eq_false hc
    have hc2 : decide (k < L.length) = false := decide_eq_false (by omega)
    rcases hmk with ⟨hneg, rfl⟩ | ⟨hge, rfl⟩
    · have h0 : L.length = 0 := by omega
      rw [h0, show ((0 : Nat) : Int) = 0 from rfl] at HLW
      clear hc hc' hc2 h0
      go_enter Try.func17, Try.ntmps17
      go_wp2_with fail
      (with_reducible refine HLW.out.mono ?_)
      rintro e w2 ⟨rfl, rfl⟩
      go_wp2_with fail
      go_end0
      exact ⟨rb, rfl, hs, grown_refl _ _, Fr.refl _ _⟩
    · clear hc
      go_enter Try.func17, Try.ntmps17
      go_wp2_with fail
      (with_reducible refine HLW.out.mono ?_)
      rintro e w2 ⟨rfl, rfl⟩
      go_wp2_with fail
      go_end0
      exact ⟨rb, rfl, hs, grown_refl _ _, Fr.refl _ _⟩
set_option maxHeartbeats 4000000 in
set_option maxRecDepth 100000 in
theorem trim_nil (m : Int) (w : World) : Calls Try.prog 17 #[.pointer none, .int .i64 m] w fun e w' => e = .returned (.tuple #[]) ∧ w = w' := by
  by_cases h : m < 0
  all_goals
    go_enter Try.func17, Try.ntmps17
    go_wp2_with fail
    refine (len_nil _).mono ?_
    rintro e w2 ⟨rfl, rfl⟩
    go_wp2_with fail
    go_end0
    exact ⟨rfl, rfl⟩

end Go.Proofs.Ytcmkegkljappfaa
