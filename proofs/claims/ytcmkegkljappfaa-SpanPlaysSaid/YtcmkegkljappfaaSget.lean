/-
  What a set tells: how many ranges, the greatest number, whether a number is there, the hole, how many numbers; nil too. No condition.
-/
import Derived.Test.YtcmkegkljappfaaSnew
namespace Go.Proofs.Ytcmkegkljappfaa
open Go.RowKit
set_option linter.unusedVariables false
set_option linter.unusedSimpArgs false


def topL (L : List (Int × Int)) : Int := (L.getD (L.length - 1) (0, 0)).2
def hasB (L : List (Int × Int)) (n : Int) : Bool := decide (Mm L n)
def holeL (L : List (Int × Int)) (n : Int) : Int := if Mm L n then (L.getD (pl n L) (0, 0)).2 + 1 else n
def cnt : List (Int × Int) → Int
  | [] => 0
  | r :: T => r.2 - r.1 + 1 + cnt T
theorem cnt_app (A B : List (Int × Int)) : cnt (A ++ B) = cnt A + cnt B := by
  induction A with
  | nil => simp [cnt]
  | cons r A ih => simp only [List.cons_append, cnt, ih]; omega
theorem cnt_take (L : List (Int × Int)) (k : Nat) (hk : k < L.length) : cnt (L.take (k + 1)) = cnt (L.take k) + ((L.getD k (0, 0)).2 - (L.getD k (0, 0)).1 + 1) := by
  have e : L.getD k (0, 0) = L[k] := by simp [List.getD, hk]
  rw [e, List.take_succ_eq_append_getElem hk, cnt_app]
  simp [cnt]
theorem cnt_bd {b : Int} {L : List (Int × Int)} (h : Nm b L) : 0 ≤ cnt L ∧ (L ≠ [] → cnt L ≤ MX + 1 - b) := by
  induction L generalizing b with
  | nil => simp [cnt]
  | cons r T ih =>
    obtain ⟨h1, h2, h3, h4⟩ := h
    have := ih h4
    simp only [cnt]
    refine ⟨by omega, fun _ => ?_⟩
    rcases T with _ | ⟨q, T⟩
    · simp only [cnt]; omega
    · have := this.2 (by simp); omega
theorem Nm.take {b : Int} {L : List (Int × Int)} (h : Nm b L) (k : Nat) : Nm b (L.take k) := by
  induction k generalizing b L with
  | zero => simp [Nm]
  | succ k ih =>
    cases L with
    | nil => trivial
    | cons r T =>
      obtain ⟨k1, k2, k3, k4⟩ := h
      exact ⟨k1, k2, k3, ih k4⟩
theorem cnt_ok {L : List (Int × Int)} (h : Nm 0 L) (k : Nat) : 0 ≤ cnt (L.take k) ∧ cnt (L.take k) ≤ 4611686018427387904 := by
  have h1 := cnt_bd (h.take k)
  refine ⟨h1.1, ?_⟩
  by_cases he : L.take k = []
  · rw [he]; simp [cnt]
  · have := h1.2 he
    simp only [MX] at this
    omega
set_option maxHeartbeats 4000000 in
set_option maxRecDepth 100000 in
theorem len_any (B g : Nat) (rb : Option Nat) (L : List (Int × Int)) (w : World) (hs : SetR B w g rb L) : Calls Try.prog 18 #[.pointer (some ⟨g, 0, none⟩)] w fun e w' => e = .returned (.int .i64 L.length) ∧ w = w' := by
  obtain ⟨hBg, V, hV, hblk, hown⟩ := hs
  obtain ⟨A, cap, rfl, hnc, hcm, _⟩ := sl_of_own hown
  have hcm' : cap ≤ 9223372036854775807 := by unfold maxLen at hcm; omega
  have hrd := rdp_of_own hown
  have c0 : w.cell? ⟨g, 0, none⟩ = some (.slice A L.length cap) := hblk.cell 0
  have hgl := hblk.lt
  clear hcm
  clear hblk hown hrd
  go_enter Try.func18, Try.ntmps18
  go_wp2_with fail
  go_ret
  exact ⟨rfl, rfl⟩
set_option maxHeartbeats 4000000 in
set_option maxRecDepth 100000 in
theorem len_nil (w : World) : Calls Try.prog 18 #[.pointer none] w fun e w' => e = .returned (.int .i64 0) ∧ w = w' := by
  go_enter Try.func18, Try.ntmps18
  go_wp2_with fail
  go_ret
  exact ⟨rfl, rfl⟩
set_option maxHeartbeats 4000000 in
set_option maxRecDepth 100000 in
theorem top_any (B g : Nat) (rb : Option Nat) (L : List (Int × Int)) (w : World) (hs : SetR B w g rb L) (hL : L.length ≤ 1000000000) : Calls Try.prog 16 #[.pointer (some ⟨g, 0, none⟩)] w fun e w' => e = .returned (.tuple #[.int .u64 (if L.length = 0 then 0 else topL L), .bool (decide (0 < L.length))]) ∧ ∃ m, w.drewN m = w' := by
  have hlen := len_any B g rb L w hs
  obtain ⟨hBg, V, hV, hblk, hown⟩ := hs
  obtain ⟨A, cap, rfl, hnc, hcm, _⟩ := sl_of_own hown
  have hcm' : cap ≤ 9223372036854775807 := by unfold maxLen at hcm; omega
  have hrd := rdp_of_own hown
  have c0 : w.cell? ⟨g, 0, none⟩ = some (.slice A L.length cap) := hblk.cell 0
  have hgl := hblk.lt
  clear hcm
  unfold topL
  by_cases h0 : L.length = 0
  · rw [if_pos h0, h0]
    rw [h0] at hlen
    rw [show ((0 : Nat) : Int) = 0 from rfl] at hlen
    have HLEN := Lib.hid hlen
    clear hlen hblk hown hrd h0
    go_enter Try.func16, Try.ntmps16
    go_wp2_with fail
    (with_reducible refine HLEN.out.mono ?_)
    rintro e w2 ⟨rfl, rfl⟩
    go_wp2_with fail
    go_ret2
    exact ⟨rfl, 0, rfl⟩
  · have hp : 0 < L.length := by omega
    rw [if_neg h0, decide_eq_true hp]
    obtain ⟨bb, off, rfl, hbb, d0, d1⟩ := hrd.get (L.length - 1) (by omega)
    obtain ⟨x, hx⟩ : ∃ x, x = L.getD (L.length - 1) (0, 0) := ⟨_, rfl⟩
    rw [← hx] at d0 d1 ⊢
    obtain ⟨m, hm⟩ : ∃ m, m = L.length - 1 := ⟨_, rfl⟩
    obtain ⟨n, hn⟩ : ∃ n, n = L.length := ⟨_, rfl⟩
    rw [← hm] at d0 d1
    rw [← hn] at hlen c0 hnc hp hL
    have hw : IntKind.i64.wrap ((n : Int) - 1) = (m : Int) := (Go.IntWalk.i64_in _ (by omega)).trans (by omega)
    have hmn : m < n := by omega
    have hn0 : ¬ (n : Int) = 0 := by omega
    have HLEN := Lib.hid hlen
    clear hlen hblk hown hrd h0 hx hm hn
    go_enter Try.func16, Try.ntmps16
    go_wp2_with fail
    (with_reducible refine HLEN.out.mono ?_)
    rintro e w2 ⟨rfl, rfl⟩
    go_wp2_with fail
    go_quiet (fail)
    go_wp2_with fail
    go_ret2
    exact ⟨rfl, _, rfl⟩
set_option maxHeartbeats 4000000 in
set_option maxRecDepth 100000 in
theorem top_nil (w : World) : Calls Try.prog 16 #[.pointer none] w fun e w' => e = .returned (.tuple #[.int .u64 0, .bool false]) ∧ w = w' := by
  go_enter Try.func16, Try.ntmps16
  go_wp2_with fail
  refine (len_nil _).mono ?_
  rintro e w2 ⟨rfl, rfl⟩
  go_wp2_with fail
  go_ret2
  exact ⟨rfl, rfl⟩
set_option maxHeartbeats 4000000 in
set_option maxRecDepth 100000 in
theorem has_any (B g : Nat) (rb : Option Nat) (L : List (Int × Int)) (n : Int) (w : World) (hs : SetR B w g rb L) (hN : Nm 0 L) : Calls Try.prog 15 #[.pointer (some ⟨g, 0, none⟩), .int .u64 n] w fun e w' => e = .returned (.bool (hasB L n)) ∧ Below w.heap.size w w' := by
  have hplace := place_any B g L 0 n w hs.p hN (Int.le_refl _)
  have hpl := pl_le n L
  have hhas := has_pl hN n
  obtain ⟨i, hi⟩ : ∃ i, i = pl n L := ⟨_, rfl⟩
  rw [← hi] at hplace hpl hhas
  clear hi
  have HP := Lib.hid hplace
  clear hplace
  have hd : hasB L n = (decide (i < L.length) && decide ((L.getD i (0, 0)).1 ≤ n)) := by unfold hasB; rw [Bool.eq_iff_iff]; simp [hhas]
  rw [hd]
  clear hhas hd
  have hs0 := hs
  obtain ⟨hBg, V, hV, hblk, hown⟩ := hs
  obtain ⟨A, cap, rfl, hnc, hcm, _⟩ := sl_of_own hown
  have hcm' : cap ≤ 9223372036854775807 := by unfold maxLen at hcm; omega
  have hrd := rdp_of_own hown
  have c0 : w.cell? ⟨g, 0, none⟩ = some (.slice A L.length cap) := hblk.cell 0
  have hgl := hblk.lt
  clear hcm
  clear hblk hown c0
  by_cases hlt : i < L.length
  · by_cases hc : (L.getD i (0, 0)).1 ≤ n
    all_goals
      rw [decide_eq_true hlt, Bool.true_and]
      first | rw [decide_eq_true hc] | rw [decide_eq_false hc]
      go_enter Try.func15, Try.ntmps15
      go_wp2_with fail
      (with_reducible refine HP.out.mono ?_)
      rintro e w2 ⟨rfl, hb2⟩
      obtain ⟨hBg2, V2, hV2, hblk2, hown2⟩ := hs0.below hb2
      obtain ⟨A2, cap2, rfl, hnc2, hcm2, _⟩ := sl_of_own hown2
      have hq2 : cap2 ≤ 9223372036854775807 := by unfold maxLen at hcm2; omega
      obtain ⟨bb, off, rfl, hbb, d0, d1⟩ := (rdp_of_own hown2).get i hlt
      have c2 : w2.cell? ⟨g, 0, none⟩ = some (.slice (some ⟨bb, off, none⟩) L.length cap2) := hblk2.cell 0
      obtain ⟨x, hx⟩ : ∃ x, x = L.getD i (0, 0) := ⟨_, rfl⟩
      rw [← hx] at d0 d1 hc
      clear hx hblk2 hown2 hcm2
      obtain ⟨xa, xb⟩ := x
      simp only at d0 d1 hc
      first | have hq : decide (xa ≤ n) = true := decide_eq_true hc | have hq : decide (xa ≤ n) = false := decide_eq_false (by omega)
      go_wp2_with fail
      go_ret
      exact ⟨rfl, hb2⟩
  · rw [decide_eq_false hlt, Bool.false_and]
    have hlt' : decide (i < L.length) = false := by simpa using hlt
    go_enter Try.func15, Try.ntmps15
    go_wp2_with fail
    (with_reducible refine HP.out.mono ?_)
    rintro e w2 ⟨rfl, hb2⟩
    obtain ⟨hBg2, V2, hV2, hblk2, hown2⟩ := hs0.below hb2
    obtain ⟨A2, cap2, rfl, hnc2, hcm2, _⟩ := sl_of_own hown2
    have c2 : w2.cell? ⟨g, 0, none⟩ = some (.slice A2 L.length cap2) := hblk2.cell 0
    clear hblk2 hown2 hcm2
    go_wp2_with fail
    go_ret
    exact ⟨rfl, hb2⟩
set_option maxHeartbeats 4000000 in
set_option maxRecDepth 100000 in
theorem has_nil (n : Int) (w : World) : Calls Try.prog 15 #[.pointer none, .int .u64 n] w fun e w' => e = .returned (.bool false) ∧ w = w' := by
  go_enter Try.func15, Try.ntmps15
  go_wp2_with fail
  go_ret
  exact ⟨rfl, rfl⟩
set_option maxHeartbeats 4000000 in
set_option maxRecDepth 100000 in
theorem hole_nil (n : Int) (w : World) : Calls Try.prog 19 #[.pointer none, .int .u64 n] w fun e w' => e = .returned (.int .u64 n) ∧ w = w' := by
  go_enter Try.func19, Try.ntmps19
  go_wp2_with fail
  refine (has_nil n _).mono ?_
  rintro e w2 ⟨rfl, rfl⟩
  go_wp2_with fail
  go_ret
  exact ⟨rfl, rfl⟩
set_option maxHeartbeats 4000000 in
set_option maxRecDepth 100000 in
theorem hole_any (B g : Nat) (rb : Option Nat) (L : List (Int × Int)) (n : Int) (w : World) (hs : SetR B w g rb L) (hN : Nm 0 L) : Calls Try.prog 19 #[.pointer (some ⟨g, 0, none⟩), .int .u64 n] w fun e w' => e = .returned (.int .u64 (holeL L n)) ∧ Below w.heap.size w w' := by
  have hh := has_any B g rb L n w hs hN
  unfold holeL
  unfold hasB at hh
  by_cases hm : Mm L n
  · rw [if_pos hm]
    rw [decide_eq_true hm] at hh
    have HH := Lib.hid hh
    have hhas := (has_pl hN n).1 hm
    have hplace := fun W (h : SetP B W g L) => place_any B g L 0 n W h hN (Int.le_refl _)
    obtain ⟨i, hi⟩ : ∃ i, i = pl n L := ⟨_, rfl⟩
    rw [← hi] at hplace hhas ⊢
    have HP := Lib.hid hplace
    have hlt := hhas.1
    have hup := (hN.up i hlt).2
    clear hplace hh hi hhas hm
    obtain ⟨x, hx⟩ : ∃ x, x = L.getD i (0, 0) := ⟨_, rfl⟩
    rw [← hx] at hup ⊢
    have HX := Lib.hid hx
    clear hx
    obtain ⟨xa, xb⟩ := x
    simp only [MX] at hup ⊢
    have hw : IntKind.u64.wrap (xb + 1) = xb + 1 := Go.IntWalk.u64_in _ (by have := hN.up i hlt; rw [← HX.out] at this; simp only at this; omega)
    have HN := Lib.hid hN
    clear hN
    go_enter Try.func19, Try.ntmps19
    go_wp2_with fail
    (with_reducible refine HH.out.mono ?_)
    rintro e w2 ⟨rfl, hb2⟩
    have hs2 := hs.below hb2
    obtain ⟨hBg2, V2, hV2, hblk2, hown2⟩ := id hs2
    obtain ⟨A2, cap2, rfl, hnc2, hcm2, _⟩ := sl_of_own hown2
    have hq2 : cap2 ≤ 9223372036854775807 := by unfold maxLen at hcm2; omega
    obtain ⟨bb, off, rfl, hbb, d0, d1⟩ := (rdp_of_own hown2).get i hlt
    have c2 : w2.cell? ⟨g, 0, none⟩ = some (.slice (some ⟨bb, off, none⟩) L.length cap2) := hblk2.cell 0
    rw [← HX.out] at d0 d1
    simp only at d0 d1
    have hps := hs2.p
    have hgl := hs2.lt
    clear hblk2 hown2 hcm2 hs2 hs
    go_wp2_with fail
    have HPx : ∀ x : Cls w2.heap.size w2, Calls Try.prog 25 #[.pointer (some ⟨g, 0, none⟩), .int .u64 n] x.w fun e w' => e = .returned (.int .i64 i) ∧ Below x.w.heap.size x.w w' := fun x => HP.out _ (hps.below x.h)
    have Cc2 := Cls.cells c2 (World.block_lt_of_cell? _ _ c2)
    have Cd0 := Cls.cells d0 (World.block_lt_of_cell? _ _ d0)
    have Cd1 := Cls.cells d1 (World.block_lt_of_cell? _ _ d1)
    refine wp_region_cls (by kernel_rfl) (by kernel_rfl) ?_
    repeat (go_big_quiet_step ((first | (go_at_call 25; with_reducible exact Cls.call (Nat.le_refl _) (HPx _)))))
    refine wpQuiet_nil ?_
    intro w3 hb3
    have c2 := keepB_cell c2 w3 hb3
    have d0 := keepB_cell d0 w3 hb3
    have d1 := keepB_cell d1 w3 hb3
    clear Cc2 Cd0 Cd1
    go_wp2_with fail
    go_ret
    exact ⟨rfl, hb2.trans (hb3.mono hb2.size)⟩
  · rw [if_neg hm]
    rw [decide_eq_false hm] at hh
    have HH := Lib.hid hh
    clear hh hm hN
    go_enter Try.func19, Try.ntmps19
    go_wp2_with fail
    (with_reducible refine HH.out.mono ?_)
    rintro e w2 ⟨rfl, hb2⟩
    go_wp2_with fail
    go_ret
    exact ⟨rfl, hb2⟩
set_option maxHeartbeats 4000000 in
set_option maxRecDepth 100000 in
theorem count_any (B g : Nat) (rb : Option Nat) (L : List (Int × Int)) (w : World) (hs : SetR B w g rb L) (hN : Nm 0 L) : Calls Try.prog 21 #[.pointer (some ⟨g, 0, none⟩)] w fun e w' => e = .returned (.int .u64 (cnt L)) ∧ Below w.heap.size w w' := by
  obtain ⟨hBg, V, hV, hblk, hown⟩ := hs
  obtain ⟨A, cap, rfl, hnc, hcm, _⟩ := sl_of_own hown
  have hcm' : cap ≤ 9223372036854775807 := by unfold maxLen at hcm; omega
  have hrd := rdp_of_own hown
  have c0 : w.cell? ⟨g, 0, none⟩ = some (.slice A L.length cap) := hblk.cell 0
  have hgl := hblk.lt
  clear hcm
  clear hblk hown
  have HR := Lib.hid hrd
  have HN := Lib.hid hN
  clear hrd hN
  go_enter Try.func21, Try.ntmps21
  go_wp2_with fail
  go_loopw [3, 13] (fun s3 s13 wr => ∃ (k : Nat), s3 = .int .u64 (cnt (L.take k)) ∧ s13 = .int .i64 k ∧ k ≤ L.length ∧ Below w.heap.size w wr) (fun _ s13 _ => L.length - (intOf s13).toNat)
  case atStart => exact ⟨0, rfl, rfl, Nat.zero_le _, Below.refl _ _⟩
  case round =>
    obtain ⟨k, rfl, rfl, hkl, hB⟩ := hrel
    have hb0 := cnt_ok HN.out k
    have hb1 := cnt_ok HN.out (k + 1)
    by_cases hk : k < L.length
    · obtain ⟨bb, off, rfl, hbb, d0, d1⟩ := (HR.out.below hB).get k hk
      have hT := cnt_take L k hk
      have hup := HN.out.up k hk
      obtain ⟨x, hx⟩ : ∃ x, x = L.getD k (0, 0) := ⟨_, rfl⟩
      rw [← hx] at d0 d1 hT hup
      clear hx
      obtain ⟨xa, xb⟩ := x
      simp only [MX] at d0 d1 hT hup
      rw [hT] at hb1
      have HT := Lib.hid hT
      clear hT
      obtain ⟨c, hc⟩ : ∃ c, c = cnt (L.take k) := ⟨_, rfl⟩
      rw [← hc] at hb0 hb1 HT ⊢
      clear hc
      have hB1 := hB.alloc hB.size (.cells #[.int .u64 xa, .int .u64 xb] 30)
      have hw1 : IntKind.u64.wrap (xb - xa) = xb - xa := Go.IntWalk.u64_in _ (by omega)
      have hw2 : IntKind.u64.wrap (xb - xa + 1) = xb - xa + 1 := Go.IntWalk.u64_in _ (by omega)
      have hw3 : IntKind.u64.wrap (c + (xb - xa + 1)) = c + (xb - xa + 1) := Go.IntWalk.u64_in _ (by omega)
      go_wp2_with fail
      go_roundw
      case rel => exact ⟨k + 1, by rw [HT.out], by go_num, by omega, hB1⟩
      case measure => simp [intOf]; omega
    · have htk : L.take k = L := List.take_of_length_le (by omega)
      rw [htk]
      clear htk
      go_wp2_with fail
      go_ret
      exact ⟨rfl, hB⟩
set_option maxHeartbeats 4000000 in
set_option maxRecDepth 100000 in
theorem count_nil (w : World) : Calls Try.prog 21 #[.pointer none] w fun e w' => e = .returned (.int .u64 0) ∧ w = w' := by
  go_enter Try.func21, Try.ntmps21
  go_wp2_with fail
  go_ret
  exact ⟨rfl, rfl⟩

end Go.Proofs.Ytcmkegkljappfaa
