/-
  Cutting numbers out of a set: the program's and the reference's; Drop. No condition.
-/
import Derived.Test.YtcmkegkljappfaaSget
namespace Go.Proofs.Ytcmkegkljappfaa
open Go.RowKit
set_option linter.unusedVariables false
set_option linter.unusedSimpArgs false


/-- A row that is new, or the old one. -/
def Fr (w : World) (rb rb' : Option Nat) : Prop := ∀ b, rb' = some b → rb = some b ∨ w.heap.size ≤ b
theorem Fr.refl (w : World) (rb : Option Nat) : Fr w rb rb := fun b h => .inl h
theorem Fr.of {w : World} {rb rb' : Option Nat} (h : rb' = rb ∨ ∃ b, rb' = some b ∧ w.heap.size ≤ b) : Fr w rb rb' := by
  rcases h with rfl | ⟨c, rfl, hc⟩
  · exact Fr.refl _ _
  · intro b hb
    injection hb with hb
    exact .inr (by omega)
theorem Fr.trans {w w' : World} {ra rb rc : Option Nat} (h : Fr w ra rb) (k : Fr w' rb rc) (hs : w.heap.size ≤ w'.heap.size) : Fr w ra rc := fun b hb => by
  rcases k b hb with h1 | h1
  · exact h b h1
  · exact .inr (by omega)
theorem Only.trans' {w w' w'' : World} {g : Nat} {rb rb' : Option Nat} (h : Only w w' g rb) (k : Only w' w'' g rb') (hr : Fr w rb rb') : Only w w'' g rb :=
  ⟨k.os.trans h.os, k.tape.trans h.tape, k.output.trans h.output, Nat.le_trans h.size k.size, fun i hi h1 h2 => by
    refine (k.block i (Nat.lt_of_lt_of_le hi h.size) h1 ?_).trans (h.block i hi h1 h2)
    intro e
    rcases hr i e.symm with h3 | h3
    · exact h2 h3.symm
    · omega⟩
theorem Only.of_grown {w w' : World} {g : Nat} {rb : Option Nat} (h : w.grownBy w' (some g)) : Only w w' g rb := ⟨h.os, h.tape, h.output, h.size, fun k hk h1 _ => h.block k hk (by simpa using h1)⟩
def cuN (f t : Int) (L : List (Int × Int)) : List (Int × Int) := if f ≤ t then ct f t L else L
/-- The reference's set in memory. -/
def RSet (B : Nat) (w : World) (g : Nat) (rb : Option Nat) (L : List (Int × Int)) : Prop := B ≤ g ∧ ∃ V, V.ownBlock = rb ∧ Blk w g 37 #[V] ∧ w.ownsRow B 30 2 V L.length (pcs L)
section
variable {B B' : Nat} {w w' w'' : World} {g g' : Nat} {rb rb' : Option Nat} {L L' : List (Int × Int)}
theorem RSet.below (h : RSet B w g rb L) (hb : Below w.heap.size w w') : RSet B w' g rb L := by
  obtain ⟨h0, V, hr, h1, h2⟩ := h
  exact ⟨h0, V, hr, h1.same hb, own_same h2 hb⟩
theorem RSet.base (h : RSet B w g rb L) (hB : B' ≤ B) : RSet B' w g rb L := by
  obtain ⟨h0, V, hr, h1, h2⟩ := h
  exact ⟨Nat.le_trans hB h0, V, hr, h1, own_base h2 hB⟩
theorem RSet.drewN (h : RSet B w g rb L) (n : Nat) : RSet B (w.drewN n) g rb L := h
theorem RSet.drew (h : RSet B w g rb L) : RSet B w.drew g rb L := h
theorem RSet.lt (h : RSet B w g rb L) : g < w.heap.size := by obtain ⟨_, V, _, h1, _⟩ := h; exact h1.lt
theorem RSet.rlt (h : RSet B w g rb L) : ∀ b, rb = some b → B ≤ b ∧ b < w.heap.size ∧ b ≠ g := by
  obtain ⟨h0, V, hr, h1, h2⟩ := h
  intro b hb
  have hne := own_blk_ne h2 h1 (by decide)
  obtain ⟨h3, h4⟩ := h2.lt b (by rw [hr, hb])
  exact ⟨h3, h4, fun e => hne (by rw [hr, hb, e])⟩
/-- The program's set and the reference's lie apart: a step on one keeps the other. -/
theorem Only.rset {rb2 : Option Nat} {g2 : Nat} (h : Only w w' g rb) (hs : RSet B w g2 rb2 L) (h1 : g2 ≠ g) (h2 : some g2 ≠ rb) (h3 : rb2 ≠ some g) (h4 : rb2 = none ∨ rb2 ≠ rb) : RSet B w' g2 rb2 L := by
  obtain ⟨h0, V, hr, hb, ho⟩ := hs
  exact ⟨h0, V, hr, h.blk hb h1 h2, h.own ho (by rw [hr]; exact h3) (by rw [hr]; exact h4)⟩
end
theorem ct1_one {f t : Int} {r : Int × Int} (h : r.2 < f ∨ t < r.1) : ct1 f t r = [r] := by unfold ct1; rw [if_pos h]
theorem ct1_ab {f t a b : Int} (h : ¬ (b < f ∨ t < a)) (h1 : a < f) (h2 : t < b) : ct1 f t (a, b) = [(a, f - 1), (t + 1, b)] := by unfold ct1; rw [if_neg h, if_pos h1, if_pos h2]; rfl
theorem ct1_a {f t a b : Int} (h : ¬ (b < f ∨ t < a)) (h1 : a < f) (h2 : ¬ t < b) : ct1 f t (a, b) = [(a, f - 1)] := by unfold ct1; rw [if_neg h, if_pos h1, if_neg h2]; rfl
theorem ct1_b {f t a b : Int} (h : ¬ (b < f ∨ t < a)) (h1 : ¬ a < f) (h2 : t < b) : ct1 f t (a, b) = [(t + 1, b)] := by unfold ct1; rw [if_neg h, if_neg h1, if_pos h2]; rfl
theorem ct1_no {f t a b : Int} (h : ¬ (b < f ∨ t < a)) (h1 : ¬ a < f) (h2 : ¬ t < b) : ct1 f t (a, b) = [] := by unfold ct1; rw [if_neg h, if_neg h1, if_neg h2]; rfl
theorem nb_own {w : World} {base n : Nat} {v : Value} {xs : List Value} {g : Nat} {t : TypeId} {cs : Array Value} (h : w.ownsRow base 30 2 v n xs) (hb : g = w.heap.size) : some g ≠ v.ownBlock := by
  intro e
  have := (h.lt g e.symm).2
  omega
set_option maxHeartbeats 4000000 in
set_option maxRecDepth 100000 in
theorem cut_any (B g : Nat) (rb : Option Nat) (L : List (Int × Int)) (f t : Int) (w : World) (hs : SetR B w g rb L) (hB0 : B ≤ w.heap.size) (hL : L.length ≤ 4000000000) (hP : PairsOk L) (hf : 0 ≤ f ∧ f ≤ 18446744073709551615) (ht : 0 ≤ t ∧ t ≤ 18446744073709551615) : Calls Try.prog 20 #[.pointer (some ⟨g, 0, none⟩), .int .u64 f, .int .u64 t] w fun e w' => ∃ rb', e = .returned (.tuple #[]) ∧ SetR B w' g rb' (cuN f t L) ∧ w.grownBy w' (some g) ∧ Fr w rb rb' := by
  obtain ⟨i0, hi, hz0, hz1, hz2⟩ := info_parts infoR
  unfold cuN
  by_cases hft : f ≤ t
  · rw [if_pos hft]
    obtain ⟨hBg, V, hV, hblk, hown⟩ := hs
    obtain ⟨A, cap, rfl, hnc, hcm, _⟩ := sl_of_own hown
    have hcm' : cap ≤ 9223372036854775807 := by unfold maxLen at hcm; omega
    have hrd := rdp_of_own hown
    have c0 : w.cell? ⟨g, 0, none⟩ = some (.slice A L.length cap) := hblk.cell 0
    have HR := Lib.hid hrd
    have HP := Lib.hid hP
    have hgl := hblk.lt
    clear hrd hown hcm hP
    go_enter Try.func20, Try.ntmps20
    go_wp2_with fail
    clear c0
    go_loopw [6, 21] (fun s6 s21 wr => ∃ (ov : Value) (k : Nat), ov = s6 ∧ k ≤ L.length ∧ s21 = .int .i64 k ∧ wr.ownsRow w.heap.size 30 2 ov (ct f t (L.take k)).length (pcs (ct f t (L.take k))) ∧ Below w.heap.size w wr) (fun _ s21 _ => L.length - (intOf s21).toNat)
    case atStart => exact ⟨_, 0, rfl, Nat.zero_le _, rfl, World.ownsRow_nil _ _ _ _, Below.refl _ _⟩
    case round =>
      obtain ⟨ov, k, rfl, hkl, rfl, hO, hB⟩ := hrel
      have hcl : (ct f t (L.take k)).length ≤ 8000000000 := by have := ct_len f t (L.take k); have := List.length_take_le k L; omega
      by_cases hk : k < L.length
      · obtain ⟨bb, off, rfl, hbb, d0, d1⟩ := (HR.out.below hB).get k hk
        have hT := Lib.hid (ct_take f t L k hk)
        have hx0 := HP.out.getD k
        obtain ⟨x, hx⟩ : ∃ x, x = L.getD k (0, 0) := ⟨_, rfl⟩
        rw [← hx] at d0 d1 hT hx0
        clear hx
        obtain ⟨a, b⟩ := x
        simp only at d0 d1 hx0
        obtain ⟨⟨ha0, ha1⟩, hb0, hb1⟩ := hx0
        obtain ⟨C, hC⟩ : ∃ C, C = ct f t (L.take k) := ⟨_, rfl⟩
        rw [← hC] at hO hT hcl
        clear hC
        have hB1 := hB.alloc hB.size (.cells #[.int .u64 a, .int .u64 b] 30)
        have hO1 := hO.alloc (.cells #[.int .u64 a, .int .u64 b] 30)
        have hbs := hB.size
        by_cases h1 : b < f
        · have HT := Lib.hid (hT.out.trans (congrArg (C ++ ·) (ct1_one (.inl h1))))
          clear hT
          have q1 : decide (b < f) = true := decide_eq_true h1
          go_wp2_with (at_builtin; refine wpList_append_any _ rfl _ _ 22 rfl w.heap.size 30 i0 _ 2 16 Try.underlying22 hi hz0 hz1 hz2 rfl (by decide) ov C.length _ rfl (hO1.alloc _) (some ⟨wr.heap.size + 1, 0, none⟩) 1 1 (pcs [(a, b)]) rfl (rdv_one (f := a) (t := b) (blk_new_at (by simp))) (pcs_one _) (by unfold maxLen; omega) (by omega) (by have := hB1.size; simp at this ⊢; omega) (by simp) ?_; intro v4 w4 hown4 hgrow4 hat4)
          have hB2 := hB1.alloc hB1.size (.cells #[.int .u64 (a), .int .u64 (b)] 30)
          have hB4 := hB2.grown hgrow4 hB2.size (fun b hb => (hO1.lt b hb).1)
          clear d0 d1 hO hO1 hB hB1 hB2 hgrow4 hat4
          go_roundw
          case rel => exact ⟨_, k + 1, rfl, by omega, by go_num, by rw [HT.out, pcs_app]; simpa [pcs] using hown4, hB4⟩
          case measure => simp [intOf]; omega
        · have q1 : decide (b < f) = false := decide_eq_false h1
          by_cases h2 : t < a
          · have HT := Lib.hid (hT.out.trans (congrArg (C ++ ·) (ct1_one (.inr h2))))
            clear hT
            go_wp2_with (at_builtin; refine wpList_append_any _ rfl _ _ 22 rfl w.heap.size 30 i0 _ 2 16 Try.underlying22 hi hz0 hz1 hz2 rfl (by decide) ov C.length _ rfl (hO1.alloc _) (some ⟨wr.heap.size + 1, 0, none⟩) 1 1 (pcs [(a, b)]) rfl (rdv_one (f := a) (t := b) (blk_new_at (by simp))) (pcs_one _) (by unfold maxLen; omega) (by omega) (by have := hB1.size; simp at this ⊢; omega) (by simp) ?_; intro v4 w4 hown4 hgrow4 hat4)
            have hB2 := hB1.alloc hB1.size (.cells #[.int .u64 (a), .int .u64 (b)] 30)
            have hB4 := hB2.grown hgrow4 hB2.size (fun b hb => (hO1.lt b hb).1)
            clear d0 d1 hO hO1 hB hB1 hB2 hgrow4 hat4
            go_roundw
            case rel => exact ⟨_, k + 1, rfl, by omega, by go_num, by rw [HT.out, pcs_app]; simpa [pcs] using hown4, hB4⟩
            case measure => simp [intOf]; omega
          · have hn : ¬ (b < f ∨ t < a) := by omega
            have q2 : decide (t < a) = false := decide_eq_false h2
            by_cases h3 : a < f
            · by_cases h4 : t < b
              · have HT := Lib.hid (hT.out.trans (congrArg (C ++ ·) (ct1_ab hn h3 h4)))
                clear hT
                have q3 : decide (a < f) = true := decide_eq_true h3
                have hw1 : IntKind.u64.wrap (f - 1) = f - 1 := Go.IntWalk.u64_in _ (by omega)
                have hw2 : IntKind.u64.wrap (t + 1) = t + 1 := Go.IntWalk.u64_in _ (by omega)
                have hN1 := Blk.new wr 30 #[.int .u64 a, .int .u64 b]
                go_wp2_with (first
                  | (at_builtin; refine wpList_append_any _ rfl _ _ 22 rfl w.heap.size 30 i0 _ 2 16 Try.underlying22 hi hz0 hz1 hz2 rfl (by decide) v4 (C.length + 1) _ rfl (hown4.alloc _) (some ⟨w4.heap.size, 0, none⟩) 1 1 (pcs [(t + 1, b)]) rfl (rdv_one (f := t + 1) (t := b) (blk_new_at (by simp))) (pcs_one _) (by unfold maxLen; omega) (by omega) (by have := hB4.size; simp at this ⊢; omega) (by simp) ?_; intro v6 w6 hown6 hgrow6 hat6)
                  | (at_builtin; refine wpList_append_any _ rfl _ _ 22 rfl w.heap.size 30 i0 _ 2 16 Try.underlying22 hi hz0 hz1 hz2 rfl (by decide) ov C.length _ rfl (hO1.alloc _) (some ⟨wr.heap.size + 1, 0, none⟩) 1 1 (pcs [(a, f - 1)]) rfl (rdv_one (f := a) (t := f - 1) (blk_new_at (by simp))) (pcs_one _) (by unfold maxLen; omega) (by omega) (by have := hB1.size; simp at this ⊢; omega) (by simp) ?_; intro v4 w4 hown4 hgrow4 hat4; have hB4 := (hB1.alloc hB1.size (.cells #[.int .u64 a, .int .u64 (f - 1)] 30)).grown hgrow4 (by have := hB1.size; simp at this ⊢; omega) (fun b hb => (hO1.lt b hb).1); have hN4 := (hN1.alloc (.cells #[.int .u64 a, .int .u64 (f - 1)] 30)).grown hgrow4 (nb_own (cs := #[]) (t := 0) hO rfl); have e0 : w4.cell? ⟨wr.heap.size, 0, none⟩ = some (.int .u64 a) := hN4.cell 0; have e1 : w4.cell? ⟨wr.heap.size, 1, none⟩ = some (.int .u64 b) := hN4.cell 1))
                have hB6 := (hB4.alloc hB4.size (.cells #[.int .u64 (t + 1), .int .u64 b] 30)).grown hgrow6 (by have := hB4.size; simp at this ⊢; omega) (fun b hb => (hown4.lt b hb).1)
                clear d0 d1 hO hO1 hB hB1 hB4 hgrow4 hat4 hgrow6 hat6 e0 e1 hN1 hN4 hown4
                go_roundw
                case rel => exact ⟨_, k + 1, rfl, by omega, by go_num, by rw [HT.out, pcs_app]; simpa [pcs] using hown6, hB6⟩
                case measure => simp [intOf]; omega
              · have HT := Lib.hid (hT.out.trans (congrArg (C ++ ·) (ct1_a hn h3 h4)))
                clear hT
                have q3 : decide (a < f) = true := decide_eq_true h3
                have hw1 : IntKind.u64.wrap (f - 1) = f - 1 := Go.IntWalk.u64_in _ (by omega)
                have hN1 := Blk.new wr 30 #[.int .u64 a, .int .u64 b]
                go_wp2_with (at_builtin; refine wpList_append_any _ rfl _ _ 22 rfl w.heap.size 30 i0 _ 2 16 Try.underlying22 hi hz0 hz1 hz2 rfl (by decide) ov C.length _ rfl (hO1.alloc _) (some ⟨wr.heap.size + 1, 0, none⟩) 1 1 (pcs [(a, f - 1)]) rfl (rdv_one (f := a) (t := f - 1) (blk_new_at (by simp))) (pcs_one _) (by unfold maxLen; omega) (by omega) (by have := hB1.size; simp at this ⊢; omega) (by simp) ?_; intro v4 w4 hown4 hgrow4 hat4; have hN4 := (hN1.alloc (.cells #[.int .u64 a, .int .u64 (f - 1)] 30)).grown hgrow4 (nb_own (cs := #[]) (t := 0) hO rfl); have e0 : w4.cell? ⟨wr.heap.size, 0, none⟩ = some (.int .u64 a) := hN4.cell 0; have e1 : w4.cell? ⟨wr.heap.size, 1, none⟩ = some (.int .u64 b) := hN4.cell 1)
                have hB4 := (hB1.alloc hB1.size (.cells #[.int .u64 a, .int .u64 (f - 1)] 30)).grown hgrow4 (by have := hB1.size; simp at this ⊢; omega) (fun b hb => (hO1.lt b hb).1)
                clear d0 d1 hO hO1 hB hB1 hgrow4 hat4 e0 e1 hN1 hN4
                go_roundw
                case rel => exact ⟨_, k + 1, rfl, by omega, by go_num, by rw [HT.out, pcs_app]; simpa [pcs] using hown4, hB4⟩
                case measure => simp [intOf]; omega
            · have q3 : decide (a < f) = false := decide_eq_false h3
              by_cases h4 : t < b
              · have HT := Lib.hid (hT.out.trans (congrArg (C ++ ·) (ct1_b hn h3 h4)))
                clear hT
                have hw2 : IntKind.u64.wrap (t + 1) = t + 1 := Go.IntWalk.u64_in _ (by omega)
                go_wp2_with (at_builtin; refine wpList_append_any _ rfl _ _ 22 rfl w.heap.size 30 i0 _ 2 16 Try.underlying22 hi hz0 hz1 hz2 rfl (by decide) ov C.length _ rfl (hO1.alloc _) (some ⟨wr.heap.size + 1, 0, none⟩) 1 1 (pcs [(t + 1, b)]) rfl (rdv_one (f := t + 1) (t := b) (blk_new_at (by simp))) (pcs_one _) (by unfold maxLen; omega) (by omega) (by have := hB1.size; simp at this ⊢; omega) (by simp) ?_; intro v4 w4 hown4 hgrow4 hat4)
                have hB2 := hB1.alloc hB1.size (.cells #[.int .u64 (t + 1), .int .u64 (b)] 30)
                have hB4 := hB2.grown hgrow4 hB2.size (fun b hb => (hO1.lt b hb).1)
                clear d0 d1 hO hO1 hB hB1 hB2 hgrow4 hat4
                go_roundw
                case rel => exact ⟨_, k + 1, rfl, by omega, by go_num, by rw [HT.out, pcs_app]; simpa [pcs] using hown4, hB4⟩
                case measure => simp [intOf]; omega
              · have HT := Lib.hid (hT.out.trans (congrArg (C ++ ·) (ct1_no hn h3 h4)))
                clear hT
                go_wp2_with fail
                clear d0 d1 hO hB
                go_roundw
                case rel => exact ⟨_, k + 1, rfl, by omega, by go_num, by rw [HT.out, List.append_nil]; exact hO1, hB1⟩
                case measure => simp [intOf]; omega
      · have htk : L.take k = L := List.take_of_length_le (by omega)
        rw [htk] at hO
        clear htk
        have hbk := hblk.same hB
        have hne := own_blk_ne hO hbk (by decide)
        have hfr : ∀ b, ov.ownBlock = some b → w.heap.size ≤ b := fun b hb => (hO.lt b hb).1
        obtain ⟨A1, cp1, rfl, _⟩ := sl_of_own hO
        have c1 : wr.cell? ⟨g, 0, none⟩ = some _ := hbk.cell 0
        have f1 := hbk.frozen 0
        go_wp2_with fail
        go_end0
        exact ⟨_, rfl, ⟨hBg, _, rfl, by simpa using hbk.set_ 0 _, own_base (own_far hO hne _) hB0⟩, grown_set (grown_below hB _) _ _, fun b hb => .inr (hfr b hb)⟩
  · rw [if_neg hft]
    have hft' : decide (t < f) = true := by simp; omega
    clear hft hP hL
    go_enter Try.func20, Try.ntmps20
    go_wp2_with fail
    refine bodyPost_ret (results_none rfl _ _ _) rfl ?_
    exact ⟨rb, rfl, hs, grown_refl _ _, Fr.refl _ _⟩
set_option maxHeartbeats 4000000 in
set_option maxRecDepth 100000 in
theorem cut_any_nil (f t : Int) (w : World) : Calls Try.prog 20 #[.pointer none, .int .u64 f, .int .u64 t] w fun e w' => e = .returned (.tuple #[]) ∧ w = w' := by
  go_enter Try.func20, Try.ntmps20
  go_wp2_with fail
  refine bodyPost_ret (results_none rfl _ _ _) rfl ?_
  exact ⟨rfl, rfl⟩
set_option maxHeartbeats 4000000 in
set_option maxRecDepth 100000 in
theorem cutR_any (B g : Nat) (rb : Option Nat) (L : List (Int × Int)) (f t : Int) (w : World) (hs : RSet B w g rb L) (hB0 : B ≤ w.heap.size) (hL : L.length ≤ 4000000000) (hP : PairsOk L) (hf : 0 ≤ f ∧ f ≤ 18446744073709551615) (ht : 0 ≤ t ∧ t ≤ 18446744073709551615) : Calls Try.prog 29 #[.pointer (some ⟨g, 0, none⟩), .int .u64 f, .int .u64 t] w fun e w' => ∃ rb', e = .returned (.tuple #[]) ∧ RSet B w' g rb' (cuN f t L) ∧ w.grownBy w' (some g) ∧ Fr w rb rb' := by
  obtain ⟨i0, hi, hz0, hz1, hz2⟩ := info_parts infoR
  unfold cuN
  by_cases hft : f ≤ t
  · rw [if_pos hft]
    obtain ⟨hBg, V, hV, hblk, hown⟩ := hs
    obtain ⟨A, cap, rfl, hnc, hcm, _⟩ := sl_of_own hown
    have hcm' : cap ≤ 9223372036854775807 := by unfold maxLen at hcm; omega
    have hrd := rdp_of_own hown
    have c0 : w.cell? ⟨g, 0, none⟩ = some (.slice A L.length cap) := hblk.cell 0
    have HR := Lib.hid hrd
    have HP := Lib.hid hP
    have hgl := hblk.lt
    clear hrd hown hcm hP
    go_enter Try.func29, Try.ntmps29
    go_wp2_with fail
    clear c0
    go_loopw [6, 21] (fun s6 s21 wr => ∃ (ov : Value) (k : Nat), ov = s6 ∧ k ≤ L.length ∧ s21 = .int .i64 k ∧ wr.ownsRow w.heap.size 30 2 ov (ct f t (L.take k)).length (pcs (ct f t (L.take k))) ∧ Below w.heap.size w wr) (fun _ s21 _ => L.length - (intOf s21).toNat)
    case atStart => exact ⟨_, 0, rfl, Nat.zero_le _, rfl, World.ownsRow_nil _ _ _ _, Below.refl _ _⟩
    case round =>
      obtain ⟨ov, k, rfl, hkl, rfl, hO, hB⟩ := hrel
      have hcl : (ct f t (L.take k)).length ≤ 8000000000 := by have := ct_len f t (L.take k); have := List.length_take_le k L; omega
      by_cases hk : k < L.length
      · obtain ⟨bb, off, rfl, hbb, d0, d1⟩ := (HR.out.below hB).get k hk
        have hT := Lib.hid (ct_take f t L k hk)
        have hx0 := HP.out.getD k
        obtain ⟨x, hx⟩ : ∃ x, x = L.getD k (0, 0) := ⟨_, rfl⟩
        rw [← hx] at d0 d1 hT hx0
        clear hx
        obtain ⟨a, b⟩ := x
        simp only at d0 d1 hx0
        obtain ⟨⟨ha0, ha1⟩, hb0, hb1⟩ := hx0
        obtain ⟨C, hC⟩ : ∃ C, C = ct f t (L.take k) := ⟨_, rfl⟩
        rw [← hC] at hO hT hcl
        clear hC
        have hB1 := hB.alloc hB.size (.cells #[.int .u64 a, .int .u64 b] 30)
        have hO1 := hO.alloc (.cells #[.int .u64 a, .int .u64 b] 30)
        have hbs := hB.size
        by_cases h1 : b < f
        · have HT := Lib.hid (hT.out.trans (congrArg (C ++ ·) (ct1_one (.inl h1))))
          clear hT
          have q1 : decide (b < f) = true := decide_eq_true h1
          go_wp2_with (at_builtin; refine wpList_append_any _ rfl _ _ 22 rfl w.heap.size 30 i0 _ 2 16 Try.underlying22 hi hz0 hz1 hz2 rfl (by decide) ov C.length _ rfl (hO1.alloc _) (some ⟨wr.heap.size + 1, 0, none⟩) 1 1 (pcs [(a, b)]) rfl (rdv_one (f := a) (t := b) (blk_new_at (by simp))) (pcs_one _) (by unfold maxLen; omega) (by omega) (by have := hB1.size; simp at this ⊢; omega) (by simp) ?_; intro v4 w4 hown4 hgrow4 hat4)
          have hB2 := hB1.alloc hB1.size (.cells #[.int .u64 (a), .int .u64 (b)] 30)
          have hB4 := hB2.grown hgrow4 hB2.size (fun b hb => (hO1.lt b hb).1)
          clear d0 d1 hO hO1 hB hB1 hB2 hgrow4 hat4
          go_roundw
          case rel => exact ⟨_, k + 1, rfl, by omega, by go_num, by rw [HT.out, pcs_app]; simpa [pcs] using hown4, hB4⟩
          case measure => simp [intOf]; omega
        · have q1 : decide (b < f) = false := decide_eq_false h1
          by_cases h2 : t < a
          · have HT := Lib.hid (hT.out.trans (congrArg (C ++ ·) (ct1_one (.inr h2))))
            clear hT
            go_wp2_with (at_builtin; refine wpList_append_any _ rfl _ _ 22 rfl w.heap.size 30 i0 _ 2 16 Try.underlying22 hi hz0 hz1 hz2 rfl (by decide) ov C.length _ rfl (hO1.alloc _) (some ⟨wr.heap.size + 1, 0, none⟩) 1 1 (pcs [(a, b)]) rfl (rdv_one (f := a) (t := b) (blk_new_at (by simp))) (pcs_one _) (by unfold maxLen; omega) (by omega) (by have := hB1.size; simp at this ⊢; omega) (by simp) ?_; intro v4 w4 hown4 hgrow4 hat4)
            have hB2 := hB1.alloc hB1.size (.cells #[.int .u64 (a), .int .u64 (b)] 30)
            have hB4 := hB2.grown hgrow4 hB2.size (fun b hb => (hO1.lt b hb).1)
            clear d0 d1 hO hO1 hB hB1 hB2 hgrow4 hat4
            go_roundw
            case rel => exact ⟨_, k + 1, rfl, by omega, by go_num, by rw [HT.out, pcs_app]; simpa [pcs] using hown4, hB4⟩
            case measure => simp [intOf]; omega
          · have hn : ¬ (b < f ∨ t < a) := by omega
            have q2 : decide (t < a) = false := decide_eq_false h2
            by_cases h3 : a < f
            · by_cases h4 : t < b
              · have HT := Lib.hid (hT.out.trans (congrArg (C ++ ·) (ct1_ab hn h3 h4)))
                clear hT
                have q3 : decide (a < f) = true := decide_eq_true h3
                have hw1 : IntKind.u64.wrap (f - 1) = f - 1 := Go.IntWalk.u64_in _ (by omega)
                have hw2 : IntKind.u64.wrap (t + 1) = t + 1 := Go.IntWalk.u64_in _ (by omega)
                have hN1 := Blk.new wr 30 #[.int .u64 a, .int .u64 b]
                go_wp2_with (first
                  | (at_builtin; refine wpList_append_any _ rfl _ _ 22 rfl w.heap.size 30 i0 _ 2 16 Try.underlying22 hi hz0 hz1 hz2 rfl (by decide) v4 (C.length + 1) _ rfl (hown4.alloc _) (some ⟨w4.heap.size, 0, none⟩) 1 1 (pcs [(t + 1, b)]) rfl (rdv_one (f := t + 1) (t := b) (blk_new_at (by simp))) (pcs_one _) (by unfold maxLen; omega) (by omega) (by have := hB4.size; simp at this ⊢; omega) (by simp) ?_; intro v6 w6 hown6 hgrow6 hat6)
                  | (at_builtin; refine wpList_append_any _ rfl _ _ 22 rfl w.heap.size 30 i0 _ 2 16 Try.underlying22 hi hz0 hz1 hz2 rfl (by decide) ov C.length _ rfl (hO1.alloc _) (some ⟨wr.heap.size + 1, 0, none⟩) 1 1 (pcs [(a, f - 1)]) rfl (rdv_one (f := a) (t := f - 1) (blk_new_at (by simp))) (pcs_one _) (by unfold maxLen; omega) (by omega) (by have := hB1.size; simp at this ⊢; omega) (by simp) ?_; intro v4 w4 hown4 hgrow4 hat4; have hB4 := (hB1.alloc hB1.size (.cells #[.int .u64 a, .int .u64 (f - 1)] 30)).grown hgrow4 (by have := hB1.size; simp at this ⊢; omega) (fun b hb => (hO1.lt b hb).1); have hN4 := (hN1.alloc (.cells #[.int .u64 a, .int .u64 (f - 1)] 30)).grown hgrow4 (nb_own (cs := #[]) (t := 0) hO rfl); have e0 : w4.cell? ⟨wr.heap.size, 0, none⟩ = some (.int .u64 a) := hN4.cell 0; have e1 : w4.cell? ⟨wr.heap.size, 1, none⟩ = some (.int .u64 b) := hN4.cell 1))
                have hB6 := (hB4.alloc hB4.size (.cells #[.int .u64 (t + 1), .int .u64 b] 30)).grown hgrow6 (by have := hB4.size; simp at this ⊢; omega) (fun b hb => (hown4.lt b hb).1)
                clear d0 d1 hO hO1 hB hB1 hB4 hgrow4 hat4 hgrow6 hat6 e0 e1 hN1 hN4 hown4
                go_roundw
                case rel => exact ⟨_, k + 1, rfl, by omega, by go_num, by rw [HT.out, pcs_app]; simpa [pcs] using hown6, hB6⟩
                case measure => simp [intOf]; omega
              · have HT := Lib.hid (hT.out.trans (congrArg (C ++ ·) (ct1_a hn h3 h4)))
                clear hT
                have q3 : decide (a < f) = true := decide_eq_true h3
                have hw1 : IntKind.u64.wrap (f - 1) = f - 1 := Go.IntWalk.u64_in _ (by omega)
                have hN1 := Blk.new wr 30 #[.int .u64 a, .int .u64 b]
                go_wp2_with (at_builtin; refine wpList_append_any _ rfl _ _ 22 rfl w.heap.size 30 i0 _ 2 16 Try.underlying22 hi hz0 hz1 hz2 rfl (by decide) ov C.length _ rfl (hO1.alloc _) (some ⟨wr.heap.size + 1, 0, none⟩) 1 1 (pcs [(a, f - 1)]) rfl (rdv_one (f := a) (t := f - 1) (blk_new_at (by simp))) (pcs_one _) (by unfold maxLen; omega) (by omega) (by have := hB1.size; simp at this ⊢; omega) (by simp) ?_; intro v4 w4 hown4 hgrow4 hat4; have hN4 := (hN1.alloc (.cells #[.int .u64 a, .int .u64 (f - 1)] 30)).grown hgrow4 (nb_own (cs := #[]) (t := 0) hO rfl); have e0 : w4.cell? ⟨wr.heap.size, 0, none⟩ = some (.int .u64 a) := hN4.cell 0; have e1 : w4.cell? ⟨wr.heap.size, 1, none⟩ = some (.int .u64 b) := hN4.cell 1)
                have hB4 := (hB1.alloc hB1.size (.cells #[.int .u64 a, .int .u64 (f - 1)] 30)).grown hgrow4 (by have := hB1.size; simp at this ⊢; omega) (fun b hb => (hO1.lt b hb).1)
                clear d0 d1 hO hO1 hB hB1 hgrow4 hat4 e0 e1 hN1 hN4
                go_roundw
                case rel => exact ⟨_, k + 1, rfl, by omega, by go_num, by rw [HT.out, pcs_app]; simpa [pcs] using hown4, hB4⟩
                case measure => simp [intOf]; omega
            · have q3 : decide (a < f) = false := decide_eq_false h3
              by_cases h4 : t < b
              · have HT := Lib.hid (hT.out.trans (congrArg (C ++ ·) (ct1_b hn h3 h4)))
                clear hT
                have hw2 : IntKind.u64.wrap (t + 1) = t + 1 := Go.IntWalk.u64_in _ (by omega)
                go_wp2_with (at_builtin; refine wpList_append_any _ rfl _ _ 22 rfl w.heap.size 30 i0 _ 2 16 Try.underlying22 hi hz0 hz1 hz2 rfl (by decide) ov C.length _ rfl (hO1.alloc _) (some ⟨wr.heap.size + 1, 0, none⟩) 1 1 (pcs [(t + 1, b)]) rfl (rdv_one (f := t + 1) (t := b) (blk_new_at (by simp))) (pcs_one _) (by unfold maxLen; omega) (by omega) (by have := hB1.size; simp at this ⊢; omega) (by simp) ?_; intro v4 w4 hown4 hgrow4 hat4)
                have hB2 := hB1.alloc hB1.size (.cells #[.int .u64 (t + 1), .int .u64 (b)] 30)
                have hB4 := hB2.grown hgrow4 hB2.size (fun b hb => (hO1.lt b hb).1)
                clear d0 d1 hO hO1 hB hB1 hB2 hgrow4 hat4
                go_roundw
                case rel => exact ⟨_, k + 1, rfl, by omega, by go_num, by rw [HT.out, pcs_app]; simpa [pcs] using hown4, hB4⟩
                case measure => simp [intOf]; omega
              · have HT := Lib.hid (hT.out.trans (congrArg (C ++ ·) (ct1_no hn h3 h4)))
                clear hT
                go_wp2_with fail
                clear d0 d1 hO hB
                go_roundw
                case rel => exact ⟨_, k + 1, rfl, by omega, by go_num, by rw [HT.out, List.append_nil]; exact hO1, hB1⟩
                case measure => simp [intOf]; omega
      · have htk : L.take k = L := List.take_of_length_le (by omega)
        rw [htk] at hO
        clear htk
        have hbk := hblk.same hB
        have hne := own_blk_ne hO hbk (by decide)
        have hfr : ∀ b, ov.ownBlock = some b → w.heap.size ≤ b := fun b hb => (hO.lt b hb).1
        obtain ⟨A1, cp1, rfl, _⟩ := sl_of_own hO
        have c1 : wr.cell? ⟨g, 0, none⟩ = some _ := hbk.cell 0
        have f1 := hbk.frozen 0
        go_wp2_with fail
        go_end0
        exact ⟨_, rfl, ⟨hBg, _, rfl, by simpa using hbk.set_ 0 _, own_base (own_far hO hne _) hB0⟩, grown_set (grown_below hB _) _ _, fun b hb => .inr (hfr b hb)⟩
  · rw [if_neg hft]
    have hft' : decide (t < f) = true := by simp; omega
    clear hft hP hL
    go_enter Try.func29, Try.ntmps29
    go_wp2_with fail
    refine bodyPost_ret (results_none rfl _ _ _) rfl ?_
    exact ⟨rb, rfl, hs, grown_refl _ _, Fr.refl _ _⟩
set_option maxHeartbeats 4000000 in
set_option maxRecDepth 100000 in
theorem cutR_any_nil (f t : Int) (w : World) : Calls Try.prog 29 #[.pointer none, .int .u64 f, .int .u64 t] w fun e w' => e = .returned (.tuple #[]) ∧ w = w' := by
  go_enter Try.func29, Try.ntmps29
  go_wp2_with fail
  refine bodyPost_ret (results_none rfl _ _ _) rfl ?_
  exact ⟨rfl, rfl⟩

end Go.Proofs.Ytcmkegkljappfaa
