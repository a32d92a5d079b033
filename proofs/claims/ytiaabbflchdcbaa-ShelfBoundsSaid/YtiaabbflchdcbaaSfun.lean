/-
  cost, has, Less, the closure of let. No condition.
-/
import Derived.Test.YtiaabbflchdcbaaSname
namespace Go.Proofs.Ytiaabbflchdcbaa
open Go.RowKit
set_option linter.unusedVariables false
set_option linter.unusedSimpArgs false

theorem ok_arr {t : List Int} (h : T32 t) : KeyOk Try.prog 69 (.agg (trkC t)) := by
  obtain ⟨d, hd⟩ := depth3
  obtain ⟨l, hl⟩ := Option.isSome_iff_exists.1 (lits_arr (d + 1) 69 32 Try.underlying69 cells69 h)
  have hs := trk_size h
  have hk : Try.prog.keyType 69 = true := by kernel_rfl
  have hf : (Value.agg (trkC t)).formed Try.prog 69 = true := by simp [Value.formed, Try.underlying69, cells69, hs]
  refine ⟨.string (keyBytes l), ?_⟩
  unfold keyOf
  simp only [Try.underlying69]
  rw [hd, hk, hf]
  simp [Value.cells, trkC, hl]
theorem law69 : Go.Maps.Keyed Try.prog 69 := Go.Maps.Keyed.of_law (deep_law_laid laidOutS (m := 3) (by omega) (of_decide_eq_true (by kernel_rfl)) (by kernel_rfl) (by rw [Try.underlying69]))
theorem eq_arr {t t' : List Int} (ht : T32 t) (ht' : T32 t') (w : World) : (Op.equal 69 (.agg (trkC t)) (.agg (trkC t'))).run Try.prog w = .ok (decide (t = t')) w := by
  obtain ⟨l, hl⟩ := ok_arr ht
  obtain ⟨l', hl'⟩ := ok_arr ht'
  obtain ⟨r, hr, hiff⟩ := run_equal_deep w (m := 3) (by omega) (k := 69) (by kernel_rfl) (by rw [Try.underlying69]) hl hl'
  rw [hr]
  congr 1
  rw [Bool.eq_iff_iff, hiff, decide_eq_true_eq]
  constructor
  · intro e
    subst e
    exact trk_inj (by injection law69.inj hl hl')
  · rintro rfl
    rw [hl] at hl'
    injection hl'
theorem bin_arr {t t' : List Int} (ht : T32 t) (ht' : T32 t') (w : World) : (binOp .eql 69 (.agg (trkC t)) (.agg (trkC t'))).run Try.prog w = .ok (.bool (decide (t = t'))) w := by
  simp [binOp, eq_arr ht ht' w]
theorem bin_lot {t t' : List Int} {g g' : Int} (ht : T32 t) (ht' : T32 t') (hg : U64 g) (hg' : U64 g') (w : World) : (binOp .eql 84 (.agg (lotC t g)) (.agg (lotC t' g'))).run Try.prog w = .ok (.bool (decide (t = t' ∧ g = g'))) w := by
  simp [binOp, eq_lot ht ht' hg hg' w]
theorem bin_lot2 {t t' : List Int} {g g' : Int} (ht : T32 t) (ht' : T32 t') (hg : U64 g) (hg' : U64 g') (w : World) : (binOp .eql 84 (.agg (lotC t g)) (.agg (lotC t' g'))).run Try.prog w = .ok (.bool (decide (t = t') && decide (g = g'))) w := by
  rw [bin_lot ht ht' hg hg' w]
  simp
theorem key_range {w : World} {b : Nat} {t : List Int} {g n : Int} (h : Blk w b 71 (keyC t g n)) : w.rangeAt b 0 (t.map (Value.int .u8)) := fun j v hv => by
  rw [Nat.zero_add, h.cell j]
  have hj := (List.getElem?_eq_some_iff.1 hv).1
  simp [keyC, List.getElem?_append_left hj, hv]
theorem lot_range {w : World} {b : Nat} {t : List Int} {g : Int} (h : Blk w b 84 (lotC t g)) : w.rangeAt b 0 (t.map (Value.int .u8)) := fun j v hv => by
  rw [Nat.zero_add, h.cell j]
  have hj := (List.getElem?_eq_some_iff.1 hv).1
  simp [lotC, List.getElem?_append_left hj, hv]
theorem key_g {w : World} {b : Nat} {t : List Int} {g n : Int} (h : Blk w b 71 (keyC t g n)) (ht : T32 t) : w.cell? ⟨b, 32, none⟩ = some (.int .u64 g) := by
  rw [h.cell 32]; simp [keyC, List.getElem?_append_right, ht.1]
theorem key_n {w : World} {b : Nat} {t : List Int} {g n : Int} (h : Blk w b 71 (keyC t g n)) (ht : T32 t) : w.cell? ⟨b, 33, none⟩ = some (.int .u64 n) := by
  rw [h.cell 33]; simp [keyC, List.getElem?_append_right, ht.1]
theorem lot_g {w : World} {b : Nat} {t : List Int} {g : Int} (h : Blk w b 84 (lotC t g)) (ht : T32 t) : w.cell? ⟨b, 32, none⟩ = some (.int .u64 g) := by
  rw [h.cell 32]; simp [lotC, List.getElem?_append_right, ht.1]
theorem cost_any (g n p : Int) (gr : Bool) (A : Option Addr) (m c : Nat) (w : World) (hm : m ≤ 1099511627776) :
    Calls Try.prog 31 #[.agg #[.int .u64 g, .int .u64 n, .int .u8 p, .bool gr, (.slice A m c)]] w fun e w' => e = .returned (.int .i64 (m + 16)) ∧ Below w.heap.size w w' := by
  have hO := Blk.new w 35 #[.int .u64 g, .int .u64 n, .int .u8 p, .bool gr, (.slice A m c)]
  have hB := (Below.refl w.heap.size w).alloc (Nat.le_refl _) (.cells #[.int .u64 g, .int .u64 n, .int .u8 p, .bool gr, (.slice A m c)] 35)
  have c4 : World.cell? _ ⟨w.heap.size, 4, none⟩ = some (.slice A m c) := hO.cell 4
  have hw : wrap64 ((m : Int) + 16) = (m : Int) + 16 := by unfold wrap64; omega
  go_enter Try.func31, Try.ntmps31
  go_wp2_with fail
  go_ret
  exact ⟨rfl, hB⟩
theorem has_any (t t' : List Int) (g n : Int) (w : World) (ht : T32 t) (ht' : T32 t') :
    Calls Try.prog 37 #[.agg (trkC t), .agg (keyC t' g n)] w fun e w' => e = .returned (.bool (decide (t' = t))) ∧ Below w.heap.size w w' := by
  have hT := (Blk.new w 82 (trkC t)).alloc (.cells (keyC t' g n) 71)
  have hK : Blk ((w.alloc (.cells (trkC t) 82)).alloc (.cells (keyC t' g n) 71)) (w.heap.size + 1) 71 (keyC t' g n) := blk_new_at (by simp)
  have hB := ((Below.refl w.heap.size w).alloc (Nat.le_refl _) (.cells (trkC t) 82)).alloc (by simp) (.cells (keyC t' g n) 71)
  have he := bin_arr ht' ht
  have hts := trk_size ht
  go_enter Try.func37, Try.ntmps37
  go_upto_region 1 with fail
  refine wp_world (fun wz => Blk wz w.heap.size 82 (trkC t) ∧ Blk wz (w.heap.size + 1) 71 (keyC t' g n) ∧ Below w.heap.size w wz) ⟨hT, hK, hB⟩ ?_
  clear hT hK hB
  rintro wz ⟨hT, hK, hB⟩
  have hrg := key_range hK
  go_wp2_with (first | (refine wpList_load_mid rfl 69 (.tmp 5) rfl (w.heap.size + 1) 0 rfl (t'.map (Value.int .u8)) _ hrg Try.underlying69 rfl (by rw [info69, List.length_map, ht'.1]) ?_; show wpList _ _ _ _ (Act.put _ _ (.agg (trkC t'))) _) | (refine wpList_load_row rfl 82 (.tmp 2) rfl w.heap.size rfl 82 (trkC t) (0, 0) _ hT Try.underlying82 rfl (by rw [info82, hts]) ?_) | fail)
  go_ret
  exact ⟨rfl, hB⟩
/-- Of two places, whether the first is ahead. -/
def ltP (g n g' n' : Int) : Bool := decide (g < g') || (decide (g = g') && decide (n < n'))
theorem less_any (g n g' n' : Int) (w : World) :
    Calls Try.prog 34 #[.agg #[.int .u64 g, .int .u64 n], .agg #[.int .u64 g', .int .u64 n']] w fun e w' => e = .returned (.bool (ltP g n g' n')) ∧ Below w.heap.size w w' := by
  have hB := ((Below.refl w.heap.size w).alloc (Nat.le_refl _) (.cells #[.int .u64 g, .int .u64 n] 33)).alloc (by simp) (.cells #[.int .u64 g', .int .u64 n'] 33)
  have he : (g == g') = decide (g = g') := rfl
  go_enter Try.func34, Try.ntmps34
  by_cases h1 : g < g'
  · have d1 : decide (g < g') = true := decide_eq_true h1
    go_wp2_with fail
    go_ret
    exact ⟨by simp [ltP, h1], hB⟩
  · have d1 : decide (g < g') = false := decide_eq_false h1
    by_cases h2 : g = g'
    · subst h2
      go_wp2_with fail
      go_ret
      exact ⟨by simp [ltP], hB⟩
    · have d2 : (g == g') = false := by simp [h2]
      go_wp2_with fail
      go_ret
      exact ⟨by simp [ltP, h1, h2], hB⟩
/-- The closure of let: is it that group? -/
theorem del_any (t t' : List Int) (g g' : Int) (xb : Nat) (w : World) (hx : Blk w xb 84 (lotC t' g')) (ht : T32 t) (ht' : T32 t') (hg : U64 g) (hg' : U64 g') :
    Calls Try.prog 43 #[.agg (lotC t g), .pointer (some ⟨xb, 0, none⟩)] w fun e w' => e = .returned (.bool (decide (t = t') && decide (g = g'))) ∧ Below w.heap.size w w' := by
  have hY := Blk.new w 84 (lotC t g)
  have hX := hx.alloc (.cells (lotC t g) 84)
  have hB := (Below.refl w.heap.size w).alloc (Nat.le_refl _) (.cells (lotC t g) 84)
  have he := bin_lot2 ht ht' hg hg'
  have hs := lot_size (g := g) ht
  have hs' := lot_size (g := g') ht'
  go_enter Try.func43, Try.ntmps43
  go_upto_region 1 with fail
  refine wp_world (fun wz => Blk wz w.heap.size 84 (lotC t g) ∧ Blk wz xb 84 (lotC t' g') ∧ Below w.heap.size w wz) ⟨hY, hX, hB⟩ ?_
  clear hY hX hB hx
  rintro wz ⟨hY, hX, hB⟩
  go_wp2_with (first | (refine wpList_load_row rfl 84 (.tmp 2) rfl w.heap.size rfl 84 (lotC t g) (0, 0) _ hY Try.underlying84 rfl (by rw [info84, hs]) ?_) | (refine wpList_load_row rfl 84 (.tmp 1) rfl xb rfl 84 (lotC t' g') (0, 0) _ hX Try.underlying84 rfl (by rw [info84, hs']) ?_) | fail)
  go_ret
  exact ⟨rfl, hB⟩

end Go.Proofs.Ytiaabbflchdcbaa
