/-
  The Stream example: its bytes.
-/
import Derived.Test.YtbigbnfllkacoaaDoorFnum
import Derived.Test.YtbigbnfllkacoaaDoorRegion
namespace Go.Proofs.YtbigbnfllkacoaaDoor
open Go.RowKit
set_option linter.unusedVariables false
set_option linter.unusedSimpArgs false


theorem j8 : joinN [8] = [8] := by decide
theorem j4 : joinN [4] = [4] := by decide
theorem j2 : joinN [2] = [2] := by decide
theorem jr : joinN [9, 0, 1, 2, 1, 0] = [9, 0, 1, 2, 1, 0] := by decide
theorem tx : txtB [97, 98] = [2, 97, 98] := by decide
theorem or101 : bits .or .u8 10 1 = 11 := by decide
theorem alln1 (a : Int) (h : 0 ≤ a ∧ a ≤ 100) : AllN [a] := fun x hx => by simp at hx; omega
theorem fitn {l : List Int} (h : fitB l = true) : FitN l := fitB_yes h
theorem join_lit (xs js : List Int) (n : Nat) (w : World) (hn : n = xs.length) (hl : xs.length ≤ 20) (hk : ∀ x ∈ xs, 0 ≤ x ∧ x ≤ 18446744073709551615) (hf : fitB xs = true) (hj : joinN xs = js) (v : Value) (ha : Rd w .u64 v xs) :
    Calls Tryd.prog 23 #[v] w fun e w' => ∃ v', e = .returned v' ∧ w'.ownsRow w.heap.size 5 1 v' js.length (js.map (Value.int .u8)) ∧ Below w.heap.size w w' := by
  subst hj
  exact join_yes v xs w ha hl hk (fitB_yes hf)
set_option maxHeartbeats 2000000 in
set_option maxRecDepth 100000 in
theorem stream8 (Ad : Option Addr) (cd : Nat) (w : World) (hr : Rd w .u8 (.slice Ad 2 cd) [97, 98]) : Calls Tryd.prog 28 #[.agg #[.int .u64 8, .int .u64 4, .int .u64 0, .int .u64 0, .int .u64 0, .bool true, .slice Ad 2 cd, .slice none 0 0, .slice none 0 0]] w fun e w' => ∃ v, e = .returned v ∧ w'.ownsRow w.heap.size 5 1 v [11, 4, 2, 97, 98].length ([11, 4, 2, 97, 98].map (Value.int .u8)) ∧ Below w.heap.size w w' := by
  obtain ⟨i0, hi, hz0, hz1, hz2⟩ := info_parts infoB
  have hO := (Blk.new w 26 #[.int .u64 8, .int .u64 4, .int .u64 0, .int .u64 0, .int .u64 0, .bool true, .slice Ad 2 cd, .slice none 0 0, .slice none 0 0]).alloc (.cells #[.int .u64 4] 22)
  have hB := ((Below.refl w.heap.size w).alloc (Nat.le_refl _) (.cells #[.int .u64 8, .int .u64 4, .int .u64 0, .int .u64 0, .int .u64 0, .bool true, .slice Ad 2 cd, .slice none 0 0, .slice none 0 0] 26)).alloc (by simp) (.cells #[.int .u64 4] 22)
  have hW := show Rd ((w.alloc (.cells #[.int .u64 8, .int .u64 4, .int .u64 0, .int .u64 0, .int .u64 0, .bool true, .slice Ad 2 cd, .slice none 0 0, .slice none 0 0] 26)).alloc (.cells #[.int .u64 4] 22)) .u64 (.slice (some ⟨w.heap.size + 1, 0, none⟩) 1 1) [4] from rd_lit_at (by simp) [4] (by simp)
  have hV := hr.below hB
  have hor := or101
  go_enter Tryd.func28, Tryd.ntmps28
  go_wp2_with fail
  refine wp_world (fun wz => Blk wz w.heap.size 26 #[.int .u64 8, .int .u64 4, .int .u64 0, .int .u64 0, .int .u64 0, .bool true, .slice Ad 2 cd, .slice none 0 0, .slice none 0 0] ∧ Below w.heap.size w wz ∧ Rd wz .u64 (.slice (some ⟨w.heap.size + 1, 0, none⟩) 1 1) [4] ∧ Rd wz .u8 (.slice Ad 2 cd) [97, 98]) ⟨hO, hB, hW, hV⟩ ?_
  clear hO hB hW hV hor
  rintro w1 ⟨hO, hB, hW, hV⟩
  have c6 : w1.cell? ⟨w.heap.size, 6, none⟩ = some (.slice Ad 2 cd) := hO.cell 6
  have hOl := hO.lt
  go_region_held3 (fun w' => w'.cell? ⟨w.heap.size, 6, none⟩ = some (.slice Ad 2 cd)) (first | exact p6 | (with_reducible refine keepB_cell c6 _ ?_; (repeat (first | with_reducible exact Below.refl _ _ | with_reducible assumption | with_reducible refine keepB_drew ?_ | with_reducible refine keepB_drewN ?_ _ | with_reducible refine keepB_alloc ?_ _ | with_reducible refine keepB_call ?_ hbT | with_reducible refine keepB_call ?_ hbJ | with_reducible refine keepB_call ?_ hbA))))
    (first
    | (go_at_call 23; (refine (join_lit [4] [4] 1 _ rfl (by decide) (by decide) (by decide) j4 _ (hW.below (by (repeat (first | with_reducible exact Below.refl _ _ | with_reducible assumption | with_reducible refine keepB_drew ?_ | with_reducible refine keepB_drewN ?_ _ | with_reducible refine keepB_alloc ?_ _ | with_reducible refine keepB_call ?_ hbT))))).mono ?_); rintro e wJ ⟨vJ, rfl, hJ, hbJ⟩; obtain ⟨AJ, kJ, rfl⟩ := (rd_of_own (k := .u8) (l := [4]) hJ).form)
    | (go_at_call 26; (refine (txt_any _ [97, 98] _ (hV.below (by (repeat (first | with_reducible exact Below.refl _ _ | with_reducible assumption | with_reducible refine keepB_drew ?_ | with_reducible refine keepB_drewN ?_ _ | with_reducible refine keepB_alloc ?_ _ | with_reducible refine keepB_call ?_ hbJ | with_reducible refine keepB_call ?_ hbA)))) (by decide)).mono ?_); rintro e wT ⟨vT, rfl, hT, hbT⟩; rw [tx] at hT; obtain ⟨AT, kT, rfl⟩ := (rd_of_own (k := .u8) (l := [2, 97, 98]) hT).form)
    | (refine step_append_lit (by rfl) _ _ 23 (by rfl) 5 i0 _ 1 Tryd.underlying23 hi hz0 hz1 hz2 (by rfl) #[.int .u8 11] (by rfl) (by (repeat (first | with_reducible exact Below.refl _ _ | with_reducible assumption | with_reducible refine keepB_drew ?_ | with_reducible refine keepB_drewN ?_ _ | with_reducible refine keepB_alloc ?_ _ | with_reducible refine keepB_call ?_ hbT | with_reducible refine keepB_call ?_ hbJ))) AJ 1 kJ [.int .u8 4] (by rfl) (((rd_of_own (k := .u8) (l := [4]) hJ).below (by (repeat (first | with_reducible exact Below.refl _ _ | with_reducible assumption | with_reducible refine keepB_drew ?_ | with_reducible refine keepB_drewN ?_ _ | with_reducible refine keepB_alloc ?_ _ | with_reducible refine keepB_call ?_ hbT)))).rdv.2.2.2.2) (oneInts .u8 [4]) (by decide) (by decide) (by decide) ?_; intro vA wA hA hbA)
    | (refine step_append_any _ (by rfl) _ _ 23 (by rfl) w.heap.size 5 i0 _ 1 1 Tryd.underlying23 hi hz0 hz1 hz2 (by rfl) (by decide) vA 2 [.int .u8 11, .int .u8 4] (by rfl) (own_base (own_same hA (by (repeat (first | with_reducible exact Below.refl _ _ | with_reducible assumption | with_reducible refine keepB_drew ?_ | with_reducible refine keepB_drewN ?_ _ | with_reducible refine keepB_alloc ?_ _ | with_reducible refine keepB_call ?_ hbT)))) (Nat.le_trans hB.size (szB (by (repeat (first | with_reducible exact Below.refl _ _ | with_reducible assumption | with_reducible refine keepB_drew ?_ | with_reducible refine keepB_drewN ?_ _ | with_reducible refine keepB_alloc ?_ _ | with_reducible refine keepB_call ?_ hbT | with_reducible refine keepB_call ?_ hbJ)))))) AT 3 kT [.int .u8 2, .int .u8 97, .int .u8 98] (by rfl) (((rd_of_own (k := .u8) (l := [2, 97, 98]) hT).below (by (repeat (first | with_reducible exact Below.refl _ _ | with_reducible assumption | with_reducible refine keepB_drew ?_ | with_reducible refine keepB_drewN ?_ _ | with_reducible refine keepB_alloc ?_ _ | with_reducible refine keepB_call ?_ hbA)))).rdv.2.2.2.2) (oneInts .u8 [2, 97, 98]) (by decide) (by decide) (Nat.le_trans hB.size (szB (by (repeat (first | with_reducible exact Below.refl _ _ | with_reducible assumption | with_reducible refine keepB_drew ?_ | with_reducible refine keepB_drewN ?_ _ | with_reducible refine keepB_alloc ?_ _ | with_reducible refine keepB_call ?_ hbT | with_reducible refine keepB_call ?_ hbJ | with_reducible refine keepB_call ?_ hbA))))) (((rd_of_own (k := .u8) (l := [2, 97, 98]) hT).below (by (repeat (first | with_reducible exact Below.refl _ _ | with_reducible assumption | with_reducible refine keepB_drew ?_ | with_reducible refine keepB_drewN ?_ _ | with_reducible refine keepB_alloc ?_ _ | with_reducible refine keepB_call ?_ hbA)))).rdv.2.1) ?_; intro v9 w9 hown9 hgrow9 hat9; have hA' := own_same hA (by (repeat (first | with_reducible exact Below.refl _ _ | with_reducible assumption | with_reducible refine keepB_drew ?_ | with_reducible refine keepB_drewN ?_ _ | with_reducible refine keepB_alloc ?_ _ | with_reducible refine keepB_call ?_ hbT))); have hB9 := fin_grown hB (by (repeat (first | with_reducible exact Below.refl _ _ | with_reducible assumption | with_reducible refine keepB_drew ?_ | with_reducible refine keepB_drewN ?_ _ | with_reducible refine keepB_alloc ?_ _ | with_reducible refine keepB_call ?_ hbT | with_reducible refine keepB_call ?_ hbJ | with_reducible refine keepB_call ?_ hbA))) hgrow9 (fun b hb => ((own_base hA' (Nat.le_trans hB.size (szB (by (repeat (first | with_reducible exact Below.refl _ _ | with_reducible assumption | with_reducible refine keepB_drew ?_ | with_reducible refine keepB_drewN ?_ _ | with_reducible refine keepB_alloc ?_ _ | with_reducible refine keepB_call ?_ hbT | with_reducible refine keepB_call ?_ hbJ)))))).lt b hb).1); have hO9 := Blk.grown (hO.same (by (repeat (first | with_reducible exact Below.refl _ _ | with_reducible assumption | with_reducible refine keepB_drew ?_ | with_reducible refine keepB_drewN ?_ _ | with_reducible refine keepB_alloc ?_ _ | with_reducible refine keepB_call ?_ hbT | with_reducible refine keepB_call ?_ hbJ | with_reducible refine keepB_call ?_ hbA)))) hgrow9 (Ne.symm (own_blk_ne hA' (hO.same (by (repeat (first | with_reducible exact Below.refl _ _ | with_reducible assumption | with_reducible refine keepB_drew ?_ | with_reducible refine keepB_drewN ?_ _ | with_reducible refine keepB_alloc ?_ _ | with_reducible refine keepB_call ?_ hbT | with_reducible refine keepB_call ?_ hbJ | with_reducible refine keepB_call ?_ hbA)))) (by decide))); have p6 : w9.cell? ⟨w.heap.size, 6, none⟩ = some (.slice Ad 2 cd) := hO9.cell 6))
  all_goals go_wp2_with fail
  all_goals go_ret
  all_goals exact ⟨v9, rfl, hown9, hB9⟩

end Go.Proofs.YtbigbnfllkacoaaDoor
