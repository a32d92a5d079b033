/-
  A slice literal of one group. No condition.
-/
import Derived.Test.YtiaabbflchdcbaaSsy
import Derived.Great.BuildSlice
namespace Go.Proofs.Ytiaabbflchdcbaa
open Go.RowKit
set_option linter.unusedVariables false
set_option linter.unusedSimpArgs false

theorem infoLot : (Try.prog.info? 84).map (fun i => (i.zero, i.size, i.bytes)) = some (some (.agg #[.int .u8 0, .int .u8 0, .int .u8 0, .int .u8 0, .int .u8 0, .int .u8 0, .int .u8 0, .int .u8 0, .int .u8 0, .int .u8 0, .int .u8 0, .int .u8 0, .int .u8 0, .int .u8 0, .int .u8 0, .int .u8 0, .int .u8 0, .int .u8 0, .int .u8 0, .int .u8 0, .int .u8 0, .int .u8 0, .int .u8 0, .int .u8 0, .int .u8 0, .int .u8 0, .int .u8 0, .int .u8 0, .int .u8 0, .int .u8 0, .int .u8 0, .int .u8 0, .int .u64 0]), 33, 40) := by kernel_rfl
theorem lot_info : ∃ i, Try.prog.info? 84 = some i ∧ i.zero = some (.agg #[.int .u8 0, .int .u8 0, .int .u8 0, .int .u8 0, .int .u8 0, .int .u8 0, .int .u8 0, .int .u8 0, .int .u8 0, .int .u8 0, .int .u8 0, .int .u8 0, .int .u8 0, .int .u8 0, .int .u8 0, .int .u8 0, .int .u8 0, .int .u8 0, .int .u8 0, .int .u8 0, .int .u8 0, .int .u8 0, .int .u8 0, .int .u8 0, .int .u8 0, .int .u8 0, .int .u8 0, .int .u8 0, .int .u8 0, .int .u8 0, .int .u8 0, .int .u8 0, .int .u64 0]) ∧ i.size = 33 ∧ i.bytes = 40 := by
  cases h : Try.prog.info? 84 with
  | none => have := infoLot; rw [h] at this; cases this
  | some i =>
    have := infoLot
    rw [h] at this
    simp only [Option.map_some, Option.some.injEq, Prod.mk.injEq] at this
    exact ⟨i, rfl, this.1, this.2.1, this.2.2⟩
theorem fill33 : ∀ (t : List Int) (g : Int), t.length = 32 → Instr.fill (fun i => some (i * 33, 33)) ((Array.range (1 * 33)).map ((Value.agg #[.int .u8 0, .int .u8 0, .int .u8 0, .int .u8 0, .int .u8 0, .int .u8 0, .int .u8 0, .int .u8 0, .int .u8 0, .int .u8 0, .int .u8 0, .int .u8 0, .int .u8 0, .int .u8 0, .int .u8 0, .int .u8 0, .int .u8 0, .int .u8 0, .int .u8 0, .int .u8 0, .int .u8 0, .int .u8 0, .int .u8 0, .int .u8 0, .int .u8 0, .int .u8 0, .int .u8 0, .int .u8 0, .int .u8 0, .int .u8 0, .int .u8 0, .int .u8 0, .int .u64 0]).cells[· % (Value.agg #[.int .u8 0, .int .u8 0, .int .u8 0, .int .u8 0, .int .u8 0, .int .u8 0, .int .u8 0, .int .u8 0, .int .u8 0, .int .u8 0, .int .u8 0, .int .u8 0, .int .u8 0, .int .u8 0, .int .u8 0, .int .u8 0, .int .u8 0, .int .u8 0, .int .u8 0, .int .u8 0, .int .u8 0, .int .u8 0, .int .u8 0, .int .u8 0, .int .u8 0, .int .u8 0, .int .u8 0, .int .u8 0, .int .u8 0, .int .u8 0, .int .u8 0, .int .u8 0, .int .u64 0]).cells.size]!)) [(0, .agg (lotC t g))] = some (lotC t g)
  | [a0, a1, a2, a3, a4, a5, a6, a7, a8, a9, a10, a11, a12, a13, a14, a15, a16, a17, a18, a19, a20, a21, a22, a23, a24, a25, a26, a27, a28, a29, a30, a31], g, _ => by kernel_rfl
theorem step_lit84 {ops : Array Oper} {o : Oper} {a : Act} {w : World} {K : Act → World → Prop} {Q : Exit → Act → World → Prop} {E : Prop} (hgd : o.guard = none) (x : Operand) (ho : o.op = .buildSlice 79 1 #[(0, x)])
    (t : List Int) (g : Int) (ht : t.length = 32) (hx : a.eval x = .agg (lotC t g)) (h : K (a.put o.dst (.slice (some ⟨w.heap.size, 0, none⟩) 1 1)) (w.alloc (.cells (lotC t g) 84))) :
    if Region.wanted o (yielded ops a.tmps) = true then Oper.wp Try.prog o a w K Q else E := by
  have hw : Region.wanted o (yielded ops a.tmps) = true := by simp [Region.wanted, hgd]
  rw [if_pos hw]
  obtain ⟨iM, h0, h1, h2, h3⟩ := lot_info
  refine wp_buildSlice 79 84 1 _ ho (lotC t g) iM _ Try.underlying79 h0 h1 (by rw [h2]; decide) (by rw [h2]; decide) ?_ h
  rw [h2]
  have := fill33 t g ht
  simpa [hx] using this
theorem rdv_lot {w : World} {b : Nat} {t : List Int} {g : Int} (h : Blk w b 84 (lotC t g)) (ht : T32 t) : RdV w 33 (some ⟨b, 0, none⟩) 1 (lotC t g).toList := by
  have hs := lot_size (g := g) ht
  refine ⟨by rw [Array.length_toList, hs], fun k hk => ⟨b, 0, rfl, h.lt, fun j hj => ?_⟩⟩
  have hk0 : k = 0 := by omega
  subst hk0
  have hj2 : j < (lotC t g).size := by rw [hs]; exact hj
  rw [Nat.zero_add, Nat.zero_mul, Nat.zero_add, h.cell j]
  simp [List.getD, hj2]
theorem lot_ones (t : List Int) (g : Int) : ∀ u ∈ (lotC t g).toList, u.oneCell' = true := fun u hu => by
  have h := lot_one t g
  rw [Array.all_eq_true_iff_forall_mem] at h
  exact h u (by simpa using hu)
/-- A group is set behind the row. -/
theorem step_app84 {ops : Array Oper} {o : Oper} {a : Act} {w : World} {K : Act → World → Prop} {Q : Exit → Act → World → Prop} {E : Prop} (hgd : o.guard = none) (s x : Operand)
    (ho : o.op = .call { callee := .builtin .append, args := #[s, x], argTypes := #[79, 79] }) (B : Nat) (lv : Value) (ZL : List Lot) (t : List Int) (g : Int) (ht : T32 t) (hl : ZL.length ≤ 1000000) (hs : a.eval s = lv) (hown : LR w B lv ZL)
    (b : Nat) (hx : a.eval x = .slice (some ⟨b, 0, none⟩) 1 1) (hb : Blk w b 84 (lotC t g)) (hB : B ≤ w.heap.size)
    (h : ∀ v' w', LR w' B v' (ZL ++ [(t, g)]) → w.grownBy w' lv.ownBlock → (v'.ownBlock = lv.ownBlock ∨ v'.ownBlock = some w.heap.size) → K (a.put o.dst v') w') :
    if Region.wanted o (yielded ops a.tmps) = true then Oper.wp Try.prog o a w K Q else E := by
  obtain ⟨i, h0, h1, h2, h3⟩ := lot_info
  refine step_append_any w hgd s x 79 ho B 84 i _ 33 40 Try.underlying79 h0 h1 h2 h3 (by rfl) (by decide) lv ZL.length (flat ZL) hs hown (some ⟨b, 0, none⟩) 1 1 (lotC t g).toList hx (rdv_lot hb ht) (lot_ones t g) (by unfold maxLen; omega) (by omega) hB (fun h => by cases h) ?_
  intro v' w' k1 k2 k3
  refine h v' w' ?_ k2 k3
  unfold LR
  rw [List.length_append, flat_app]
  simpa [flat] using k1

end Go.Proofs.Ytiaabbflchdcbaa
