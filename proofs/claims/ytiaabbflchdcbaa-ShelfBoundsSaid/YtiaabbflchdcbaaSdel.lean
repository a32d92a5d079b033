/-
  DeleteFunc at the closure of let. No condition.
-/
import Derived.Test.YtiaabbflchdcbaaSlot
namespace Go.Proofs.Ytiaabbflchdcbaa
open Go.RowKit
set_option linter.unusedVariables false
set_option linter.unusedSimpArgs false

/-! cells turned one behind the other -/
theorem blk_setCells {g : Nat} {t : TypeId} : ∀ (vs : List Value) (o : Nat) (cur : Array Value) (w : World), Blk w g t cur → o + vs.length ≤ cur.size → Blk (w.setCells g o vs) g t (spl cur.toList o vs).toArray
  | [], o, cur, w, h, _ => by
    have e : spl cur.toList o [] = cur.toList := by simp [spl]
    rw [e]; exact h
  | v :: r, o, cur, w, h, hf => by
    simp only [List.length_cons] at hf
    have h1 := h.set_ o v
    have h2 := blk_setCells r (o + 1) _ _ h1 (by rw [Array.size_setIfInBounds]; omega)
    have e : spl (cur.setIfInBounds o v).toList (o + 1) r = spl cur.toList o (v :: r) := by
      unfold spl
      rw [Array.toList_setIfInBounds]
      have hl : o < cur.toList.length := by rw [Array.length_toList]; omega
      rw [List.take_succ_eq_append_getElem (by rw [List.length_set]; exact hl), List.take_set_of_le (Nat.le_refl _), List.getElem_set_self, List.drop_set_of_lt (by omega)]
      simp only [List.length_cons, List.append_assoc, List.singleton_append, List.cons_append, List.nil_append]
      rw [show o + 1 + r.length = o + (r.length + 1) by omega]
    rw [e] at h2
    exact h2
theorem grown_setCells (g : Nat) : ∀ (vs : List Value) (o : Nat) (w : World), w.grownBy (w.setCells g o vs) (some g)
  | [], _, w => grown_refl w _
  | v :: r, o, w => by
    have h1 := grown_set (grown_refl w (some g)) o v
    have h2 := grown_setCells g r (o + 1) (w.setCell ⟨g, o, none⟩ v)
    exact ⟨h2.os.trans h1.os, h2.tape.trans h1.tape, h2.output.trans h1.output, Nat.le_trans h1.size h2.size, fun i hi hne => (h2.block i (Nat.lt_of_lt_of_le hi h1.size) hne).trans (h1.block i hi hne)⟩
theorem there_blk {w : World} {g o n : Nat} {t : TypeId} {cur : Array Value} (h : Blk w g t cur) (hf : o + n ≤ cur.size) : w.there g o n := fun j hj => by
  refine ⟨?_, h.frozen _⟩
  rw [h.cell, Array.getElem?_eq_getElem (by omega)]
  rfl
theorem spl_take_flat {cur F vs : List Value} {m o : Nat} (h : cur.take m = F) (hm : m ≤ cur.length) (ho : o + vs.length ≤ m) : (spl cur o vs).take m = spl F o vs := by
  subst h
  unfold spl
  have h1 : (cur.take o).length = o := by rw [List.length_take]; omega
  rw [List.take_take, Nat.min_eq_left (by omega), List.take_append, List.take_of_length_le (by rw [List.length_append, h1]; omega), List.drop_take]
  congr 2
  rw [List.length_append, h1]
theorem lr_blk {w : World} {B g n c : Nat} {l : List Lot} (h : LR w B (.slice (some ⟨g, 0, none⟩) n c) l) : ∃ cur, Blk w g 84 cur ∧ n = l.length ∧ n ≤ c ∧ cur.size = c * 33 ∧ cur.toList.take (n * 33) = flat l ∧ B ≤ g ∧ c ≤ maxLen := by
  rcases h.2 with ⟨h1, _⟩ | ⟨g', cap, cur, e, hB, hb, hn, hc, hs, htk⟩
  · cases h1
  · simp only [Value.slice.injEq, Option.some.injEq, Addr.mk.injEq, and_true] at e
    obtain ⟨rfl, rfl, rfl⟩ := e
    exact ⟨cur, hb, rfl, hn, hs, htk, hB, hc⟩
theorem flat_set {l : List Lot} (hok : ∀ x ∈ l, LotOk x) {i : Nat} (hi : i < l.length) {x : Lot} (hx : LotOk x) : spl (flat l) (i * 33) (lotC x.1 x.2).toList = flat (l.set i x) := by
  have e : l = l.take i ++ l[i] :: l.drop (i + 1) := by rw [List.getElem_cons_drop, List.take_append_drop]
  have hl : (flat (l.take i)).length = i * 33 := by rw [flat_len (fun x hx => hok x (List.mem_of_mem_take hx)), List.length_take, Nat.min_eq_left (by omega)]
  have h1 := lot_len x hx
  have h2 := lot_len _ (hok _ (List.getElem_mem hi))
  have ef : flat l = flat (l.take i) ++ ((lotC l[i].1 l[i].2).toList ++ flat (l.drop (i + 1))) := by rw [← flat_cons, ← flat_app, ← e]
  have es : l.set i x = l.take i ++ x :: l.drop (i + 1) := by rw [List.set_eq_take_append_cons_drop, if_pos hi]
  rw [es, flat_app, flat_cons]
  unfold spl
  rw [ef, List.take_left' hl, ← List.append_assoc (flat (l.take i)), List.drop_left' (by rw [List.length_append, hl, h1, h2]), List.append_assoc]
theorem lr_set {w : World} {B g n c : Nat} {l : List Lot} (h : LR w B (.slice (some ⟨g, 0, none⟩) n c) l) (hok : ∀ x ∈ l, LotOk x) (i : Nat) (hi : i < l.length) (x : Lot) (hx : LotOk x) :
    LR (w.setCells g (i * 33) (lotC x.1 x.2).toList) B (.slice (some ⟨g, 0, none⟩) n c) (l.set i x) := by
  obtain ⟨cur, hb, rfl, hnc, hs, htk, hB, hcm⟩ := lr_blk h
  have hxl := lot_len x hx
  have hcl : cur.toList.length = c * 33 := by rw [Array.length_toList]; exact hs
  have hb2 := blk_setCells (lotC x.1 x.2).toList (i * 33) cur w hb (by rw [hxl, hs]; omega)
  have hok2 : ∀ y ∈ l.set i x, LotOk y := fun y hy => by
    rcases List.mem_or_eq_of_mem_set hy with hy | rfl
    · exact hok y hy
    · exact hx
  refine ⟨by rw [flat_len hok2], .inr ⟨g, c, _, by rw [List.length_set], hB, hb2, by rw [List.length_set]; exact hnc, hcm, ?_, ?_⟩⟩
  · rw [List.size_toArray, spl_len (by rw [hxl, hcl]; omega), hcl]
  · rw [List.length_set]
    show (spl cur.toList (i * 33) (lotC x.1 x.2).toList).take (l.length * 33) = _
    rw [spl_take_flat htk (by rw [hcl]; omega) (by rw [hxl]; omega), flat_set hok hi hx]
/-- The row without its last one. -/
theorem lr_cut {w : World} {B g n c : Nat} {l : List Lot} (h : LR w B (.slice (some ⟨g, 0, none⟩) n c) l) (hok : ∀ x ∈ l, LotOk x) (k : Nat) (hk : k ≤ n) : LR w B (.slice (some ⟨g, 0, none⟩) k c) (l.take k) := by
  obtain ⟨cur, hb, rfl, hnc, hs, htk, hB, hcm⟩ := lr_blk h
  have hl : (l.take k).length = k := by rw [List.length_take]; omega
  refine ⟨by rw [flat_len (fun x hx => hok x (List.mem_of_mem_take hx))], .inr ⟨g, c, cur, by rw [hl], hB, hb, by rw [hl]; omega, hcm, hs, ?_⟩⟩
  have e : flat l = flat (l.take k) ++ flat (l.drop k) := by rw [← flat_app, List.take_append_drop]
  have hf : (flat (l.take k)).length = k * 33 := by rw [flat_len (fun x hx => hok x (List.mem_of_mem_take hx)), hl]
  rw [hl]
  have := congrArg (List.take (k * 33)) htk
  rw [List.take_take, Nat.min_eq_left (by omega), e, List.take_left' hf] at this
  exact this
theorem lr_cells {w w' : World} {B g n c : Nat} {l : List Lot} {cur cur' : List Value} (h : LR w B (.slice (some ⟨g, 0, none⟩) n c) l) (hb : Blk w g 84 cur.toArray) (hb' : Blk w' g 84 cur'.toArray) (hl : cur'.length = cur.length) (he : cur'.take (n * 33) = cur.take (n * 33)) :
    LR w' B (.slice (some ⟨g, 0, none⟩) n c) l := by
  obtain ⟨c0, hb0, rfl, hnc, hs, htk, hB, hcm⟩ := lr_blk h
  have e : c0 = cur.toArray := by
    unfold Blk at hb hb0
    rw [hb] at hb0
    simpa using hb0.symm
  subst e
  exact ⟨h.1, .inr ⟨g, c, cur'.toArray, rfl, hB, hb', hnc, hcm, by simpa [hl] using hs, by rw [List.toList_toArray, he]; simpa using htk⟩⟩
/-- What stands in the row while one is taken out of it. -/
def sh (l : List Lot) (i q : Nat) : List Lot := l.take i ++ ((l.drop (i + 1)).take (q - i) ++ l.drop q)
section
variable {l : List Lot} {i q : Nat}
theorem set_mid {α : Type} (P : List α) (y x : α) (r : List α) (k : Nat) (hk : P.length = k) : (P ++ y :: r).set k x = P ++ x :: r := by subst hk; simp
theorem sh_zero (h : i < l.length) : sh l i i = l := by simp [sh]
theorem sh_len (h : i ≤ q) (hq : q < l.length) : (sh l i q).length = l.length := by
  simp only [sh, List.length_append, List.length_take, List.length_drop]; omega
theorem sh_mem {x : Lot} (h : x ∈ sh l i q) : x ∈ l := by
  simp only [sh, List.mem_append] at h
  rcases h with h | h | h
  · exact List.mem_of_mem_take h
  · exact List.mem_of_mem_drop (List.mem_of_mem_take h)
  · exact List.mem_of_mem_drop h
theorem sh_pre (h : i ≤ q) (hq : q < l.length) : (l.take i ++ (l.drop (i + 1)).take (q - i)).length = q := by
  simp only [List.length_append, List.length_take, List.length_drop]; omega
theorem sh_next (h : i ≤ q) (hq : q + 1 < l.length) : (sh l i q)[q + 1]? = l[q + 1]? := by
  have hp := sh_pre h (show q < l.length by omega)
  unfold sh
  rw [← List.append_assoc, List.getElem?_append_right (by omega), hp, show q + 1 - q = 1 by omega, List.getElem?_drop]
theorem sh_step (h : i ≤ q) (hq : q + 1 < l.length) : (sh l i q).set q l[q + 1] = sh l i (q + 1) := by
  have hp := sh_pre h (show q < l.length by omega)
  unfold sh
  rw [← List.append_assoc, ← List.append_assoc, List.drop_eq_getElem_cons (show q < l.length by omega), set_mid _ _ _ _ _ hp, show q + 1 - i = (q - i) + 1 by omega,
    List.take_succ_eq_append_getElem (by rw [List.length_drop]; omega), List.getElem_drop]
  simp only [List.append_assoc, List.singleton_append, show i + 1 + (q - i) = q + 1 by omega, List.cons_append, List.nil_append]
theorem sh_end (h : i ≤ q) (hq : q + 1 = l.length) : (sh l i q).take q = l.take i ++ l.drop (i + 1) := by
  have hp := sh_pre h (show q < l.length by omega)
  unfold sh
  rw [← List.append_assoc, List.take_left' hp, show (l.drop (i + 1)).take (q - i) = l.drop (i + 1) from List.take_of_length_le (by rw [List.length_drop]; omega)]
end

end Go.Proofs.Ytiaabbflchdcbaa
