/-
  Drop: plain, and slices.Clone of groups. No condition.
-/
import Derived.Test.YtiaabbflchdcbaaShrun
import Derived.Test.YtiaabbflchdcbaaSlit
namespace Go.Proofs.Ytiaabbflchdcbaa
open Go.RowKit
set_option linter.unusedVariables false
set_option linter.unusedSimpArgs false

/-- Which groups stay while a track goes. -/
def dk (P : List Int) (C : List Lot) (x : Lot) : Bool := decide (¬ (x.1 = P ∧ x ∈ C))
theorem dk_nil (P : List Int) : dk P [] = fun _ => true := by funext x; simp [dk]
theorem dk_no {P : List Int} {C : List Lot} {i : Nat} {hi : i < C.length} (h : C[i].1 ≠ P) : dk P (C.take (i + 1)) = dk P (C.take i) := by
  funext y
  unfold dk
  rw [List.take_succ_eq_append_getElem hi, Bool.eq_iff_iff]
  simp only [decide_eq_true_eq, List.mem_append, List.mem_singleton]
  constructor
  · rintro h1 ⟨h2, h3⟩; exact h1 ⟨h2, .inl h3⟩
  · rintro h1 ⟨h2, h3 | h3⟩
    · exact h1 ⟨h2, h3⟩
    · rw [h3] at h2; exact h h2
theorem dk_yes {P : List Int} {C : List Lot} {i : Nat} {hi : i < C.length} (h : C[i].1 = P) (y : Lot) : dk P (C.take (i + 1)) y = (!decide (y = C[i]) && dk P (C.take i) y) := by
  unfold dk
  rw [List.take_succ_eq_append_getElem hi, Bool.eq_iff_iff]
  simp only [decide_eq_true_eq, List.mem_append, List.mem_singleton, Bool.and_eq_true, Bool.not_eq_true', decide_eq_false_iff_not]
  constructor
  · intro h1
    exact ⟨fun e => h1 ⟨by rw [e]; exact h, .inr e⟩, fun h2 => h1 ⟨h2.1, .inl h2.2⟩⟩
  · rintro ⟨h1, h2⟩ ⟨h3, h4 | h4⟩
    · exact h2 ⟨h3, h4⟩
    · exact h1 h4
theorem erase_filter {Z : List (Lot × Int)} {j : Nat} {x : Lot} {z : Int} (hnd : (Z.map (·.1)).Nodup) (h : Z[j]? = some (x, z)) : Z.eraseIdx j = Z.filter (fun u => !decide (u.1 = x)) := by
  have e := split_at h
  rw [List.eraseIdx_eq_take_drop_succ]
  rw [e, List.map_append, List.map_cons, List.nodup_append] at hnd
  conv => rhs; rw [e]
  rw [List.filter_append, List.filter_cons]
  simp only [decide_true, Bool.not_true, Bool.false_eq_true, if_false]
  congr 1
  · refine (List.filter_eq_self.2 (fun u hu => ?_)).symm
    have : u.1 ≠ x := fun e2 => hnd.2.2 _ (List.mem_map.2 ⟨u, hu, rfl⟩) _ (by simp) e2
    simpa using this
  · refine (List.filter_eq_self.2 (fun u hu => ?_)).symm
    have : u.1 ≠ x := fun e2 => (List.nodup_cons.1 hnd.2.1).1 (by rw [← e2]; exact List.mem_map.2 ⟨u, hu, rfl⟩)
    simpa using this
/-- A track goes. -/
def pdrop (s : PS) (P : List Int) : PS := ⟨s.E.filter (fun e => !decide (e.t = P)), s.Z.filter (fun z => !decide (z.1.1 = P)), zsum (s.Z.filter (fun z => !decide (z.1.1 = P))), s.T.filter (fun z => !decide (z.1 = P))⟩
theorem lot_in {room : Int} {s : PS} (h : s.Ok room) {e : En} (he : e ∈ s.E) : e.lot ∈ s.Z.map (·.1) := by
  refine Classical.byContradiction fun hn => ?_
  have h2 := lsum_mem he
  rw [← h.coh, zget_none (fun z hz hx => hn (List.mem_map.2 ⟨z, hz, hx⟩))] at h2
  unfold En.cost at h2
  omega
theorem zsum_filter {Z : List (Lot × Int)} (h : ∀ z ∈ Z, 16 ≤ z.2) (q : Lot × Int → Bool) : zsum (Z.filter q) ≤ zsum Z := by
  induction Z with
  | nil => exact Int.le_refl _
  | cons a A ih =>
    have h1 := h a (by simp)
    have h2 := ih (fun z hz => h z (by simp [hz]))
    rw [List.filter_cons]
    split
    · rw [zsum_cons, zsum_cons]; omega
    · rw [zsum_cons]; omega
theorem zget_filter {Z : List (Lot × Int)} {P : List Int} {x : Lot} : zget (Z.filter (fun z => !decide (z.1.1 = P))) x = if x.1 = P then 0 else zget Z x := by
  induction Z with
  | nil => simp [zget]
  | cons a A ih =>
    rw [List.filter_cons]
    by_cases h : a.1.1 = P
    · simp only [h, decide_true, Bool.not_true, Bool.false_eq_true, if_false, ih, zget_cons]
      by_cases hx : x.1 = P
      · rw [if_pos hx, if_pos hx]
      · rw [if_neg hx, if_neg hx, if_neg (by rintro rfl; exact hx h)]
    · simp only [h, decide_false, Bool.not_false, if_true, zget_cons, ih]
      by_cases hx : x.1 = P
      · rw [if_pos hx, if_pos hx, if_neg (by rintro rfl; exact h hx)]
      · rw [if_neg hx, if_neg hx]
theorem lsum_filterT {E : List En} {P : List Int} {x : Lot} : lsum (E.filter (fun e => !decide (e.t = P))) x = if x.1 = P then 0 else lsum E x := by
  induction E with
  | nil => simp [lsum]
  | cons a A ih =>
    rw [List.filter_cons]
    by_cases h : a.t = P
    · simp only [h, decide_true, Bool.not_true, Bool.false_eq_true, if_false, ih, lsum_cons]
      by_cases hx : x.1 = P
      · rw [if_pos hx, if_pos hx]
      · rw [if_neg hx, if_neg hx, if_neg (by rintro rfl; exact hx h)]; omega
    · simp only [h, decide_false, Bool.not_false, if_true, lsum_cons, ih]
      by_cases hx : x.1 = P
      · rw [if_pos hx, if_pos hx, if_neg (by rintro rfl; exact h hx)]; omega
      · rw [if_neg hx, if_neg hx]
theorem pdrop_ok {room : Int} {s : PS} (h : s.Ok room) (P : List Int) : (pdrop s P).Ok room :=
  ⟨rfl, fun z hz => h.pos z (List.mem_filter.1 hz).1, h.ndz.sublist (List.filter_sublist.map _), fun x => by
    show zget (s.Z.filter _) x = lsum (s.E.filter _) x
    rw [zget_filter, lsum_filterT, h.coh], h.nde.sublist (List.filter_sublist.map _), by
    show zsum (s.Z.filter _) ≤ room
    have := zsum_filter h.pos (fun z => !decide (z.1.1 = P))
    have h2 := h.fit
    rw [h.sum] at h2
    omega⟩
theorem rdv_lots {w : World} {B : Nat} {A : Option Addr} {n c : Nat} {ZL : List Lot} (h : LR w B (.slice A n c) ZL) : RdV w 33 A n (flat ZL) := by
  have hl := h.1
  rcases h.2 with ⟨e, h0⟩ | ⟨g', cap, cur, e, _, hb, hn, hc, hs, htk⟩
  · simp only [Value.slice.injEq] at e
    obtain ⟨rfl, rfl, rfl⟩ := e
    rw [h0] at hl
    exact ⟨by simpa using hl, fun k hk => absurd hk (by omega)⟩
  · simp only [Value.slice.injEq] at e
    obtain ⟨rfl, rfl, rfl⟩ := e
    refine ⟨hl, fun k hk => ⟨g', 0, rfl, (Array.getElem?_eq_some_iff.1 hb).1, fun j hj => ?_⟩⟩
    have hkk : k * 33 + 33 ≤ ZL.length * 33 := by rw [← Nat.succ_mul]; exact Nat.mul_le_mul_right _ hk
    have hkj : k * 33 + j < (flat ZL).length := by rw [hl]; omega
    have h1 : (flat ZL)[k * 33 + j]? = some ((flat ZL).getD (k * 33 + j) undef) := by simp [List.getD, hkj]
    rw [Nat.zero_add, cell_of_row w g' _ cur 84 (0, 0) hb, ← Array.getElem?_toList, ← h1, ← htk, List.getElem?_take, if_pos (by
      rw [← htk, List.length_take] at hkj
      omega)]
theorem flat_ones (ZL : List Lot) : ∀ u ∈ flat ZL, u.oneCell' = true := fun u hu => by
  obtain ⟨x, hx, h⟩ := List.mem_flatMap.1 hu
  exact lot_ones x.1 x.2 u h
set_option maxRecDepth 100000 in
theorem clone_lots (B : Nat) (lv : Value) (ZL : List Lot) (w : World) (hR : LR w B lv ZL) (hl : ZL.length ≤ 1000000) :
    Calls Try.prog 36 #[lv] w fun e w' => ∃ cv, e = .returned cv ∧ LR w' w.heap.size cv ZL ∧ Below w.heap.size w w' := by
  obtain ⟨i0, h0, h1, h2, h3⟩ := lot_info
  have hR0 := hR
  rcases lr_form hR with ⟨rfl, rfl⟩ | ⟨g, c, rfl, hB, hgl, hlc, hcm⟩
  · have hnil := fun W : World => Lib.run_eql_slice_nil (P := Try.prog) W 79 84 none 0 0 0 0 Try.underlying79
    clear hR hR0
    go_enter Try.func36, Try.ntmps36
    go_wp2_with fail
    go_ret
    exact ⟨_, rfl, ⟨by simp [flat], .inl ⟨rfl, rfl⟩⟩, Below.refl _ _⟩
  · have hnil := fun W : World => Lib.run_eql_slice_nil (P := Try.prog) W 79 84 (some ⟨g, 0, none⟩) ZL.length c 0 0 Try.underlying79
    have hown0 := World.ownsRow_lit (base := w.heap.size) (size := 33) (e := 84) w #[] 0 (Nat.le_refl _) (by decide) rfl
    have hba : Below w.heap.size w (w.alloc (.cells #[] 84)) := (Below.refl _ _).alloc (Nat.le_refl _) _
    have hR1 : LR (w.alloc (.cells #[] 84)) B (.slice (some ⟨g, 0, none⟩) ZL.length c) ZL := own_same hR hba
    have hrv := rdv_lots hR1
    clear hR hR0 hR1
    go_enter Try.func36, Try.ntmps36
    go_wp2_with (first | (at_builtin; refine wpList_append_any _ rfl _ _ 79 rfl w.heap.size 84 i0 _ 33 40 Try.underlying79 h0 h1 h2 h3 (by rfl) (by decide) _ 0 _ rfl hown0 (some ⟨g, 0, none⟩) ZL.length c _ rfl hrv (flat_ones _) (by unfold maxLen; omega) (by omega) (by simp) (by simp) ?_; intro v6 w6 hown6 hgrow6 hat6) | fail)
    go_ret
    refine ⟨_, rfl, ?_, hba.grown hgrow6 hba.size (fun b hb => own_ge hown0 hb)⟩
    have h := hown6
    simp only [Nat.zero_add] at h
    simpa [LR] using h

end Go.Proofs.Ytiaabbflchdcbaa
