/-
  Plain: what a shelf is, and what Put and Get make of it. No condition.
-/
import Derived.Test.YtiaabbflchdcbaaSevq
namespace Go.Proofs.Ytiaabbflchdcbaa
open Go.RowKit
set_option linter.unusedVariables false
set_option linter.unusedSimpArgs false

/-- A shelf. -/
structure PS where
  E : List En
  Z : List (Lot × Int)
  used : Int
  T : List (List Int × Int × Int)
abbrev En.cost (x : En) : Int := (x.d.length : Int) + 16
def En.is (x : En) (t : List Int) (g n : Int) : Prop := x.t = t ∧ x.g = g ∧ x.n = n
instance (x : En) (t : List Int) (g n : Int) : Decidable (x.is t g n) := by unfold En.is; exact inferInstance
def St.pl (s : St) (T : List (List Int × Int × Int)) : PS := ⟨s.E.map (·.1), s.Z, s.used, T⟩
def pdrop1 (x : Lot) (s : PS) : PS := match s.Z[vic x s.Z]? with
  | none => s
  | some z => ⟨s.E.filter (fun e => !decide (e.lot = z.1)), s.Z.eraseIdx (vic x s.Z), s.used - z.2, s.T⟩
def pevict (x : Lot) (c room : Int) : Nat → PS → PS
  | 0, s => s
  | k + 1, s => if s.used + c ≤ room then s else pevict x c room k (pdrop1 x s)
theorem filter_fst (E : List (En × Value)) (q : En → Bool) : (E.filter (fun e => q e.1)).map (·.1) = (E.map (·.1)).filter q := by
  induction E with
  | nil => rfl
  | cons a A ih =>
    rw [List.filter_cons, List.map_cons, List.filter_cons]
    split <;> simp [ih]
theorem pdrop1_pl (x : Lot) (s : St) (T : List (List Int × Int × Int)) : pdrop1 x (s.pl T) = (drop1 x s).pl T := by
  unfold pdrop1 drop1
  show (match s.Z[vic x s.Z]? with | none => _ | some z => _) = _
  split
  · next h => rw [h]
  · next z h =>
    rw [h]
    show PS.mk _ _ _ _ = PS.mk _ _ _ _
    congr 1
    exact (filter_fst s.E (fun e => !decide (e.lot = z.1))).symm
theorem pevict_pl (x : Lot) (c room : Int) (T : List (List Int × Int × Int)) : ∀ (k : Nat) (s : St), pevict x c room k (s.pl T) = (evict x c room k s).pl T
  | 0, s => rfl
  | k + 1, s => by
    rw [pevict, evict]
    show (if s.used + c ≤ room then _ else _) = _
    split
    · rfl
    · rw [pdrop1_pl, pevict_pl x c room T k]
/-- Put. -/
def pput (room : Int) (s : PS) (l : List Int) (g n p : Int) (d : List Int) : Int × PS :=
  if nameE l ≠ 0 then (nameE l, s)
  else if ∃ y ∈ s.E, y.is (padT l) g n then (7, s)
  else if room < zget s.Z (padT l, g) + ((d.length : Int) + 16) then (3, s)
  else (0, ⟨(pevict (padT l, g) ((d.length : Int) + 16) room s.Z.length s).E ++ [⟨padT l, g, n, p, d⟩], zadd (pevict (padT l, g) ((d.length : Int) + 16) room s.Z.length s).Z (padT l, g) ((d.length : Int) + 16), (pevict (padT l, g) ((d.length : Int) + 16) room s.Z.length s).used + ((d.length : Int) + 16), tadd s.T (padT l) g n⟩)
/-- Get. -/
def eget (E : List En) (t : List Int) (g n : Int) : Option En := E.find? (fun y => decide (y.is t g n))
def pget (s : PS) (l : List Int) (g n : Int) : Option En := if nameE l ≠ 0 then none else eget s.E (padT l) g n
theorem eget_some {E : List En} {t : List Int} {g n : Int} {y : En} (h : eget E t g n = some y) : y ∈ E ∧ y.is t g n := by
  have h1 := List.find?_some h
  exact ⟨List.mem_of_find?_eq_some h, by simpa using h1⟩
theorem eget_none {E : List En} {t : List Int} {g n : Int} (h : eget E t g n = none) : ∀ y ∈ E, ¬ y.is t g n := fun y hy => by
  have := List.find?_eq_none.1 h y hy
  simpa using this
/-- What a group's objects weigh. -/
def lsum (E : List En) (x : Lot) : Int := (E.filter (fun e => decide (e.lot = x))).foldr (fun e a => e.cost + a) 0
theorem lsum_cons (e : En) (E : List En) (x : Lot) : lsum (e :: E) x = (if e.lot = x then e.cost else 0) + lsum E x := by
  unfold lsum
  rw [List.filter_cons]
  by_cases h : e.lot = x
  · simp [h]
  · simp [h]
theorem lsum_app (A B : List En) (x : Lot) : lsum (A ++ B) x = lsum A x + lsum B x := by
  induction A with
  | nil => simp [lsum]
  | cons a A ih => rw [List.cons_append, lsum_cons, lsum_cons, ih]; omega
theorem lsum_filter (E : List En) (x y : Lot) : lsum (E.filter (fun e => !decide (e.lot = y))) x = if x = y then 0 else lsum E x := by
  induction E with
  | nil => simp [lsum]
  | cons a A ih =>
    rw [List.filter_cons]
    by_cases h : a.lot = y
    · simp only [h, decide_true, Bool.not_true, Bool.false_eq_true, if_false, ih, lsum_cons]
      by_cases h2 : x = y
      · simp [h2]
      · simp [h2, Ne.symm h2]
    · simp only [h, decide_false, Bool.not_false, if_true, lsum_cons, ih]
      by_cases h2 : x = y
      · subst h2; simp [h]
      · simp [h2]
theorem lsum_pos (E : List En) (x : Lot) : 0 ≤ lsum E x := by
  induction E with
  | nil => simp [lsum]
  | cons a A ih => rw [lsum_cons]; have : 0 ≤ a.cost := by unfold En.cost; omega
                   split <;> omega
theorem lsum_mem {E : List En} {e : En} (h : e ∈ E) : e.cost ≤ lsum E e.lot := by
  induction E with
  | nil => cases h
  | cons a A ih =>
    rw [lsum_cons]
    rcases List.mem_cons.1 h with rfl | h
    · have := lsum_pos A e.lot; simp; omega
    · have h1 := ih h; have : 0 ≤ a.cost := by unfold En.cost; omega
      split <;> omega
theorem lsum_none {E : List En} {x : Lot} (h : ∀ e ∈ E, e.lot ≠ x) : lsum E x = 0 := by
  induction E with
  | nil => rfl
  | cons a A ih => rw [lsum_cons, if_neg (h a (by simp)), ih (fun e he => h e (by simp [he]))]; rfl
/-- What holds of a shelf at all times. -/
structure PS.Ok (room : Int) (s : PS) : Prop where
  sum : s.used = zsum s.Z
  pos : ∀ z ∈ s.Z, 16 ≤ z.2
  ndz : (s.Z.map (·.1)).Nodup
  coh : ∀ x, zget s.Z x = lsum s.E x
  nde : (s.E.map (fun e => (e.t, e.g, e.n))).Nodup
  fit : s.used ≤ room
theorem zget_mem {Z : List (Lot × Int)} (hnd : (Z.map (·.1)).Nodup) {z : Lot × Int} (hz : z ∈ Z) : zget Z z.1 = z.2 := by
  rcases z_split (x := z.1) hnd with hn | ⟨A, v, B, e, hA⟩
  · exact absurd rfl (hn z hz)
  · rw [e, zget_at hA]
    rw [e] at hz hnd
    rcases List.mem_append.1 hz with h | h
    · exact absurd rfl (hA z h)
    · rcases List.mem_cons.1 h with h | h
      · rw [h]
      · rw [List.map_append, List.map_cons, List.nodup_append] at hnd
        exact absurd (List.mem_map.2 ⟨z, h, rfl⟩) (List.nodup_cons.1 hnd.2.1).1
theorem zget_zero {Z : List (Lot × Int)} (hp : ∀ z ∈ Z, 16 ≤ z.2) {x : Lot} (h : zget Z x = 0) : ∀ z ∈ Z, z.1 ≠ x := by
  induction Z with
  | nil => intro z hz; cases hz
  | cons a A ih =>
    rw [zget_cons] at h
    split at h
    · have := hp a (by simp); omega
    · next hne =>
      intro z hz
      rcases List.mem_cons.1 hz with rfl | hz
      · exact hne
      · exact ih (fun y hy => hp y (by simp [hy])) h z hz
section
variable {room c : Int} {s : PS} {x : Lot}
theorem PS.Ok.le (h : s.Ok room) (x : Lot) : 0 ≤ zget s.Z x ∧ zget s.Z x ≤ s.used := by
  rw [h.coh]
  refine ⟨lsum_pos _ _, ?_⟩
  rw [← h.coh, h.sum]
  have hp : ∀ z ∈ s.Z, 0 ≤ z.2 := fun z hz => by have := h.pos z hz; omega
  by_cases h0 : zget s.Z x = 0
  · rw [h0]; exact zsum_nonneg hp
  · rcases z_split (x := x) h.ndz with hn | ⟨A, v, B, e, hA⟩
    · exact absurd (zget_none hn) h0
    · rw [e, zget_at hA]
      rw [e] at hp
      exact zsum_mem hp (i := A.length) (z := (x, v)) (by simp)
theorem pdrop1_ok (h : s.Ok room) (x : Lot) : (pdrop1 x s).Ok room := by
  unfold pdrop1
  split
  · exact h
  · next z hz =>
    have hm := List.mem_of_getElem? hz
    have h16 := h.pos z hm
    refine ⟨by show s.used - z.2 = _; rw [zsum_erase hz, ← h.sum], fun y hy => h.pos y (List.mem_of_mem_eraseIdx hy), ?_, fun y => ?_, ?_, by show s.used - z.2 ≤ room; have := h.fit; omega⟩
    · exact h.ndz.sublist ((List.eraseIdx_sublist _ _).map _)
    · show zget (s.Z.eraseIdx _) y = lsum (s.E.filter _) y
      rw [lsum_filter]
      by_cases hy : y = z.1
      · rw [if_pos hy]
        subst hy
        refine zget_none fun u hu e => ?_
        have hnd := h.ndz
        rw [split_at hz, List.map_append, List.map_cons, List.nodup_append] at hnd
        rw [List.eraseIdx_eq_take_drop_succ] at hu
        rcases List.mem_append.1 hu with hu | hu
        · exact hnd.2.2 _ (List.mem_map.2 ⟨u, hu, rfl⟩) _ (by simp) e
        · exact (List.nodup_cons.1 hnd.2.1).1 (by rw [← e]; exact List.mem_map.2 ⟨u, hu, rfl⟩)
      · rw [if_neg hy, zget_erase hz (Ne.symm hy), h.coh]
    · exact h.nde.sublist (List.filter_sublist.map _)
theorem pevict_okS (x : Lot) (c : Int) : ∀ (k : Nat) (s : PS), s.Ok room → (pevict x c room k s).Ok room
  | 0, s, h => h
  | k + 1, s, h => by
    rw [pevict]
    split
    · exact h
    · exact pevict_okS x c k _ (pdrop1_ok h x)
theorem pdrop1_T : (pdrop1 x s).T = s.T := by unfold pdrop1; split <;> rfl
theorem pevict_T : ∀ (k : Nat) (s : PS), (pevict x c room k s).T = s.T
  | 0, s => rfl
  | k + 1, s => by
    rw [pevict]
    split
    · rfl
    · rw [pevict_T k, pdrop1_T]
theorem pdrop1_sub {y : En} (h : y ∈ (pdrop1 x s).E) : y ∈ s.E := by
  unfold pdrop1 at h
  split at h
  · exact h
  · exact (List.mem_filter.1 h).1
theorem pevict_sub {y : En} : ∀ (k : Nat) (s : PS), y ∈ (pevict x c room k s).E → y ∈ s.E
  | 0, s, h => h
  | k + 1, s, h => by
    rw [pevict] at h
    split at h
    · exact h
    · exact pdrop1_sub (pevict_sub k _ h)
theorem nameE_le (l : List Int) : 0 ≤ nameE l ∧ nameE l ≤ 4 := by
  unfold nameE
  split
  · omega
  · split
    · omega
    · split <;> omega
end

end Go.Proofs.Ytiaabbflchdcbaa
