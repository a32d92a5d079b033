/-
  Plain: which groups go for an object. No condition.
-/
import Derived.Test.YtiaabbflchdcbaaSput
namespace Go.Proofs.Ytiaabbflchdcbaa
open Go.RowKit
set_option linter.unusedVariables false
set_option linter.unusedSimpArgs false

/-- What a shelf holds: the objects, the groups and their sizes, how much. -/
structure St where
  E : List (En × Value)
  Z : List (Lot × Int)
  used : Int
/-- Which group goes: the first, or the one behind it where the first is the object's own. -/
def vic (x : Lot) (Z : List (Lot × Int)) : Nat := match Z with
  | [] => 0
  | z :: _ => if z.1 = x then 1 else 0
def drop1 (x : Lot) (s : St) : St := match s.Z[vic x s.Z]? with
  | none => s
  | some z => ⟨s.E.filter (fun e => !decide (e.1.lot = z.1)), s.Z.eraseIdx (vic x s.Z), s.used - z.2⟩
def evict (x : Lot) (c room : Int) : Nat → St → St
  | 0, s => s
  | k + 1, s => if s.used + c ≤ room then s else evict x c room k (drop1 x s)
def zsum (Z : List (Lot × Int)) : Int := Z.foldr (fun z a => z.2 + a) 0
theorem zsum_app (A B : List (Lot × Int)) : zsum (A ++ B) = zsum A + zsum B := by
  induction A with
  | nil => simp [zsum]
  | cons a A ih => simp only [zsum, List.cons_append, List.foldr_cons] at ih ⊢; omega
theorem zsum_cons (a : Lot × Int) (A : List (Lot × Int)) : zsum (a :: A) = a.2 + zsum A := rfl
theorem split_at {α : Type} {l : List α} {i : Nat} {x : α} (h : l[i]? = some x) : l = l.take i ++ x :: l.drop (i + 1) := by
  obtain ⟨hi, he⟩ := List.getElem?_eq_some_iff.1 h
  rw [← he, List.getElem_cons_drop, List.take_append_drop]
theorem zsum_erase {Z : List (Lot × Int)} {i : Nat} {z : Lot × Int} (h : Z[i]? = some z) : zsum (Z.eraseIdx i) = zsum Z - z.2 := by
  have e := split_at h
  rw [List.eraseIdx_eq_take_drop_succ, zsum_app]
  have e2 : zsum Z = zsum (Z.take i) + (z.2 + zsum (Z.drop (i + 1))) := by rw [← zsum_cons, ← zsum_app, ← e]
  omega
theorem zsum_nonneg {Z : List (Lot × Int)} (h : ∀ z ∈ Z, 0 ≤ z.2) : 0 ≤ zsum Z := by
  induction Z with
  | nil => simp [zsum]
  | cons a A ih => rw [zsum_cons]; have := h a (by simp); have := ih (fun z hz => h z (by simp [hz])); omega
theorem zsum_mem {Z : List (Lot × Int)} (h : ∀ z ∈ Z, 0 ≤ z.2) {i : Nat} {z : Lot × Int} (hz : Z[i]? = some z) : z.2 ≤ zsum Z := by
  have e := zsum_erase hz
  have := zsum_nonneg (Z := Z.eraseIdx i) (fun y hy => h y (List.mem_of_mem_eraseIdx hy))
  omega
theorem zget_cons (a : Lot × Int) (A : List (Lot × Int)) (x : Lot) : zget (a :: A) x = if a.1 = x then a.2 else zget A x := by
  unfold zget
  rw [List.find?_cons]
  by_cases h : a.1 = x
  · simp [h]
  · simp [h]
theorem zget_app_ne {A B : List (Lot × Int)} {a : Lot × Int} {x : Lot} (h : a.1 ≠ x) : zget (A ++ a :: B) x = zget (A ++ B) x := by
  induction A with
  | nil => rw [List.nil_append, List.nil_append, zget_cons, if_neg h]
  | cons b A ih => rw [List.cons_append, List.cons_append, zget_cons, zget_cons, ih]
theorem zget_erase {Z : List (Lot × Int)} {i : Nat} {z : Lot × Int} {x : Lot} (h : Z[i]? = some z) (hne : z.1 ≠ x) : zget (Z.eraseIdx i) x = zget Z x := by
  rw [List.eraseIdx_eq_take_drop_succ, ← zget_app_ne hne, ← split_at h]
/-- The sizes fit. -/
structure St.Ok (s : St) : Prop where
  sum : s.used = zsum s.Z
  pos : ∀ z ∈ s.Z, 16 ≤ z.2
theorem St.Ok.nn {s : St} (h : s.Ok) : ∀ z ∈ s.Z, 0 ≤ z.2 := fun z hz => by have := h.pos z hz; omega
theorem zsum_len {Z : List (Lot × Int)} (h : ∀ z ∈ Z, 16 ≤ z.2) : (Z.length : Int) * 16 ≤ zsum Z := by
  induction Z with
  | nil => simp [zsum]
  | cons a A ih => rw [zsum_cons]; have := h a (by simp); have := ih (fun z hz => h z (by simp [hz])); simp only [List.length_cons]; omega
theorem vic_some {x : Lot} {c room : Int} {s : St} (h : s.Ok) (hnd : (s.Z.map (·.1)).Nodup) (hz : zget s.Z x + c ≤ room) (hgt : room < s.used + c) : ∃ z, s.Z[vic x s.Z]? = some z ∧ z.1 ≠ x := by
  have h1 := h.sum
  cases hZ : s.Z with
  | nil => rw [hZ] at h1 hz; simp [zsum, zget] at h1 hz; omega
  | cons a A =>
    rw [hZ] at h1 hz hnd
    rw [zsum_cons] at h1
    rw [zget_cons] at hz
    by_cases ha : a.1 = x
    · rw [if_pos ha] at hz
      cases A with
      | nil => simp [zsum] at h1; omega
      | cons b A =>
        refine ⟨b, by simp [vic, ha], fun e => ?_⟩
        simp only [List.map_cons, List.nodup_cons, List.mem_cons] at hnd
        exact hnd.1 (.inl (ha.trans e.symm))
    · exact ⟨a, by simp [vic, ha], ha⟩
theorem drop1_ok {x : Lot} {s : St} (h : s.Ok) : (drop1 x s).Ok := by
  unfold drop1
  split
  · exact h
  · next z hz => exact ⟨by rw [zsum_erase hz, ← h.sum], fun y hy => h.pos y (List.mem_of_mem_eraseIdx hy)⟩
theorem drop1_eq {x : Lot} {s : St} {z : Lot × Int} (h : s.Z[vic x s.Z]? = some z) : drop1 x s = ⟨s.E.filter (fun e => !decide (e.1.lot = z.1)), s.Z.eraseIdx (vic x s.Z), s.used - z.2⟩ := by unfold drop1; rw [h]

end Go.Proofs.Ytiaabbflchdcbaa
