/-
  Plain: groups that came one after the other. No condition.
-/
import Derived.Test.YtiaabbflchdcbaaSpq
import Derived.Test.YtiaabbflchdcbaaShget
namespace Go.Proofs.Ytiaabbflchdcbaa
open Go.RowKit
set_option linter.unusedVariables false
set_option linter.unusedSimpArgs false

/-- The track of the statement. -/
def PA : List Int := padT [97]
def mkE (a : Int × Nat) : En := ⟨PA, a.1, 0, 0, List.replicate a.2 0⟩
def mkZ (a : Int × Nat) : Lot × Int := ((PA, a.1), (a.2 : Int) + 16)
def lcost (L : List (Int × Nat)) : Int := (L.map (fun a => (a.2 : Int) + 16)).foldr (· + ·) 0
theorem lcost_cons (a : Int × Nat) (L : List (Int × Nat)) : lcost (a :: L) = ((a.2 : Int) + 16) + lcost L := rfl
theorem lcost_app (A B : List (Int × Nat)) : lcost (A ++ B) = lcost A + lcost B := by
  induction A with
  | nil => simp [lcost]
  | cons a A ih => rw [List.cons_append, lcost_cons, lcost_cons, ih]; omega
theorem lcost_pos (L : List (Int × Nat)) : 0 ≤ lcost L := by
  induction L with
  | nil => simp [lcost]
  | cons a A ih => rw [lcost_cons]; omega
theorem lcost_drop (L : List (Int × Nat)) (j : Nat) : lcost (L.drop j) ≤ lcost L := by
  have h := lcost_app (L.take j) (L.drop j)
  rw [List.take_append_drop] at h
  have := lcost_pos (L.take j)
  omega
theorem lcost_drop_le (L : List (Int × Nat)) {i j : Nat} (h : i ≤ j) : lcost (L.drop j) ≤ lcost (L.drop i) := by
  have e : L.drop j = (L.drop i).drop (j - i) := by rw [List.drop_drop]; congr 1; omega
  rw [e]; exact lcost_drop _ _
theorem lcost_at (L : List (Int × Nat)) {i : Nat} (h : i < L.length) : lcost (L.drop i) = ((L[i].2 : Int) + 16) + lcost (L.drop (i + 1)) := by
  rw [List.drop_eq_getElem_cons h]; rfl
/-- The shelf that has these groups. -/
def stO (L : List (Int × Nat)) (T : List (List Int × Int × Int)) : PS := ⟨L.map mkE, L.map mkZ, lcost L, T⟩
theorem stO_drop (i : Int) (a : Int × Nat) (L : List (Int × Nat)) (T : List (List Int × Int × Int)) (hnd : ((a :: L).map (·.1)).Nodup) (hi : a.1 ≠ i) : pdrop1 (PA, i) (stO (a :: L) T) = stO L T := by
  have hv : vic (PA, i) (stO (a :: L) T).Z = 0 := by
    show vic (PA, i) (mkZ a :: L.map mkZ) = 0
    show (if (mkZ a).1 = (PA, i) then 1 else 0) = 0
    rw [if_neg]
    intro e
    exact hi (by have := congrArg Prod.snd e; exact this)
  have hz : (stO (a :: L) T).Z[vic (PA, i) (stO (a :: L) T).Z]? = some (mkZ a) := by rw [hv]; rfl
  rw [pdrop1_eq hz, hv]
  unfold stO
  congr 1
  · rw [List.map_cons, List.filter_cons]
    have h0 : decide ((mkE a).lot = (mkZ a).1) = true := by simp [mkE, mkZ, En.lot]
    rw [h0]
    simp only [Bool.not_true, Bool.false_eq_true, if_false]
    refine List.filter_eq_self.2 (fun e he => ?_)
    obtain ⟨b, hb, rfl⟩ := List.mem_map.1 he
    have hne : a.1 ≠ b.1 := fun e => (List.nodup_cons.1 hnd).1 (by show a.1 ∈ _; rw [e]; exact List.mem_map.2 ⟨b, hb, rfl⟩)
    have : (mkE b).lot ≠ (mkZ a).1 := fun e => hne (congrArg Prod.snd e).symm
    simp [this]
  · rw [lcost_cons]; simp only [mkZ]; omega
theorem stO_evict (i c room : Int) (T : List (List Int × Int × Int)) : ∀ (k : Nat) (L : List (Int × Nat)), (L.map (·.1)).Nodup → (∀ a ∈ L, a.1 ≠ i) → ∃ j, pevict (PA, i) c room k (stO L T) = stO (L.drop j) T
  | 0, L, _, _ => ⟨0, rfl⟩
  | k + 1, L, hnd, hi => by
    rw [pevict]
    split
    · exact ⟨0, rfl⟩
    · cases L with
      | nil =>
        have e : pdrop1 (PA, i) (stO [] T) = stO [] T := rfl
        rw [e]
        exact stO_evict i c room T k [] hnd hi
      | cons a L =>
        rw [stO_drop i a L T hnd (hi a (by simp))]
        obtain ⟨j, hj⟩ := stO_evict i c room T k L (List.nodup_cons.1 hnd).2 (fun b hb => hi b (by simp [hb]))
        exact ⟨j + 1, hj⟩
theorem nameE_a : nameE [97] = 0 := by decide
theorem stO_put {room i : Int} {n : Nat} {L : List (Int × Nat)} {T : List (List Int × Int × Int)} (hnd : (L.map (·.1)).Nodup) (hi : ∀ a ∈ L, a.1 ≠ i) (hc : (n : Int) + 16 ≤ room) : ∃ j T', pput room (stO L T) [97] i 0 0 (List.replicate n 0) = (0, stO (L.drop j ++ [(i, n)]) T') := by
  have hno : ¬ ∃ y ∈ (stO L T).E, y.is (padT [97]) i 0 := by
    rintro ⟨y, hy, hk⟩
    obtain ⟨b, hb, rfl⟩ := List.mem_map.1 hy
    exact hi b hb hk.2.1
  have hz : ∀ z ∈ (stO L T).Z, z.1 ≠ (padT [97], i) := fun z hz e => by
    obtain ⟨b, hb, rfl⟩ := List.mem_map.1 hz
    exact hi b hb (congrArg Prod.snd e)
  have hl : ((List.replicate n (0 : Int)).length : Int) = n := by simp
  rw [pput_in nameE_a hno (by rw [zget_none hz, hl]; omega), hl]
  obtain ⟨j, hj⟩ := stO_evict i ((n : Int) + 16) room T (stO L T).Z.length L hnd hi
  refine ⟨j, tadd T (padT [97]) i 0, ?_⟩
  have hj' : pevict (padT [97], i) ((n : Int) + 16) room (stO L T).Z.length (stO L T) = stO (L.drop j) T := hj
  rw [hj']
  have hz' : ∀ z ∈ (stO (L.drop j) T).Z, z.1 ≠ (padT [97], i) := fun z hz e => by
    obtain ⟨b, hb, rfl⟩ := List.mem_map.1 hz
    exact hi b (List.mem_of_mem_drop hb) (congrArg Prod.snd e)
  rw [zadd_new hz']
  unfold stO
  simp only [List.map_append, List.map_cons, List.map_nil, lcost_app]
  rfl
/-- The groups so far. -/
def FL (sz : List Int) (i : Nat) : List (Int × Nat) := (List.range i).map (fun (k : Nat) => ((k : Int), (sz.getD k 0).toNat))
theorem FL_succ (sz : List Int) (i : Nat) : FL sz (i + 1) = FL sz i ++ [((i : Int), (sz.getD i 0).toNat)] := by simp [FL, List.range_succ]
theorem FL_len (sz : List Int) (i : Nat) : (FL sz i).length = i := by simp [FL]
theorem FL_mem {sz : List Int} {i f : Nat} {a : Int × Nat} (h : a ∈ (FL sz i).drop f) : ∃ k, f ≤ k ∧ k < i ∧ a = ((k : Int), (sz.getD k 0).toNat) := by
  obtain ⟨j, hj, e⟩ := List.mem_iff_getElem.1 h
  rw [List.length_drop, FL_len] at hj
  refine ⟨f + j, by omega, by omega, ?_⟩
  rw [← e, List.getElem_drop]
  simp [FL]
theorem FL_nd (sz : List Int) (i f : Nat) : (((FL sz i).drop f).map (·.1)).Nodup := by
  have h : ((FL sz i).map (·.1)).Nodup := by
    unfold FL
    rw [List.map_map, List.Nodup, List.pairwise_map]
    refine List.nodup_range.imp (fun {a b} h e => h ?_)
    simp at e
    exact_mod_cast e
  exact h.sublist ((List.drop_sublist _ _).map _)
theorem stO_get {sz : List Int} {i f k : Nat} {T : List (List Int × Int × Int)} : (getV (pget (stO ((FL sz i).drop f) T) [97] k 0)).2.2.2.2 = decide (f ≤ k ∧ k < i) := by
  unfold pget
  rw [if_neg (by rw [nameE_a]; decide)]
  cases h : eget (stO ((FL sz i).drop f) T).E (padT [97]) k 0 with
  | none =>
    show false = _
    symm
    rw [decide_eq_false_iff_not]
    rintro ⟨h1, h2⟩
    have hm : ((k : Int), (sz.getD k 0).toNat) ∈ (FL sz i).drop f := by
      rw [List.mem_iff_getElem]
      refine ⟨k - f, by rw [List.length_drop, FL_len]; omega, ?_⟩
      rw [List.getElem_drop]
      simp [FL, show f + (k - f) = k by omega]
    exact eget_none h _ (List.mem_map.2 ⟨_, hm, rfl⟩) ⟨rfl, rfl, rfl⟩
  | some y =>
    show true = _
    symm
    rw [decide_eq_true_iff]
    obtain ⟨hy, hk⟩ := eget_some h
    obtain ⟨b, hb, rfl⟩ := List.mem_map.1 hy
    obtain ⟨k', h1, h2, rfl⟩ := FL_mem hb
    have : (k' : Int) = (k : Int) := hk.2.1
    omega
/-- One step. -/
theorem FL_step {room : Int} {sz : List Int} {i f : Nat} {T : List (List Int × Int × Int)} (hf : f ≤ i) (hc : (((sz.getD i 0).toNat : Nat) : Int) + 16 ≤ room) : ∃ f' T', f' ≤ i ∧ pput room (stO ((FL sz i).drop f) T) [97] i 0 0 (List.replicate (sz.getD i 0).toNat 0) = (0, stO ((FL sz (i + 1)).drop f') T') := by
  obtain ⟨j, T', hj⟩ := stO_put (room := room) (i := i) (n := (sz.getD i 0).toNat) (T := T) (FL_nd sz i f) (fun a ha e => by obtain ⟨k, _, h2, rfl⟩ := FL_mem ha; simp only at e; omega) hc
  rw [List.drop_drop] at hj
  by_cases h : f + j ≤ i
  · refine ⟨f + j, T', h, ?_⟩
    rw [hj, FL_succ, List.drop_append_of_le_length (by rw [FL_len]; exact h)]
  · refine ⟨i, T', Nat.le_refl _, ?_⟩
    rw [hj, FL_succ, List.drop_append_of_le_length (by rw [FL_len]; exact Nat.le_refl _), List.drop_eq_nil_of_le (by rw [FL_len]; omega), List.drop_eq_nil_of_le (by rw [FL_len]; exact Nat.le_refl _)]

end Go.Proofs.Ytiaabbflchdcbaa
