/-
  What came, plain: its number is what was read and what is held. No condition.
-/
import Derived.Test.YtpkondemkpogoaaQops
namespace Go.Proofs.Ytpkondemkpogoaa
open Go.RowKit
set_option linter.unusedVariables false
set_option linter.unusedSimpArgs false


/-- The places of the pieces. -/
def ps (L : List Pat) : List Int := L.flatMap (fun x => (List.range x.2.length).map (fun i : Nat => x.1 + (i : Int)))
theorem ps_cons (x : Pat) (T : List Pat) : ps (x :: T) = (List.range x.2.length).map (fun i : Nat => x.1 + (i : Int)) ++ ps T := rfl
theorem ps_len (L : List Pat) : (ps L).length = hld L := by
  induction L with
  | nil => rfl
  | cons x T ih => rw [ps_cons, List.length_append, ih]; simp [hld]
theorem ps_one {x : Pat} {n : Int} : n ∈ (List.range x.2.length).map (fun i : Nat => x.1 + (i : Int)) ↔ x.1 ≤ n ∧ n < pe x := by
  simp only [List.mem_map, List.mem_range]
  unfold pe
  constructor
  · rintro ⟨i, hi, rfl⟩
    omega
  · rintro ⟨h1, h2⟩
    exact ⟨(n - x.1).toNat, by omega, by omega⟩
theorem ps_mem {L : List Pat} {n : Int} : n ∈ ps L ↔ (ctn L n).isSome = true := by
  induction L with
  | nil => simp [ps, ctn]
  | cons x T ih =>
    rw [ps_cons, List.mem_append, ps_one, ih]
    rw [show ctn (x :: T) n = if x.1 ≤ n ∧ n < pe x then some (x.2.getD (n - x.1).toNat 0) else ctn T n from rfl]
    split
    · next h => simp [h]
    · next h => simp [h]
theorem ps_low {b : Int} {L : List Pat} (h : Ch b L) : ∀ n ∈ ps L, b ≤ n := fun n hn => by
  rw [ps_mem] at hn
  by_cases hb : b ≤ n
  · exact hb
  · rw [ctn_low h (by omega)] at hn
    simp at hn
theorem ps_nodup {b : Int} {L : List Pat} (h : Ch b L) : (ps L).Nodup := by
  induction L generalizing b with
  | nil => simp [ps]
  | cons x T ih =>
    obtain ⟨h1, h2, h3⟩ := h
    rw [ps_cons, List.nodup_append]
    refine ⟨?_, ih h3, fun a ha c hc => ?_⟩
    · refine List.Pairwise.map _ ?_ List.nodup_range
      intro i j hij e
      exact hij (by omega)
    · have k1 := (ps_one.1 ha).2
      have k2 := ps_low h3 c hc
      omega
def allP (q : Q) : List Int := (List.range q.rd.toNat).map (fun i : Nat => (i : Int)) ++ ps q.L
theorem all_mem {q : Q} (h : QI q) {n : Int} : n ∈ allP q ↔ (0 ≤ n ∧ n < q.rd) ∨ (ctn q.L n).isSome = true := by
  unfold allP
  rw [List.mem_append, ps_mem]
  have hlo := h.k.lo
  simp only [List.mem_map, List.mem_range]
  constructor
  · rintro (⟨i, hi, rfl⟩ | h)
    · left; omega
    · exact .inr h
  · rintro (h | h)
    · exact .inl ⟨n.toNat, by omega, by omega⟩
    · exact .inr h
theorem all_nodup {q : Q} (h : QI q) : (allP q).Nodup := by
  unfold allP
  rw [List.nodup_append]
  refine ⟨?_, ps_nodup h.k.ch, fun a ha c hc => ?_⟩
  · refine List.Pairwise.map _ ?_ List.nodup_range
    intro i j hij e
    exact hij (by omega)
  · simp only [List.mem_map, List.mem_range] at ha
    obtain ⟨i, hi, rfl⟩ := ha
    have k2 := ps_low h.k.ch c hc
    omega
theorem all_len {q : Q} (h : QI q) : ((allP q).length : Int) = q.rd + hld q.L := by
  unfold allP
  rw [List.length_append, ps_len]
  have := h.k.lo
  simp
  omega
/-- What came is what was read and what is held. -/
def Came (q : Q) (ks : List Int) : Prop := ∀ n, n ∈ ks ↔ (0 ≤ n ∧ n < q.rd) ∨ (ctn q.L n).isSome = true
theorem came_new : Came Q.new [] := fun n => by simp [Q.new, ctn]
theorem came_len {q : Q} (h : QI q) {D : List Int} (hD : D.Nodup) (hc : Came q D) : (D.length : Int) = q.rd + hld q.L := by
  have hp : D.Perm (allP q) := (List.perm_ext_iff_of_nodup hD (all_nodup h)).2 (fun n => by rw [hc n, all_mem h])
  rw [hp.length_eq, all_len h]
theorem ctn_iff (x : Pat) (n : Int) : (if x.1 ≤ n ∧ n < pe x then some (x.2.getD (n - x.1).toNat 0) else none).isSome = true ↔ x.1 ≤ n ∧ n < pe x := by
  split <;> simp [*]
theorem came_put {q : Q} (h : QI q) {ks : List Int} (hc : Came q ks) {off : Int} {l : List Int} {en : Bool} (ho : 0 ≤ off) (he : q.err off l en = 0) :
    Came (q.put off l en) (ks ++ (List.range l.length).map (fun i : Nat => off + (i : Int))) := fun n => by
  unfold Q.put
  rw [if_pos he, List.mem_append, hc n, show ((List.range l.length).map (fun i : Nat => off + (i : Int))) = (List.range (off, l).2.length).map (fun i : Nat => (off, l).1 + (i : Int)) from rfl, ps_one]
  show _ ↔ (0 ≤ n ∧ n < q.rd) ∨ (ctn (putL (trm q.rd (off, l)) q.L) n).isSome = true
  rw [put_ctn h.k.ch, Option.isSome_or, Bool.or_eq_true, ctn_iff, trm_pe]
  have hlo := h.k.lo
  have e1 : ∀ m, (trm q.rd (off, l)).1 ≤ m ∧ m < pe (off, l) ↔ (off ≤ m ∧ q.rd ≤ m ∧ m < pe (off, l)) := fun m => by
    have hpe : pe (off, l) = off + l.length := rfl
    rw [hpe]
    unfold trm
    split
    · next hh => simp only at hh ⊢; omega
    · next hh => simp only at hh ⊢; omega
  rw [e1]
  constructor
  · rintro ((h | h) | ⟨h1, h2⟩)
    · exact .inl h
    · exact .inr (.inl h)
    · simp only at h1
      by_cases hr : n < q.rd
      · exact .inl ⟨by omega, hr⟩
      · exact .inr (.inr ⟨h1, by omega, h2⟩)
  · rintro (h | h | ⟨h1, _, h2⟩)
    · exact .inl (.inl h)
    · exact .inl (.inr h)
    · exact .inr ⟨h1, h2⟩
theorem came_take {q : Q} (hI : QI q) {ks : List Int} (hc : Came q ks) (m : Int) : Came (q.take m) ks := fun n => by
  obtain ⟨h1, h2, h3, h4, h5⟩ := tak_law hI.k.ch (q.n_le m)
  rw [hc n]
  have hlo := hI.k.lo
  have hn := q.n_le m
  show _ ↔ (0 ≤ n ∧ n < q.rd + (q.n m : Int)) ∨ (ctn (tak (q.n m) q.L) n).isSome = true
  rw [h4 n]
  by_cases hr : n < q.rd + (q.n m : Int)
  · rw [if_pos hr]
    constructor
    · rintro (h | h)
      · exact .inl ⟨h.1, hr⟩
      · have := ps_low hI.k.ch n (ps_mem.2 h)
        exact .inl ⟨by omega, hr⟩
    · rintro (h | h)
      · by_cases hq : n < q.rd
        · exact .inl ⟨h.1, hq⟩
        · exact .inr (rdy_in hI.k.ch n (by omega) (by omega))
      · simp at h
  · rw [if_neg hr]
    constructor
    · rintro (h | h)
      · omega
      · exact .inr h
    · rintro (h | h)
      · omega
      · exact .inr h

end Go.Proofs.Ytpkondemkpogoaa
