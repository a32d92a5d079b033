/-
  The reference quilt beside the program's, plain. No condition.
-/
import Derived.Test.YtpkondemkpogoaaRmap
import Derived.Test.YtpkondemkpogoaaQwholp
namespace Go.Proofs.Ytpkondemkpogoaa
open Go.RowKit
set_option linter.unusedVariables false
set_option linter.unusedSimpArgs false

structure XR (es : List (Int × Int)) (q : Q) : Prop where
  cm : Came q (keys es)
  nd : (keys es).Nodup
  vl : ∀ n v, ctn q.L n = some v → lkp es n = some v
  bo : ∀ x ∈ es, 0 ≤ x.2 ∧ x.2 ≤ 255
theorem xr_new : XR [] Q.new := ⟨came_new, List.nodup_nil, fun n v h => by simp [Q.new, ctn] at h, fun x hx => by simp at hx⟩
theorem XR.len {es : List (Int × Int)} {q : Q} (h : XR es q) (hi : QI q) : (es.length : Int) = q.rd + hld q.L := by
  have := came_len hi h.nd h.cm
  simpa [keys] using this
/-- Not read: it is there just if it is held. -/
theorem XR.held {es : List (Int × Int)} {q : Q} (h : XR es q) {n : Int} (hn : q.rd ≤ n) : (lkp es n).isSome = (ctn q.L n).isSome := by
  have h1 := h.cm n
  rw [← lkp_mem] at h1
  cases h2 : (lkp es n).isSome <;> cases h3 : (ctn q.L n).isSome
  · rfl
  · rw [h2, h3] at h1; simp at h1
  · rw [h2, h3] at h1
    have := h1.1 rfl
    rcases this with h4 | h4
    · omega
    · simp at h4
  · rfl
def one (es : List (Int × Int)) (n b : Int) : List (Int × Int) := if (lkp es n).isSome = true then es else es ++ [(n, b)]
def addN (es : List (Int × Int)) (off : Int) (l : List Int) : Nat → List (Int × Int)
  | 0 => es
  | j + 1 => one (addN es off l j) (off + j) (l.getD j 0)
theorem keys_app (es : List (Int × Int)) (n b : Int) : keys (es ++ [(n, b)]) = keys es ++ [n] := by simp [keys]
theorem one_keys (es : List (Int × Int)) (n b k : Int) : k ∈ keys (one es n b) ↔ k ∈ keys es ∨ k = n := by
  unfold one
  split
  · next h =>
    constructor
    · exact .inl
    · rintro (h1 | h1)
      · exact h1
      · subst h1; exact lkp_mem.1 h
  · rw [keys_app]; simp
theorem one_nodup {es : List (Int × Int)} (h : (keys es).Nodup) (n b : Int) : (keys (one es n b)).Nodup := by
  unfold one
  split
  · exact h
  · next h1 =>
    rw [keys_app, List.nodup_append]
    exact ⟨h, by simp, fun a ha c hc e => by simp at hc; subst hc; subst e; exact h1 (lkp_mem.2 ha)⟩
theorem one_lkp (es : List (Int × Int)) (n b k : Int) : lkp (one es n b) k = (lkp es k).or (if k = n then some b else none) := by
  unfold one
  split
  · next h =>
    by_cases e : k = n
    · subst e
      obtain ⟨v, hv⟩ := Option.isSome_iff_exists.1 h
      rw [hv]; simp
    · rw [if_neg e]; simp
  · next h =>
    have hn : n ∉ keys es := fun hm => h (lkp_mem.2 hm)
    rw [lkp_app es n b k hn]
    by_cases e : k = n
    · subst e
      rw [if_pos rfl, if_pos rfl, lkp_none hn]; simp
    · rw [if_neg e, if_neg e]; simp
theorem addN_keys (es : List (Int × Int)) (off : Int) (l : List Int) (j : Nat) (k : Int) : k ∈ keys (addN es off l j) ↔ k ∈ keys es ∨ (off ≤ k ∧ k < off + j) := by
  induction j with
  | zero => simp [addN]; omega
  | succ j ih =>
    rw [show addN es off l (j + 1) = one (addN es off l j) (off + j) (l.getD j 0) from rfl, one_keys, ih]
    constructor
    · rintro ((h | h) | h)
      · exact .inl h
      · exact .inr (by omega)
      · exact .inr (by omega)
    · rintro (h | h)
      · exact .inl (.inl h)
      · by_cases e : k = off + j
        · exact .inr e
        · exact .inl (.inr (by omega))
theorem addN_nodup {es : List (Int × Int)} (h : (keys es).Nodup) (off : Int) (l : List Int) (j : Nat) : (keys (addN es off l j)).Nodup := by
  induction j with
  | zero => exact h
  | succ j ih => exact one_nodup ih _ _
theorem addN_lkp (es : List (Int × Int)) (off : Int) (l : List Int) (j : Nat) (k : Int) : lkp (addN es off l j) k = (lkp es k).or (if off ≤ k ∧ k < off + j then some (l.getD (k - off).toNat 0) else none) := by
  induction j with
  | zero =>
    rw [if_neg (by omega)]
    simp [addN]
  | succ j ih =>
    rw [show addN es off l (j + 1) = one (addN es off l j) (off + j) (l.getD j 0) from rfl, one_lkp, ih]
    cases lkp es k with
    | some v => simp
    | none =>
      simp only [Option.none_or]
      by_cases e : k = off + j
      · subst e
        rw [if_neg (by omega), if_pos rfl, if_pos (by omega), show (off + (j : Int) - off).toNat = j by omega]
        simp
      · rw [if_neg e, Option.or_none]
        by_cases h : off ≤ k ∧ k < off + j
        · rw [if_pos h, if_pos (by omega)]
        · rw [if_neg h, if_neg (by omega)]
theorem one_len (es : List (Int × Int)) (n b : Int) : (one es n b).length ≤ es.length + 1 := by
  unfold one
  split <;> simp
theorem addN_len (es : List (Int × Int)) (off : Int) (l : List Int) (j : Nat) : (addN es off l j).length ≤ es.length + j := by
  induction j with
  | zero => simp [addN]
  | succ j ih =>
    have := one_len (addN es off l j) (off + j) (l.getD j 0)
    rw [show addN es off l (j + 1) = one (addN es off l j) (off + j) (l.getD j 0) from rfl]
    omega
theorem addN_bo {es : List (Int × Int)} (h : ∀ x ∈ es, 0 ≤ x.2 ∧ x.2 ≤ 255) (off : Int) {l : List Int} (hl : BytesOk l) (j : Nat) : ∀ x ∈ addN es off l j, 0 ≤ x.2 ∧ x.2 ≤ 255 := by
  induction j with
  | zero => exact h
  | succ j ih =>
    intro x hx
    rw [show addN es off l (j + 1) = one (addN es off l j) (off + j) (l.getD j 0) from rfl] at hx
    unfold one at hx
    split at hx
    · exact ih x hx
    · rcases List.mem_append.1 hx with h1 | h1
      · exact ih x h1
      · simp at h1; subst h1; exact hl.getD j
theorem xr_put {es : List (Int × Int)} {q : Q} (h : XR es q) (hi : QI q) {off : Int} {l : List Int} {en : Bool} (ho : 0 ≤ off) (hl : BytesOk l) (he : q.err off l en = 0) : XR (addN es off l l.length) (q.put off l en) := by
  refine ⟨fun n => ?_, addN_nodup h.nd off l _, fun n v hv => ?_, addN_bo h.bo off hl _⟩
  · rw [addN_keys, ← came_put hi h.cm ho he n, List.mem_append]
    have e : n ∈ (List.range l.length).map (fun i : Nat => off + (i : Int)) ↔ off ≤ n ∧ n < off + l.length := by
      simp only [List.mem_map, List.mem_range]
      constructor
      · rintro ⟨i, hi, rfl⟩; omega
      · rintro ⟨h1, h2⟩; exact ⟨(n - off).toNat, by omega, by omega⟩
    rw [e]
  · unfold Q.put at hv
    rw [if_pos he] at hv
    have hv' : ctn (putL (trm q.rd (off, l)) q.L) n = some v := hv
    rw [put_ctn hi.k.ch] at hv'
    rw [addN_lkp]
    cases hc : ctn q.L n with
    | some y =>
      rw [hc] at hv'
      simp only [Option.some_or, Option.some.injEq] at hv'
      subst hv'
      rw [h.vl n y hc, Option.some_or]
    | none =>
      rw [hc, Option.none_or] at hv'
      split at hv'
      · next hr =>
        simp only [Option.some.injEq] at hv'
        have h1 := trm_lo q.rd (off, l)
        have h2 := hr.2
        rw [trm_pe] at h2
        have hpe : pe (off, l) = off + l.length := rfl
        rw [hpe] at h2
        have hrd : q.rd ≤ n := by
          have h3 := hr.1
          unfold trm at h3
          split at h3
          · next hh => simp only at h3 hh; omega
          · next hh => simp only at h3 hh; omega
        have hln : lkp es n = none := by
          have h4 := h.held hrd
          rw [hc] at h4
          cases h5 : lkp es n with
          | none => rfl
          | some z => rw [h5] at h4; simp at h4
        have hlo : off ≤ n := by
          have h3 := hr.1
          simp only at h1
          omega
        rw [trm_at _ _ _ hr.1] at hv'
        rw [hln, Option.none_or, if_pos ⟨hlo, h2⟩, hv']
      · simp at hv'
theorem xr_take {es : List (Int × Int)} {q : Q} (h : XR es q) (hi : QI q) (m : Int) : XR es (q.take m) := by
  obtain ⟨h1, h2, h3, h4, h5⟩ := tak_law hi.k.ch (q.n_le m)
  refine ⟨came_take hi h.cm m, h.nd, fun n v hv => ?_, h.bo⟩
  have hv' : ctn (tak (q.n m) q.L) n = some v := hv
  rw [h4 n] at hv'
  split at hv'
  · simp at hv'
  · exact h.vl n v hv'
theorem XR.got {es : List (Int × Int)} {q : Q} (h : XR es q) (hi : QI q) (m : Int) (i : Nat) (hn : i < q.n m) : lkp es (q.rd + i) = some ((q.got m).getD i 0) := by
  obtain ⟨h1, h2, h3, h4, h5⟩ := tak_law hi.k.ch (q.n_le m)
  exact h.vl _ _ (h3 i hn).symm

end Go.Proofs.Ytpkondemkpogoaa
