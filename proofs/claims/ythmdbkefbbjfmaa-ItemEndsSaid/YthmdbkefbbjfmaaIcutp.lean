/-
  What a reader reads of bytes that were written and then cut off: it is short, in plain words.
-/
import Derived.Test.YthmdbkefbbjfmaaIfallp
namespace Go.Proofs.Ythmdbkefbbjfmaa
open Go.RowKit
set_option linter.unusedVariables false
set_option linter.unusedSimpArgs false


theorem vtake_short {l : List Int} {n : Int} (hk : BytesOk l) (h : vtake l = some (n, [])) (j : Nat) (hj : j < l.length) : vtake (l.take j) = none := by
  obtain ⟨_, _, x, r, hl, hw, hr, _⟩ := vtake_some hk h
  have hlen : l.length ≤ vw x := by
    have := congrArg List.length hr
    rw [List.length_drop] at this
    simp at this
    omega
  match j, hj with
  | 0, _ => rfl
  | j + 1, hj =>
    rw [hl] at hj hlen ⊢
    rw [List.take_succ_cons, vtake_cons]
    simp only [List.length_cons] at hj hlen
    rw [if_pos (by rw [List.length_take]; omega)]
theorem vf_bytes (n : Int) (h0 : 0 ≤ n) (h : vsz n ≠ 0) : BytesOk (vform n (vsz n)) := by
  have h1 := joinN_ok [n] (fun x hx => by simp at hx; subst hx; exact h) (fun x hx => by simp at hx; subst hx; have := vsz_lim h; omega)
  rwa [join1] at h1
theorem num_cut (n : Int) (rest : List Int) (j : Nat) (h0 : 0 ≤ n) (h : vsz n ≠ 0) :
    numS ((vform n (vsz n) ++ rest).take j, 0) = if j < (vform n (vsz n)).length then (0, ([], 2)) else (n, (rest.take (j - (vform n (vsz n)).length), 0)) := by
  rw [List.take_append]
  split
  · rename_i hj
    rw [show j - (vform n (vsz n)).length = 0 by omega, List.take_zero, List.append_nil]
    have ht := vtake_short (vf_bytes n h0 h) (by have := vform_take n [] h0 h; rwa [List.append_nil] at this) j hj
    unfold numS
    rw [if_pos rfl, takeR_none ht]
  · rename_i hj
    rw [List.take_of_length_le (by omega), num_on n _ h0 h]
theorem num_stick (s : List Int × Int) (h : s.2 ≠ 0) : (numS s).2 = s := by unfold numS; rw [if_neg h]
theorem one_stick (s : List Int × Int) (h : s.2 ≠ 0) : (oneS s).2 = s := by
  obtain ⟨l, e⟩ := s
  unfold oneS
  rw [if_pos h]
theorem text_cut (l : List Int) (j : Nat) (hl : l.length ≤ 2048) (hj : j < (txtB l).length) : (textS ((txtB l).take j, 0)).2.2 = 2 := by
  have hz : vsz (l.length : Int) ≠ 0 := vsz_some (by omega)
  unfold textS
  rw [if_pos rfl]
  unfold txtB at hj ⊢
  rw [List.take_append]
  by_cases h1 : j < (vform (l.length : Int) (vsz l.length)).length
  · rw [show j - (vform (l.length : Int) (vsz l.length)).length = 0 by omega, List.take_zero, List.append_nil]
    have ht := vtake_short (vf_bytes (l.length : Int) (by omega) hz) (by have := vform_take (l.length : Int) [] (by omega) hz; rwa [List.append_nil] at this) j h1
    rw [vtext_none _ ht]
  · rw [List.take_of_length_le (by omega), vtext_some _ (vform_take (l.length : Int) _ (by omega) hz), if_neg (by omega)]
    rw [List.length_append] at hj
    rw [if_pos (by rw [List.length_take]; omega)]
theorem front_cut (f : Bool) (id g pr : Int) (j : Nat) (hi : 0 ≤ id) (hg : 0 ≤ g) (h : (beginR f id g pr).2 = 0) (hj : j < (beginR f id g pr).1.length) : (frontS ((beginR f id g pr).1.take j, 0)).2.2 = 2 := by
  unfold beginR at h hj ⊢
  cases f
  · simp only [Bool.false_eq_true, if_false] at h hj ⊢
    by_cases hf : fitB [16, id, g] = true
    · rw [if_pos hf] at hj ⊢
      have f1 := fit_of hf (n := 16) (by simp)
      have f2 := fit_of hf (n := id) (by simp)
      have f3 := fit_of hf (n := g) (by simp)
      rw [join3] at hj ⊢
      simp only [List.append_assoc] at hj ⊢
      simp only [List.length_append] at hj
      unfold frontS
      rw [num_cut 16 _ j (by decide) f1]
      by_cases c1 : j < (vform 16 (vsz 16)).length
      · rw [if_pos c1]; simp
      · rw [if_neg c1]
        simp only
        rw [if_neg (by simp), if_neg (by decide), if_pos trivial, num_cut id _ _ hi f2]
        by_cases c2 : j - (vform 16 (vsz 16)).length < (vform id (vsz id)).length
        · rw [if_pos c2]
          rw [num_stick _ (by decide), one_stick _ (by decide)]
        · rw [if_neg c2]
          simp only
          rw [num_cut g _ _ hg f3]
          by_cases c3 : j - (vform 16 (vsz 16)).length - (vform id (vsz id)).length < (vform g (vsz g)).length
          · rw [if_pos c3, one_stick _ (by decide)]
          · rw [if_neg c3]
            simp only [List.length_cons, List.length_nil] at hj
            rw [show j - (vform 16 (vsz 16)).length - (vform id (vsz id)).length - (vform g (vsz g)).length = 0 by omega]
            simp [oneS]
    · rw [if_neg hf] at h; simp at h
  · simp only [if_true] at h hj ⊢
    by_cases hf : fitB [5, id] = true ∧ g = 0 ∧ pr = 0
    · rw [if_pos hf] at hj ⊢
      have f1 := fit_of hf.1 (n := 5) (by simp)
      have f2 := fit_of hf.1 (n := id) (by simp)
      rw [join2] at hj ⊢
      simp only [List.length_append] at hj
      unfold frontS
      rw [num_cut 5 _ j (by decide) f1]
      by_cases c1 : j < (vform 5 (vsz 5)).length
      · rw [if_pos c1]; simp
      · rw [if_neg c1]
        simp only
        have e : numS ((vform id (vsz id)).take (j - (vform 5 (vsz 5)).length), 0) = (0, ([], 2)) := by
          have := num_cut id [] (j - (vform 5 (vsz 5)).length) hi f2
          rw [List.append_nil, if_pos (by omega)] at this
          exact this
        rw [if_neg (by simp), if_pos trivial, e]
    · rw [if_neg hf] at h; simp at h

end Go.Proofs.Ythmdbkefbbjfmaa
