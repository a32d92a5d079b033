/-
  Datagrams: what is read by the two is the same; what is written is read again. Plain; no program.
-/
import Derived.Test.YthmdbkefbbjfmaaIrrgram
import Derived.Test.YthmdbkefbbjfmaaInext
namespace Go.Proofs.Ythmdbkefbbjfmaa
open Go.RowKit
set_option linter.unusedVariables false
set_option linter.unusedSimpArgs false


theorem takeR_nil : takeR [] = (0, [], 2) := takeR_none rfl
theorem gram_same (l : List Int) : gramS l = rgramS l := by
  rcases h1 : vtake l with _ | ⟨k, r1⟩
  · have ht : takeL 4 l = none := takeL_none (takeL_stop (k := 0) rfl h1) (by decide)
    simp [gramS, rgramS, numS, oneS, takeR_none h1, takeR_nil, ht]
  · have t1 := takeL_step (k := 0) (q := []) rfl h1
    rcases h2 : vtake r1 with _ | ⟨al, r2⟩
    · have ht : takeL 4 l = none := takeL_none (takeL_stop t1 h2) (by decide)
      simp [gramS, rgramS, numS, oneS, takeR_some h1, takeR_none h2, takeR_nil, ht]
    · have t2 := takeL_step t1 h2
      rcases h3 : vtake r2 with _ | ⟨G, r3⟩
      · have ht : takeL 4 l = none := takeL_none (takeL_stop t2 h3) (by decide)
        simp [gramS, rgramS, numS, oneS, takeR_some h1, takeR_some h2, takeR_none h3, takeR_nil, ht]
      · have t3 := takeL_step t2 h3
        rcases h4 : vtake r3 with _ | ⟨O, r4⟩
        · have ht : takeL 4 l = none := takeL_stop t3 h4
          simp [gramS, rgramS, numS, oneS, takeR_some h1, takeR_some h2, takeR_some h3, takeR_none h4, ht]
        · have ht : takeL 4 l = some ([k, al, G, O], r4) := takeL_step t3 h4
          match r4, h4, ht with
          | [], h4, ht => simp [gramS, rgramS, numS, oneS, takeR_some h1, takeR_some h2, takeR_some h3, takeR_some h4, ht]
          | pr :: r, h4, ht =>
            have e1 : numS (l, 0) = (k, (r1, 0)) := by simp [numS, takeR_some h1]
            have e2 : numS (r1, 0) = (al, (r2, 0)) := by simp [numS, takeR_some h2]
            have e3 : numS (r2, 0) = (G, (r3, 0)) := by simp [numS, takeR_some h3]
            have e4 : numS (r3, 0) = (O, (pr :: r, 0)) := by simp [numS, takeR_some h4]
            have e5 : oneS (pr :: r, 0) = (pr, (r, 0)) := by simp [oneS]
            simp only [gramS, rgramS, e1, e2, e3, e4, e5, ht]
            by_cases hk : k = 1
            · by_cases hr : r.length ≤ 2048
              · simp [hk, hr]
              · simp [hk, hr]
            · simp [hk]
theorem rgram_some {l r : List Int} {al G O pr : Int} (h : rgramS l = some (al, G, O, pr, r)) : takeL 4 l = some ([1, al, G, O], pr :: r) ∧ r.length ≤ 2048 := by
  unfold rgramS at h
  split at h
  · rename_i k al' G' O' pr' r' ht
    by_cases hc : k = 1 ∧ r'.length ≤ 2048
    · rw [if_pos hc] at h
      simp only [Option.some.injEq, Prod.mk.injEq] at h
      obtain ⟨rfl, rfl, rfl, rfl, rfl⟩ := h
      obtain ⟨rfl, h2⟩ := hc
      exact ⟨ht, h2⟩
    · rw [if_neg hc] at h; cases h
  · cases h
theorem vform_take (n : Int) (rest : List Int) (h0 : 0 ≤ n) (h : vsz n ≠ 0) : vtake (vform n (vsz n) ++ rest) = some (n, rest) := vtake_form n _ rest h0 (vsz_in n h) h (Nat.le_refl _)
theorem gram_back (al G O pr : Int) (l : List Int) (hf : fitB [1, al, G, O] = true) (ha : 0 ≤ al) (hG : 0 ≤ G) (hO : 0 ≤ O) (hl : l.length ≤ 2048) : rgramS (joinN [1, al, G, O] ++ [pr] ++ l) = some (al, G, O, pr, l) := by
  have hh := fitB_yes hf
  have e : joinN [1, al, G, O] ++ [pr] ++ l = vform 1 (vsz 1) ++ (vform al (vsz al) ++ (vform G (vsz G) ++ (vform O (vsz O) ++ (pr :: l)))) := by simp [joinN]
  rw [e]
  have h1 := vform_take 1 (vform al (vsz al) ++ (vform G (vsz G) ++ (vform O (vsz O) ++ (pr :: l)))) (by decide) (hh 1 (by simp))
  have h2 := vform_take al (vform G (vsz G) ++ (vform O (vsz O) ++ (pr :: l))) ha (hh al (by simp))
  have h3 := vform_take G (vform O (vsz O) ++ (pr :: l)) hG (hh G (by simp))
  have h4 := vform_take O (pr :: l) hO (hh O (by simp))
  have ht := takeL_step (takeL_step (takeL_step (takeL_step (k := 0) (q := []) rfl h1) h2) h3) h4
  unfold rgramS
  rw [show takeL 4 _ = _ from ht]
  simp [hl]

end Go.Proofs.Ythmdbkefbbjfmaa
