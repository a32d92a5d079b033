/-
  VintGrows: a greater number never has a shorter least form. For every input; no condition.
-/
import Derived.Test.YtliagckgollalaaVawake
namespace Go.Proofs.Ytliagckgollalaa
open Go.RowKit
set_option linter.unusedVariables false
set_option linter.unusedSimpArgs false


theorem vsz_mono (a b : Int) (h : a ≤ b) (hb : vsz b ≠ 0) : vsz a ≤ vsz b ∧ 0 < vsz a := by
  rcases vsz_cases a with ⟨_, e⟩ | ⟨_, _, e⟩ | ⟨_, _, e⟩ | ⟨_, _, e⟩ | ⟨_, e⟩ <;> rcases vsz_cases b with ⟨_, e'⟩ | ⟨_, _, e'⟩ | ⟨_, _, e'⟩ | ⟨_, _, e'⟩ | ⟨_, e'⟩ <;> omega
theorem grows_lt (x y a b : Int) (w : World) (ha : 0 ≤ a ∧ a ≤ 18446744073709551615) (hb : 0 ≤ b ∧ b ≤ 18446744073709551615) (hab : a ≤ b) (hx : (x = a ∧ y = b ∧ a ≤ b) ∨ (x = b ∧ y = a ∧ a < b)) :
    Calls Try.prog 4 #[.int .u64 x, .int .u64 y] w fun e w' => e = .returned (.bool true) ∧ Below w.heap.size w w' := by
  have hm := vsz_mono a b hab
  by_cases hz : vsz b = 0
  · have h1 : ((vsz b : Int) == 0) = true := by simp; omega
    clear hm hz
    rcases hx with ⟨rfl, rfl, hx⟩ | ⟨rfl, rfl, hx⟩
    all_goals
      go_enter Try.func4, Try.ntmps4
      go_wp2_with (first | (go_at_call 8; refine (awake_any _).mono ?_; rintro e w1 ⟨rfl, hB⟩) | (go_at_call 15; refine (size_any _ _ (by omega) (by omega)).mono ?_; rintro e w2 ⟨rfl, rfl⟩))
      all_goals
        go_ret
        exact ⟨by first | (simp; done) | (simp; omega), hB⟩
  · have h1 : ((vsz b : Int) == 0) = false := by simp; omega
    have h2 : decide ((vsz a : Int) ≤ (vsz b : Int)) = true := by have := hm hz; simp; omega
    have h3 : decide ((0 : Int) < (vsz a : Int)) = true := by have := hm hz; simp; omega
    have h2' := (hm hz).1
    have h3' := (hm hz).2
    clear hm hz
    rcases hx with ⟨rfl, rfl, hx⟩ | ⟨rfl, rfl, hx⟩
    all_goals
      go_enter Try.func4, Try.ntmps4
      go_wp2_with (first | (go_at_call 8; refine (awake_any _).mono ?_; rintro e w1 ⟨rfl, hB⟩) | (go_at_call 15; refine (size_any _ _ (by omega) (by omega)).mono ?_; rintro e w2 ⟨rfl, rfl⟩))
      all_goals
        go_ret
        exact ⟨by first | (simp; done) | (simp; omega), hB⟩
theorem grows_walk (x y : Int) (w : World) (ha : 0 ≤ x ∧ x ≤ 18446744073709551615) (hb : 0 ≤ y ∧ y ≤ 18446744073709551615) :
    Calls Try.prog 4 #[.int .u64 x, .int .u64 y] w fun e w' => e = .returned (.bool true) ∧ Below w.heap.size w w' := by
  by_cases h : x ≤ y
  · exact grows_lt x y x y w ha hb h (.inl ⟨rfl, rfl, h⟩)
  · exact grows_lt x y y x w hb ha (by omega) (.inr ⟨rfl, rfl, by omega⟩)

open Go.ChangeShapes Go.WideShapes Go.ChangeAt
set_option maxRecDepth 100000 in
theorem grows_lifted (os : Os) (started : os.Started) (H : Type) (enc : TypeId × Value → H) :
    ReturnsInHanded {} Try.checked os 4 .any (Rows.vintGrowsSpec.pre6 enc Try.prog Try.f4 Rows.vintGrowsRow.domain false) (Rows.vintGrowsSpec.post enc Try.prog Try.f4 false true false false) := by
  refine returnsInHanded_of_change (C := Try.checked) own started (by kernel_rfl) Try.func4
    (ChangeSpec.witness6 (enc := enc) (C := Try.checked) false ⟨#[], #[.int .u64 0, .int .u64 0], []⟩ 8 (by kernel_rfl) (by kernel_rfl) (by kernel_rfl) (by kernel_rfl)) ?_
  intro W base args ds gs before hval0 hW hcnd _
  have hval : ∀ (j : Nat) t v, Try.f4.params[j]? = some t → args[j]? = some v → Value.okWide Try.prog W .any base t v := hval0
  have hW' := hW
  obtain ⟨p, q, hA0, hV, rfl, hfz, hnd⟩ := hW
  have hA : DataW.TrodAll enc Try.prog W 0 (fun _ => true) true Try.f4.params.toList args.toList ds p := hA0
  rw [Try.params4] at hA hval
  obtain ⟨v0, vs0, d0, ds0, p0, q0, hargs, rfl, rfl, h0, r0⟩ := trodAll_cons hA
  obtain ⟨v1, vs1, d1, ds1, p1, q1, rfl, rfl, rfl, h1, r1⟩ := trodAll_cons r0
  obtain ⟨rfl, rfl, rfl⟩ := trodAll_nil r1
  obtain rfl : args = #[v0, v1] := by cases args; simp_all
  obtain ⟨rfl, rfl⟩ := trodVars_none hV
  obtain ⟨a0, rfl, rfl, rfl, w0⟩ := open_int Try.underlying22 (hval 0 22 v0 rfl rfl) h0
  obtain ⟨a1, rfl, rfl, rfl, w1⟩ := open_int Try.underlying22 (hval 1 22 v1 rfl rfl) h1
  clear hA0 hval0
  refine (grows_walk a0 a1 W (bounds_u64 w0) (bounds_u64 w1)).mono fun e W' ⟨he, bel⟩ => ?_
  subst he
  exact ⟨_, rfl, _, _, _, [], _, [], hW', trodAll_mk1 (shut_bool Try.underlying4 _), (trodAll_cons_mk (shut_int Try.underlying22 w0) (trodAll_cons_mk (shut_int Try.underlying22 w1) trodAll_mk0)), rfl, bel.frame _, fun h => by cases h⟩

theorem grows_holds : Rows.VintGrowsSaid :=
  OpenClaim.holds_of_wide 4 Try.f4 rfl rfl rfl rfl rfl rfl rfl ⟨rfl, rfl, rfl, rfl, rfl⟩ rfl rfl rfl rfl rfl (by kernel_rfl) Try.func4 (by kernel_rfl)
    (of_decide_eq_true (by kernel_rfl)) (by unfold Func.isWrapper; first | (rw [if_pos (by decide +kernel)]; kernel_rfl) | (rw [if_neg (by decide +kernel)]; exact ⟨rfl, rfl⟩))
    (fun os started H enc _ => grows_lifted os started H enc)
#print axioms grows_holds

end Go.Proofs.Ytliagckgollalaa
