/-
  A text's bytes: what Text of package vint does.
-/
import Derived.Test.YtliagckgollalaaVtext
namespace Go.Proofs.Ytliagckgollalaa
open Go.RowKit
set_option linter.unusedVariables false
set_option linter.unusedSimpArgs false


def txtB (l : List Int) : List Int := vform l.length (vsz l.length) ++ l
theorem vsz_len (l : List Int) (h : l.length ≤ 1000) : vsz (l.length : Int) ≠ 0 := by
  rcases vsz_cases (l.length : Int) with ⟨_, e⟩ | ⟨_, _, e⟩ | ⟨_, _, e⟩ | ⟨_, _, e⟩ | ⟨_, e⟩ <;> omega
theorem txt_any (v : Value) (l : List Int) (w : World) (ha : Rd w .u8 v l) (hl : l.length ≤ 1000) :
    Calls Try.prog 23 #[v] w fun e w' => ∃ v', e = .returned v' ∧ w'.ownsRow w.heap.size 5 1 v' (txtB l).length ((txtB l).map (Value.int .u8)) ∧ Below w.heap.size w w' := by
  obtain ⟨i0, hi, hz0, hz1, hz2⟩ := info_parts infoB
  obtain ⟨A, cap, rfl⟩ := ha.form
  have hv := vsz_len l hl
  have hfl := vform_len (l.length : Int) (vsz l.length) (vsz_in _ hv)
  have hv8 : vsz (l.length : Int) ≤ 8 := by rcases vsz_in _ hv with h | h | h | h <;> omega
  have HA := Lib.hid ha
  clear ha
  obtain ⟨fl, hfe⟩ : ∃ fl, fl = vform (l.length : Int) (vsz l.length) := ⟨_, rfl⟩
  have hf8 : fl.length ≤ 8 := by rw [hfe, hfl]; exact hv8
  have HF := Lib.hid hfe
  clear hfl hfe
  go_enter Try.func23, Try.ntmps23
  go_wp2_with fail
  refine (num_any (l.length : Int) _ (by omega) (by omega) hv).mono ?_
  rintro e w1 ⟨v1, rfl, ho, hB⟩
  rw [← HF.out] at ho
  have hrd := (HA.out.below hB).rdv
  have HR := Lib.hid hrd
  clear hrd
  go_wp2_with (at_builtin; refine wpList_append_any _ rfl _ _ 23 rfl w.heap.size 5 i0 _ 1 1 Try.underlying23 hi hz0 hz1 hz2 rfl (by decide) v1 fl.length (fl.map (Value.int .u8)) rfl ho A l.length cap _ rfl HR.out.2.2.2.2 (oneInts _ _) (by unfold maxLen; omega) (by omega) hB.size HR.out.2.1 ?_; intro v2 w2 hown hgrow hat)
  go_ret
  refine ⟨_, rfl, ?_, hB.grown hgrow hB.size (fun b hb => (ho.lt b hb).1)⟩
  unfold txtB
  rw [← HF.out, List.length_append, List.map_append]
  exact hown

end Go.Proofs.Ytliagckgollalaa
