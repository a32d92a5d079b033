/-
  What text of a cut does; which of two places is ahead; what front of a reader does.
-/
import Derived.Test.YthmdbkefbbjfmaaIcut
import Derived.Test.YthmdbkefbbjfmaaVtext
namespace Go.Proofs.Ythmdbkefbbjfmaa
open Go.RowKit
set_option linter.unusedVariables false
set_option linter.unusedSimpArgs false


/-- A cut's state behind text. -/
def textS (s : List Int × Int) : List Int × (List Int × Int) := ((vtext s.1 2048).1, if s.2 = 0 then (vtext s.1 2048).2 else s)
set_option maxHeartbeats 1000000 in
set_option maxRecDepth 100000 in
theorem ctext_ok (g : Nat) (l : List Int) (w : World) (h : CutAt w g l 0) (hk : BytesOk l) (hl : l.length ≤ 1000000) :
    Calls Try.prog 45 #[.pointer (some ⟨g, 0, none⟩)] w fun e w' => ∃ V, e = .returned V ∧ Rd w' .u8 V (vtext l 2048).1 ∧ CutAt w' g (vtext l 2048).2.1 (vtext l 2048).2.2 ∧ w.grownBy w' (some g) := by
  obtain ⟨V, hb, hr⟩ := h
  obtain ⟨A, cap, rfl⟩ := hr.form
  have c0 : w.cell? ⟨g, 0, none⟩ = some (.slice A l.length cap) := hb.cell 0
  have HR := Lib.hid hr
  clear hr
  go_enter Try.func45, Try.ntmps45
  go_wp2_with fail
  refine (text_all _ l 2048 _ HR.out hk (by omega) (by decide)).mono ?_
  rintro e w1 ⟨v1, v2, rfl, r1, r2, hb1⟩
  have hb' := hb.same hb1
  obtain ⟨A1, k1, rfl⟩ := r1.form
  obtain ⟨A2, k2, rfl⟩ := r2.form
  obtain ⟨T, hT⟩ : ∃ T, T = (vtext l 2048).1 := ⟨_, rfl⟩
  obtain ⟨L, hL⟩ : ∃ L, L = (vtext l 2048).2.1 := ⟨_, rfl⟩
  obtain ⟨er, he⟩ : ∃ er, er = (vtext l 2048).2.2 := ⟨_, rfl⟩
  rw [← hT] at r1 ⊢
  rw [← hL] at r2 ⊢
  rw [← he]
  have HT := Lib.hid hT
  have HL := Lib.hid hL
  have HE := Lib.hid he
  clear hT hL he c0
  have c0 : w1.cell? ⟨g, 0, none⟩ = some (.slice A l.length cap) := hb'.cell 0
  have c1 : w1.cell? ⟨g, 1, none⟩ = some (.int .i64 0) := hb'.cell 1
  have f0 := hb'.frozen 0
  have f1 := hb'.frozen 1
  go_wp2_with fail
  go_ret
  refine ⟨_, rfl, ?_, ⟨.slice A2 L.length k2, ?_, ?_⟩, grown_set (grown_set (grown_below hb1 _) _ _) _ _⟩
  · rw [← HT.out]
    exact rd_set (rd_set r1 hb' (by simp) 0 _) (hb'.set_ 0 _) (by simp) 1 _
  · rw [← HE.out]
    exact (hb'.set_ 0 _).set_ 1 _
  · rw [← HL.out]
    exact rd_set (rd_set r2 hb' (by simp) 0 _) (hb'.set_ 0 _) (by simp) 1 _
def lessP (a b c d : Int) : Bool := decide (a < c ∨ (a = c ∧ b < d))
set_option maxRecDepth 100000 in
theorem wless_any (a b c d : Int) (w : World) : Calls Try.prog 44 #[.agg #[.int .u64 a, .int .u64 b], .agg #[.int .u64 c, .int .u64 d]] w fun e w' => e = .returned (.bool (lessP a b c d)) ∧ Below w.heap.size w w' := by
  have hB := ((Below.refl w.heap.size w).alloc (Nat.le_refl _) (.cells #[.int .u64 a, .int .u64 b] 26)).alloc (by simp) (.cells #[.int .u64 c, .int .u64 d] 26)
  obtain ⟨L, hL⟩ : ∃ L, L = lessP a b c d := ⟨_, rfl⟩
  rw [← hL]
  have HL := Lib.hid hL
  clear hL
  by_cases h1 : a < c
  · have h1' : decide (a < c) = true := by simpa using h1
    have HF : Hid (L = true) := Lib.hid (by rw [HL.out]; unfold lessP; simp; exact .inl h1)
    go_enter Try.func44, Try.ntmps44
    go_wp2_with fail
    go_ret
    exact ⟨by rw [HF.out]; rfl, hB⟩
  · have h1' : decide (a < c) = false := by simpa using h1
    by_cases h2 : a = c
    · have h2' : (a == c) = true := by simpa using h2
      have HF : Hid (L = decide (b < d)) := Lib.hid (by rw [HL.out]; unfold lessP; rw [decide_eq_decide]; omega)
      clear h2
      by_cases h3 : b < d
      · have h3' : decide (b < d) = true := by simpa using h3
        go_enter Try.func44, Try.ntmps44
        go_wp2_with fail
        go_ret
        exact ⟨by rw [HF.out, h3']; rfl, hB⟩
      · have h3' : decide (b < d) = false := by simpa using h3
        go_enter Try.func44, Try.ntmps44
        go_wp2_with fail
        go_ret
        exact ⟨by rw [HF.out, h3']; rfl, hB⟩
    · have h2' : (a == c) = false := by simpa using h2
      have HF : Hid (L = false) := Lib.hid (by rw [HL.out]; unfold lessP; simp; omega)
      clear h2
      go_enter Try.func44, Try.ntmps44
      go_wp2_with fail
      go_ret
      exact ⟨by rw [HF.out]; rfl, hB⟩

end Go.Proofs.Ythmdbkefbbjfmaa
