/-
  Calls of a meter of package pace, each as the one step; scripts that came in.
-/
import Derived.Test.YtlnenndlenckjaaPawake
import Derived.Test.YtlnenndlenckjaaRdo
namespace Go.Proofs.Ytlnenndlenckjaa
open Go.RowKit
set_option linter.unusedVariables false
set_option linter.unusedSimpArgs false


theorem send_step (g : Nat) (m : Mt) (n sent now : Int) (w : World) (hb : Mtr w g m) (hk : MtOk m) :
    Calls Try.prog 18 #[.pointer (some ⟨g, 0, none⟩), .int .i64 n] w fun e w' => e = .returned (.int .i64 (errM 0 m n)) ∧ Mtr w' g (stepM 0 m n sent now) ∧ w.grownBy w' (some g) := by
  obtain ⟨may, lim, away, since, rc⟩ := m
  have q : ∀ {r : Int}, (Calls Try.prog 18 #[.pointer (some ⟨g, 0, none⟩), .int .i64 n] w fun e w' => e = .returned (.int .i64 r) ∧ w = w') → r ≠ 0 → errM 0 ⟨may, lim, away, since, rc⟩ n = r →
      Calls Try.prog 18 #[.pointer (some ⟨g, 0, none⟩), .int .i64 n] w fun e w' => e = .returned (.int .i64 (errM 0 ⟨may, lim, away, since, rc⟩ n)) ∧ Mtr w' g (stepM 0 ⟨may, lim, away, since, rc⟩ n sent now) ∧ w.grownBy w' (some g) := fun h h0 he => by
    rw [stepM_err sent now (by rw [he]; exact h0), he]
    exact h.mono fun e w' ⟨h1, h2⟩ => ⟨h1, h2 ▸ hb, h2 ▸ grown_refl _ _⟩
  by_cases h1 : n < 0 ∨ 1200 < n
  · exact q (send_no g may lim away since rc n w hb h1) (by decide) (errM_bad h1)
  have h : 0 ≤ n ∧ n ≤ 1200 := by omega
  by_cases h3 : 1073741824 < away + n
  · exact q (send_full g may lim away since rc n w hb h h3 ⟨hk.a0, hk.a1⟩) (by decide) (by rw [errM_send h, if_pos h3])
  have he : errM 0 ⟨may, lim, away, since, rc⟩ n = 0 := by rw [errM_send h, if_neg h3]
  rw [stepM_send sent now he, he]
  exact send_yes g may lim away since rc n w hb h (by omega) ⟨hk.a0, hk.a1⟩

theorem acked_step (g : Nat) (m : Mt) (n sent now : Int) (w : World) (hb : Mtr w g m) (hk : MtOk m) :
    Calls Try.prog 19 #[.pointer (some ⟨g, 0, none⟩), .int .i64 n, .int .u64 sent] w fun e w' => e = .returned (.int .i64 (errM 1 m n)) ∧ Mtr w' g (stepM 1 m n sent now) ∧ w.grownBy w' (some g) := by
  obtain ⟨may, lim, away, since, rc⟩ := m
  have q : ∀ {r : Int}, (Calls Try.prog 19 #[.pointer (some ⟨g, 0, none⟩), .int .i64 n, .int .u64 sent] w fun e w' => e = .returned (.int .i64 r) ∧ w = w') → r ≠ 0 → errM 1 ⟨may, lim, away, since, rc⟩ n = r →
      Calls Try.prog 19 #[.pointer (some ⟨g, 0, none⟩), .int .i64 n, .int .u64 sent] w fun e w' => e = .returned (.int .i64 (errM 1 ⟨may, lim, away, since, rc⟩ n)) ∧ Mtr w' g (stepM 1 ⟨may, lim, away, since, rc⟩ n sent now) ∧ w.grownBy w' (some g) := fun h h0 he => by
    rw [stepM_err sent now (by rw [he]; exact h0), he]
    exact h.mono fun e w' ⟨h1, h2⟩ => ⟨h1, h2 ▸ hb, h2 ▸ grown_refl _ _⟩
  by_cases h1 : n < 0 ∨ 1200 < n
  · exact q (acked_no g may lim away since rc n sent w 1 hb (by unfold chk; rw [if_pos h1]) (by decide)) (by decide) (errM_bad h1)
  have h : 0 ≤ n ∧ n ≤ 1200 := by omega
  by_cases h3 : away < n
  · exact q (acked_no g may lim away since rc n sent w 6 hb (by unfold chk; rw [if_neg h1, if_pos ⟨rfl, h3⟩]) (by decide)) (by decide) (by rw [errM_go h (by decide), if_pos h3])
  have h4 : n ≤ away := by omega
  have he : errM 1 ⟨may, lim, away, since, rc⟩ n = 0 := by rw [errM_go h (by decide), if_neg h3]
  clear q
  rw [stepM_go sent now he (by decide), he]
  clear he
  by_cases hl : rc = true ∧ sent ≤ since
  · rw [goM_early hl]
    exact acked_late g may lim away since rc n sent w hb hk h h4 (by unfold laterB; simp [hl.1, hl.2])
  · rw [goM_1 hl]
    unfold more
    by_cases hc : may < lim
    · rw [if_pos hc]
      exact acked_a g may lim away since rc n sent w hb hk h h4 (by unfold laterB; cases rc <;> simp at hl ⊢ <;> omega) hc
    · rw [if_neg hc]
      exact acked_b g may lim away since rc n sent w hb hk h h4 (by unfold laterB; cases rc <;> simp at hl ⊢ <;> omega) (by omega)

theorem mlost_step (g : Nat) (m : Mt) (n sent now : Int) (w : World) (hb : Mtr w g m) (hk : MtOk m) :
    Calls Try.prog 22 #[.pointer (some ⟨g, 0, none⟩), .int .i64 n, .int .u64 sent, .int .u64 now] w fun e w' => e = .returned (.int .i64 (errM 2 m n)) ∧ Mtr w' g (stepM 2 m n sent now) ∧ w.grownBy w' (some g) := by
  obtain ⟨may, lim, away, since, rc⟩ := m
  have q : ∀ {r : Int}, (Calls Try.prog 22 #[.pointer (some ⟨g, 0, none⟩), .int .i64 n, .int .u64 sent, .int .u64 now] w fun e w' => e = .returned (.int .i64 r) ∧ w = w') → r ≠ 0 → errM 2 ⟨may, lim, away, since, rc⟩ n = r →
      Calls Try.prog 22 #[.pointer (some ⟨g, 0, none⟩), .int .i64 n, .int .u64 sent, .int .u64 now] w fun e w' => e = .returned (.int .i64 (errM 2 ⟨may, lim, away, since, rc⟩ n)) ∧ Mtr w' g (stepM 2 ⟨may, lim, away, since, rc⟩ n sent now) ∧ w.grownBy w' (some g) := fun h h0 he => by
    rw [stepM_err sent now (by rw [he]; exact h0), he]
    exact h.mono fun e w' ⟨h1, h2⟩ => ⟨h1, h2 ▸ hb, h2 ▸ grown_refl _ _⟩
  by_cases h1 : n < 0 ∨ 1200 < n
  · exact q (mlost_no g may lim away since rc n sent now w 1 hb (by unfold chk; rw [if_pos h1]) (by decide)) (by decide) (errM_bad h1)
  have h : 0 ≤ n ∧ n ≤ 1200 := by omega
  by_cases h3 : away < n
  · exact q (mlost_no g may lim away since rc n sent now w 6 hb (by unfold chk; rw [if_neg h1, if_pos ⟨rfl, h3⟩]) (by decide)) (by decide) (by rw [errM_go h (by decide), if_pos h3])
  have h4 : n ≤ away := by omega
  have he : errM 2 ⟨may, lim, away, since, rc⟩ n = 0 := by rw [errM_go h (by decide), if_neg h3]
  clear q
  rw [stepM_go sent now he (by decide), he]
  clear he
  by_cases hl : rc = true ∧ sent ≤ since
  · rw [goM_early hl]
    exact mlost_late g may lim away since rc n sent now w hb hk h h4 (by unfold laterB; simp [hl.1, hl.2])
  · rw [goM_2 hl]
    exact mlost_yes g may lim away since rc n sent now w hb hk h h4 (by unfold laterB; cases rc <;> simp at hl ⊢ <;> omega)

theorem gone_step (g : Nat) (m : Mt) (n sent now : Int) (w : World) (hb : Mtr w g m) (hk : MtOk m) :
    Calls Try.prog 23 #[.pointer (some ⟨g, 0, none⟩), .int .i64 n] w fun e w' => e = .returned (.int .i64 (errM 3 m n)) ∧ Mtr w' g (stepM 3 m n sent now) ∧ w.grownBy w' (some g) := by
  obtain ⟨may, lim, away, since, rc⟩ := m
  have q : ∀ {r : Int}, (Calls Try.prog 23 #[.pointer (some ⟨g, 0, none⟩), .int .i64 n] w fun e w' => e = .returned (.int .i64 r) ∧ w = w') → r ≠ 0 → errM 3 ⟨may, lim, away, since, rc⟩ n = r →
      Calls Try.prog 23 #[.pointer (some ⟨g, 0, none⟩), .int .i64 n] w fun e w' => e = .returned (.int .i64 (errM 3 ⟨may, lim, away, since, rc⟩ n)) ∧ Mtr w' g (stepM 3 ⟨may, lim, away, since, rc⟩ n sent now) ∧ w.grownBy w' (some g) := fun h h0 he => by
    rw [stepM_err sent now (by rw [he]; exact h0), he]
    exact h.mono fun e w' ⟨h1, h2⟩ => ⟨h1, h2 ▸ hb, h2 ▸ grown_refl _ _⟩
  by_cases h1 : n < 0 ∨ 1200 < n
  · exact q (gone_no g may lim away since rc n w 1 hb (by unfold chk; rw [if_pos h1]) (by decide)) (by decide) (errM_bad h1)
  have h : 0 ≤ n ∧ n ≤ 1200 := by omega
  by_cases h3 : away < n
  · exact q (gone_no g may lim away since rc n w 6 hb (by unfold chk; rw [if_neg h1, if_pos ⟨rfl, h3⟩]) (by decide)) (by decide) (by rw [errM_go h (by decide), if_pos h3])
  have h4 : n ≤ away := by omega
  have he : errM 3 ⟨may, lim, away, since, rc⟩ n = 0 := by rw [errM_go h (by decide), if_neg h3]
  clear q
  rw [stepM_go sent now he (by decide), he]
  clear he
  by_cases hl : rc = true ∧ sent ≤ since
  · rw [goM_early hl]
    exact gone_yes g may lim away since rc n w hb h h4 hk.a1
  · rw [goM_3 hl]
    exact gone_yes g may lim away since rc n w hb h h4 hk.a1

/-- A script that came in: of each step its four numbers. -/
structure Oq where
  do_ : Int
  n : Int
  sent : Int
  now : Int
def OqOk (o : Oq) : Prop := (0 ≤ o.do_ ∧ o.do_ ≤ 255) ∧ (-9223372036854775808 ≤ o.n ∧ o.n ≤ 9223372036854775807) ∧ (0 ≤ o.sent ∧ o.sent ≤ 18446744073709551615) ∧ (0 ≤ o.now ∧ o.now ≤ 18446744073709551615)
def Ops (w : World) (A : Option Addr) (n : Nat) : Prop :=
  ∀ k, k < n → ∃ (b off : Nat) (o : Oq), A = some ⟨b, off, none⟩ ∧ b < w.heap.size ∧ OqOk o ∧ w.cell? ⟨b, off + k * 4, none⟩ = some (.int .u8 o.do_) ∧ w.cell? ⟨b, off + k * 4 + 1, none⟩ = some (.int .i64 o.n) ∧
    w.cell? ⟨b, off + k * 4 + 2, none⟩ = some (.int .u64 o.sent) ∧ w.cell? ⟨b, off + k * 4 + 3, none⟩ = some (.int .u64 o.now)
theorem Ops.below {w w' : World} {A : Option Addr} {n : Nat} (h : Ops w A n) (hb : Below w.heap.size w w') : Ops w' A n := fun k hk => by
  obtain ⟨b, off, o, e, hlt, ho, h0, h1, h2, h3⟩ := h k hk
  exact ⟨b, off, o, e, Nat.lt_of_lt_of_le hlt hb.size, ho, (hb.cell (p := ⟨b, _, none⟩) hlt).trans h0, (hb.cell (p := ⟨b, _, none⟩) hlt).trans h1, (hb.cell (p := ⟨b, _, none⟩) hlt).trans h2, (hb.cell (p := ⟨b, _, none⟩) hlt).trans h3⟩
open Go.ChangeShapes Go.WideShapes Go.ChangeAt Go.Deep in
theorem ops_of {H : Type} {enc : TypeId × Value → H} {W : World} {A : Option Addr} {n c : Nat} {d : DataW H} {p : List MemPlace}
    (h : DataW.Trod enc Try.prog W 0 (fun _ => true) true 49 (.slice A n c) d p) : n ≤ c ∧ c ≤ maxLen ∧ Ops W A n := by
  obtain ⟨fuel, hf⟩ := h
  obtain ⟨h1, h2, G, hs, hk⟩ := open_structs Try.underlying49 Try.underlying53 (by kernel_rfl) (by kernel_rfl) (by decide) hf
  refine ⟨h1, h2, fun k hkn => ?_⟩
  obtain ⟨m0, y0, g0⟩ := hk k hkn 0 _ rfl
  obtain ⟨m1, y1, g1⟩ := hk k hkn 1 _ rfl
  obtain ⟨m2, y2, g2⟩ := hk k hkn 2 _ rfl
  obtain ⟨m3, y3, g3⟩ := hk k hkn 3 _ rfl
  obtain ⟨x0, e0, _, w0⟩ := DataW.trod_int Try.underlying5 g0
  obtain ⟨x1, e1, _, w1⟩ := DataW.trod_int Try.underlying3 g1
  obtain ⟨x2, e2, _, w2⟩ := DataW.trod_int Try.underlying26 g2
  obtain ⟨x3, e3, _, w3⟩ := DataW.trod_int Try.underlying26 g3
  simp only [List.cons.injEq, and_true] at e0 e1 e2 e3
  obtain ⟨b, off, e, hlt, hc⟩ := hs k hkn
  refine ⟨b, off, ⟨x0, x1, x2, x3⟩, e, hlt, ⟨bounds_u8 w0, bounds_i64 w1, bounds_u64 w2, bounds_u64 w3⟩, ?_, ?_, ?_, ?_⟩
  · rw [← e0]; simpa using hc 0 (by decide)
  · rw [← e1]; simpa [Nat.add_assoc] using hc 1 (by decide)
  · rw [← e2]; simpa [Nat.add_assoc] using hc 2 (by decide)
  · rw [← e3]; simpa [Nat.add_assoc] using hc 3 (by decide)

end Go.Proofs.Ytlnenndlenckjaa
