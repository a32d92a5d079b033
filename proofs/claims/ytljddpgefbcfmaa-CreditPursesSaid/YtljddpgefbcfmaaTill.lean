/-
  What the functions of package credit, and those of the reference, do to a till, each once.
-/
import Derived.Test.YtljddpgefbcfmaaPurse
namespace Go.Proofs.Ytljddpgefbcfmaa
open Go.RowKit
set_option linter.unusedVariables false
set_option linter.unusedSimpArgs false

/-- The numbers of a till: window, limit, what came, what was taken. -/
def TillOk (win lim came took : Int) : Prop := 0 ≤ win ∧ win ≤ 4611686018427387903 ∧ 0 ≤ took ∧ took ≤ came ∧ came ≤ lim ∧ lim ≤ 4611686018427387903
/-- Is there no news? -/
def quiet (win lim took : Int) : Prop := max (win / 2) 1 ≤ lim - took ∨ mostI (took + win) ≤ lim

/-- The till at block g. -/
def Til (w : World) (g : Nat) (win lim came took : Int) : Prop := Blk w g 58 #[.int .u64 win, .int .u64 lim, .int .u64 came, .int .u64 took] ∧ TillOk win lim came took
section
variable {w w' : World} {g : Nat} {win lim came took : Int}
theorem Til.same (h : Til w g win lim came took) (hb : Below w.heap.size w w') : Til w' g win lim came took := ⟨h.1.same hb, h.2⟩
theorem Til.grown {r : Option Nat} (h : Til w g win lim came took) (hb : w.grownBy w' r) (hr : some g ≠ r) : Til w' g win lim came took := ⟨h.1.grown hb hr, h.2⟩
theorem Til.alloc (h : Til w g win lim came took) (o : Obj) : Til (w.alloc o) g win lim came took := ⟨h.1.alloc o, h.2⟩
theorem Til.drewN (h : Til w g win lim came took) (n : Nat) : Til (w.drewN n) g win lim came took := ⟨h.1, h.2⟩
end

theorem til_came_nil (n : Int) (w : World) : Calls Try.prog 11 #[.pointer none, .int .u64 n] w fun e w' => e = .returned (.int .i64 6) ∧ ∃ k, w.drewN k = w' := by
  go_enter Try.func11, Try.ntmps11
  go_wp2_with (go_at_call 26; refine (most_any _ _).mono ?_; rintro e w2 ⟨rfl, rfl⟩)
  try go_quiet ((go_at_call 26; first | exact quiet_one (most_any _ _) | exact quiet_add (most_any _ _)))
  go_wp2_with (go_at_call 26; refine (most_any _ _).mono ?_; rintro e w2 ⟨rfl, rfl⟩)
  try go_quiet ((go_at_call 26; first | exact quiet_one (most_any _ _) | exact quiet_add (most_any _ _)))
  go_wp2_with (go_at_call 26; refine (most_any _ _).mono ?_; rintro e w2 ⟨rfl, rfl⟩)
  try go_quiet ((go_at_call 26; first | exact quiet_one (most_any _ _) | exact quiet_add (most_any _ _)))
  go_wp2_with (go_at_call 26; refine (most_any _ _).mono ?_; rintro e w2 ⟨rfl, rfl⟩)
  go_ret
  exact ⟨rfl, by first | exact ⟨_, rfl⟩ | exact ⟨0, rfl⟩⟩

theorem til_took_nil (n : Int) (w : World) : Calls Try.prog 13 #[.pointer none, .int .u64 n] w fun e w' => e = .returned (.int .i64 6) ∧ ∃ k, w.drewN k = w' := by
  go_enter Try.func13, Try.ntmps13
  go_wp2_with (go_at_call 26; refine (most_any _ _).mono ?_; rintro e w2 ⟨rfl, rfl⟩)
  try go_quiet ((go_at_call 26; first | exact quiet_one (most_any _ _) | exact quiet_add (most_any _ _)))
  go_wp2_with (go_at_call 26; refine (most_any _ _).mono ?_; rintro e w2 ⟨rfl, rfl⟩)
  try go_quiet ((go_at_call 26; first | exact quiet_one (most_any _ _) | exact quiet_add (most_any _ _)))
  go_wp2_with (go_at_call 26; refine (most_any _ _).mono ?_; rintro e w2 ⟨rfl, rfl⟩)
  try go_quiet ((go_at_call 26; first | exact quiet_one (most_any _ _) | exact quiet_add (most_any _ _)))
  go_wp2_with (go_at_call 26; refine (most_any _ _).mono ?_; rintro e w2 ⟨rfl, rfl⟩)
  go_ret
  exact ⟨rfl, by first | exact ⟨_, rfl⟩ | exact ⟨0, rfl⟩⟩

theorem til_came_no (g : Nat) (win lim came took n : Int) (w : World) (hp : Til w g win lim came took) (hn : lim < n) :
    Calls Try.prog 11 #[.pointer (some ⟨g, 0, none⟩), .int .u64 n] w fun e w' => e = .returned (.int .i64 12) ∧ ∃ k, w.drewN k = w' := by
  obtain ⟨hb, h0, h1, h2, h3, h4, h5⟩ := hp
  have c0 : w.cell? ⟨g, 0, none⟩ = some (.int .u64 win) := hb.cell 0
  have c1 : w.cell? ⟨g, 1, none⟩ = some (.int .u64 lim) := hb.cell 1
  have c2 : w.cell? ⟨g, 2, none⟩ = some (.int .u64 came) := hb.cell 2
  have c3 : w.cell? ⟨g, 3, none⟩ = some (.int .u64 took) := hb.cell 3
  have f1 := hb.frozen 1
  have f2 := hb.frozen 2
  have f3 := hb.frozen 3
  go_enter Try.func11, Try.ntmps11
  go_wp2_with (go_at_call 26; refine (most_any _ _).mono ?_; rintro e w2 ⟨rfl, rfl⟩)
  try go_quiet ((go_at_call 26; first | exact quiet_one (most_any _ _) | exact quiet_add (most_any _ _)))
  go_wp2_with (go_at_call 26; refine (most_any _ _).mono ?_; rintro e w2 ⟨rfl, rfl⟩)
  try go_quiet ((go_at_call 26; first | exact quiet_one (most_any _ _) | exact quiet_add (most_any _ _)))
  go_wp2_with (go_at_call 26; refine (most_any _ _).mono ?_; rintro e w2 ⟨rfl, rfl⟩)
  try go_quiet ((go_at_call 26; first | exact quiet_one (most_any _ _) | exact quiet_add (most_any _ _)))
  go_wp2_with (go_at_call 26; refine (most_any _ _).mono ?_; rintro e w2 ⟨rfl, rfl⟩)
  go_ret
  exact ⟨rfl, by first | exact ⟨_, rfl⟩ | exact ⟨0, rfl⟩⟩

theorem til_came_yes (g : Nat) (win lim came took n : Int) (w : World) (hp : Til w g win lim came took) (h0n : 0 ≤ n) (hn : n ≤ lim) :
    Calls Try.prog 11 #[.pointer (some ⟨g, 0, none⟩), .int .u64 n] w fun e w' => e = .returned (.int .i64 0) ∧ Til w' g win lim (max came n) took ∧ w.grownBy w' (some g) := by
  obtain ⟨hb, h0, h1, h2, h3, h4, h5⟩ := hp
  have c0 : w.cell? ⟨g, 0, none⟩ = some (.int .u64 win) := hb.cell 0
  have c1 : w.cell? ⟨g, 1, none⟩ = some (.int .u64 lim) := hb.cell 1
  have c2 : w.cell? ⟨g, 2, none⟩ = some (.int .u64 came) := hb.cell 2
  have c3 : w.cell? ⟨g, 3, none⟩ = some (.int .u64 took) := hb.cell 3
  have f1 := hb.frozen 1
  have f2 := hb.frozen 2
  have f3 := hb.frozen 3
  by_cases hc : came < n
  · have hx : max came n = n := by omega
    rw [hx]
    clear hx
    go_enter Try.func11, Try.ntmps11
    go_wp2_with (go_at_call 26; refine (most_any _ _).mono ?_; rintro e w2 ⟨rfl, rfl⟩)
    try go_quiet ((go_at_call 26; first | exact quiet_one (most_any _ _) | exact quiet_add (most_any _ _)))
    go_wp2_with (go_at_call 26; refine (most_any _ _).mono ?_; rintro e w2 ⟨rfl, rfl⟩)
    try go_quiet ((go_at_call 26; first | exact quiet_one (most_any _ _) | exact quiet_add (most_any _ _)))
    go_wp2_with (go_at_call 26; refine (most_any _ _).mono ?_; rintro e w2 ⟨rfl, rfl⟩)
    try go_quiet ((go_at_call 26; first | exact quiet_one (most_any _ _) | exact quiet_add (most_any _ _)))
    go_wp2_with (go_at_call 26; refine (most_any _ _).mono ?_; rintro e w2 ⟨rfl, rfl⟩)
    go_ret
    exact ⟨rfl, ⟨by first | exact (hb.drewN _).set_ 2 _ | exact hb.set_ 2 _, by unfold TillOk; omega⟩, by first | exact grown_set (grown_drewN (grown_refl _ _) _) _ _ | exact grown_set (grown_refl _ _) _ _⟩
  · have hx : max came n = came := by omega
    rw [hx]
    clear hx
    go_enter Try.func11, Try.ntmps11
    go_wp2_with (go_at_call 26; refine (most_any _ _).mono ?_; rintro e w2 ⟨rfl, rfl⟩)
    try go_quiet ((go_at_call 26; first | exact quiet_one (most_any _ _) | exact quiet_add (most_any _ _)))
    go_wp2_with (go_at_call 26; refine (most_any _ _).mono ?_; rintro e w2 ⟨rfl, rfl⟩)
    try go_quiet ((go_at_call 26; first | exact quiet_one (most_any _ _) | exact quiet_add (most_any _ _)))
    go_wp2_with (go_at_call 26; refine (most_any _ _).mono ?_; rintro e w2 ⟨rfl, rfl⟩)
    try go_quiet ((go_at_call 26; first | exact quiet_one (most_any _ _) | exact quiet_add (most_any _ _)))
    go_wp2_with (go_at_call 26; refine (most_any _ _).mono ?_; rintro e w2 ⟨rfl, rfl⟩)
    go_ret
    exact ⟨rfl, ⟨by first | exact (hb.drewN _).set_ 2 _ | exact hb.set_ 2 _ | exact hb.drewN _ | exact hb, by unfold TillOk; omega⟩, by first | exact grown_set (grown_drewN (grown_refl _ _) _) _ _ | exact grown_set (grown_refl _ _) _ _ | exact grown_drewN (grown_refl _ _) _ | exact grown_refl _ _⟩

theorem til_took_no (g : Nat) (win lim came took n : Int) (w : World) (hp : Til w g win lim came took) (hn : came - took < n) :
    Calls Try.prog 13 #[.pointer (some ⟨g, 0, none⟩), .int .u64 n] w fun e w' => e = .returned (.int .i64 6) ∧ ∃ k, w.drewN k = w' := by
  obtain ⟨hb, h0, h1, h2, h3, h4, h5⟩ := hp
  have c0 : w.cell? ⟨g, 0, none⟩ = some (.int .u64 win) := hb.cell 0
  have c1 : w.cell? ⟨g, 1, none⟩ = some (.int .u64 lim) := hb.cell 1
  have c2 : w.cell? ⟨g, 2, none⟩ = some (.int .u64 came) := hb.cell 2
  have c3 : w.cell? ⟨g, 3, none⟩ = some (.int .u64 took) := hb.cell 3
  have f1 := hb.frozen 1
  have f2 := hb.frozen 2
  have f3 := hb.frozen 3
  go_enter Try.func13, Try.ntmps13
  go_wp2_with (go_at_call 26; refine (most_any _ _).mono ?_; rintro e w2 ⟨rfl, rfl⟩)
  try go_quiet ((go_at_call 26; first | exact quiet_one (most_any _ _) | exact quiet_add (most_any _ _)))
  go_wp2_with (go_at_call 26; refine (most_any _ _).mono ?_; rintro e w2 ⟨rfl, rfl⟩)
  try go_quiet ((go_at_call 26; first | exact quiet_one (most_any _ _) | exact quiet_add (most_any _ _)))
  go_wp2_with (go_at_call 26; refine (most_any _ _).mono ?_; rintro e w2 ⟨rfl, rfl⟩)
  try go_quiet ((go_at_call 26; first | exact quiet_one (most_any _ _) | exact quiet_add (most_any _ _)))
  go_wp2_with (go_at_call 26; refine (most_any _ _).mono ?_; rintro e w2 ⟨rfl, rfl⟩)
  go_ret
  exact ⟨rfl, by first | exact ⟨_, rfl⟩ | exact ⟨0, rfl⟩⟩

theorem til_took_yes (g : Nat) (win lim came took n : Int) (w : World) (hp : Til w g win lim came took) (h0n : 0 ≤ n) (hn : n ≤ came - took) :
    Calls Try.prog 13 #[.pointer (some ⟨g, 0, none⟩), .int .u64 n] w fun e w' => e = .returned (.int .i64 0) ∧ Til w' g win lim came (took + n) ∧ w.grownBy w' (some g) := by
  obtain ⟨hb, h0, h1, h2, h3, h4, h5⟩ := hp
  have c0 : w.cell? ⟨g, 0, none⟩ = some (.int .u64 win) := hb.cell 0
  have c1 : w.cell? ⟨g, 1, none⟩ = some (.int .u64 lim) := hb.cell 1
  have c2 : w.cell? ⟨g, 2, none⟩ = some (.int .u64 came) := hb.cell 2
  have c3 : w.cell? ⟨g, 3, none⟩ = some (.int .u64 took) := hb.cell 3
  have f1 := hb.frozen 1
  have f2 := hb.frozen 2
  have f3 := hb.frozen 3
  go_enter Try.func13, Try.ntmps13
  go_wp2_with (go_at_call 26; refine (most_any _ _).mono ?_; rintro e w2 ⟨rfl, rfl⟩)
  try go_quiet ((go_at_call 26; first | exact quiet_one (most_any _ _) | exact quiet_add (most_any _ _)))
  go_wp2_with (go_at_call 26; refine (most_any _ _).mono ?_; rintro e w2 ⟨rfl, rfl⟩)
  try go_quiet ((go_at_call 26; first | exact quiet_one (most_any _ _) | exact quiet_add (most_any _ _)))
  go_wp2_with (go_at_call 26; refine (most_any _ _).mono ?_; rintro e w2 ⟨rfl, rfl⟩)
  try go_quiet ((go_at_call 26; first | exact quiet_one (most_any _ _) | exact quiet_add (most_any _ _)))
  go_wp2_with (go_at_call 26; refine (most_any _ _).mono ?_; rintro e w2 ⟨rfl, rfl⟩)
  go_ret
  exact ⟨rfl, ⟨by first | exact (hb.drewN _).set_ 3 _ | exact hb.set_ 3 _, by unfold TillOk; omega⟩, by first | exact grown_set (grown_drewN (grown_refl _ _) _) _ _ | exact grown_set (grown_refl _ _) _ _⟩

theorem til_news_nil (w : World) : Calls Try.prog 15 #[.pointer none] w fun e w' => e = .returned (.tuple #[.int .u64 0, .bool false]) ∧ ∃ k, w.drewN k = w' := by
  go_enter Try.func15, Try.ntmps15
  go_wp2_with (go_at_call 26; refine (most_any _ _).mono ?_; rintro e w2 ⟨rfl, rfl⟩)
  try go_quiet ((go_at_call 26; first | exact quiet_one (most_any _ _) | exact quiet_add (most_any _ _)))
  go_wp2_with (go_at_call 26; refine (most_any _ _).mono ?_; rintro e w2 ⟨rfl, rfl⟩)
  try go_quiet ((go_at_call 26; first | exact quiet_one (most_any _ _) | exact quiet_add (most_any _ _)))
  go_wp2_with (go_at_call 26; refine (most_any _ _).mono ?_; rintro e w2 ⟨rfl, rfl⟩)
  try go_quiet ((go_at_call 26; first | exact quiet_one (most_any _ _) | exact quiet_add (most_any _ _)))
  go_wp2_with (go_at_call 26; refine (most_any _ _).mono ?_; rintro e w2 ⟨rfl, rfl⟩)
  go_ret2
  exact ⟨rfl, by first | exact ⟨_, rfl⟩ | exact ⟨0, rfl⟩⟩

theorem til_news_far (g : Nat) (win lim came took : Int) (w : World) (hp : Til w g win lim came took) (hq : max (win / 2) 1 ≤ lim - took) :
    Calls Try.prog 15 #[.pointer (some ⟨g, 0, none⟩)] w fun e w' => e = .returned (.tuple #[.int .u64 0, .bool false]) ∧ ∃ k, w.drewN k = w' := by
  obtain ⟨hb, h0, h1, h2, h3, h4, h5⟩ := hp
  have c0 : w.cell? ⟨g, 0, none⟩ = some (.int .u64 win) := hb.cell 0
  have c1 : w.cell? ⟨g, 1, none⟩ = some (.int .u64 lim) := hb.cell 1
  have c2 : w.cell? ⟨g, 2, none⟩ = some (.int .u64 came) := hb.cell 2
  have c3 : w.cell? ⟨g, 3, none⟩ = some (.int .u64 took) := hb.cell 3
  have f1 := hb.frozen 1
  have f2 := hb.frozen 2
  have f3 := hb.frozen 3
  have hm := mostI_nn (n := took + win) (by omega)
  have hm1 := mostI_le (took + win)
  by_cases h6 : win / 2 < 1
  · have ha : win / 2 ≤ lim - took := by omega
    have hd : decide (win / 2 ≤ lim - took) = true := by simpa using ha
    have hd1 : decide (1 ≤ lim - took) = true := by simp; omega
    have hd2 : decide (0 < lim - took) = true := by simp; omega
    have ht : 1 ≤ lim - took := by omega
    clear hq
    go_enter Try.func15, Try.ntmps15
    go_wp2_with (go_at_call 26; refine (most_any _ _).mono ?_; rintro e w2 ⟨rfl, rfl⟩)
    try go_quiet ((go_at_call 26; first | exact quiet_one (most_any _ _) | exact quiet_add (most_any _ _)))
    go_wp2_with (go_at_call 26; refine (most_any _ _).mono ?_; rintro e w2 ⟨rfl, rfl⟩)
    try go_quiet ((go_at_call 26; first | exact quiet_one (most_any _ _) | exact quiet_add (most_any _ _)))
    go_wp2_with (go_at_call 26; refine (most_any _ _).mono ?_; rintro e w2 ⟨rfl, rfl⟩)
    try go_quiet ((go_at_call 26; first | exact quiet_one (most_any _ _) | exact quiet_add (most_any _ _)))
    go_wp2_with (go_at_call 26; refine (most_any _ _).mono ?_; rintro e w2 ⟨rfl, rfl⟩)
    go_ret2
    exact ⟨rfl, by first | exact ⟨_, rfl⟩ | exact ⟨0, rfl⟩⟩
  · have h6b : 1 ≤ win / 2 := by omega
    have ht : win / 2 ≤ lim - took := by omega
    have hd : decide (win / 2 ≤ lim - took) = true := by simpa using ht
    have hd2 : decide (0 < lim - took) = true := by simp; omega
    clear hq
    go_enter Try.func15, Try.ntmps15
    go_wp2_with (go_at_call 26; refine (most_any _ _).mono ?_; rintro e w2 ⟨rfl, rfl⟩)
    try go_quiet ((go_at_call 26; first | exact quiet_one (most_any _ _) | exact quiet_add (most_any _ _)))
    go_wp2_with (go_at_call 26; refine (most_any _ _).mono ?_; rintro e w2 ⟨rfl, rfl⟩)
    try go_quiet ((go_at_call 26; first | exact quiet_one (most_any _ _) | exact quiet_add (most_any _ _)))
    go_wp2_with (go_at_call 26; refine (most_any _ _).mono ?_; rintro e w2 ⟨rfl, rfl⟩)
    try go_quiet ((go_at_call 26; first | exact quiet_one (most_any _ _) | exact quiet_add (most_any _ _)))
    go_wp2_with (go_at_call 26; refine (most_any _ _).mono ?_; rintro e w2 ⟨rfl, rfl⟩)
    go_ret2
    exact ⟨rfl, by first | exact ⟨_, rfl⟩ | exact ⟨0, rfl⟩⟩

theorem til_news_no (g : Nat) (win lim came took : Int) (w : World) (hp : Til w g win lim came took) (hq : lim - took < max (win / 2) 1) (hn : mostI (took + win) ≤ lim) :
    Calls Try.prog 15 #[.pointer (some ⟨g, 0, none⟩)] w fun e w' => e = .returned (.tuple #[.int .u64 0, .bool false]) ∧ ∃ k, w.drewN k = w' := by
  obtain ⟨hb, h0, h1, h2, h3, h4, h5⟩ := hp
  have c0 : w.cell? ⟨g, 0, none⟩ = some (.int .u64 win) := hb.cell 0
  have c1 : w.cell? ⟨g, 1, none⟩ = some (.int .u64 lim) := hb.cell 1
  have c2 : w.cell? ⟨g, 2, none⟩ = some (.int .u64 came) := hb.cell 2
  have c3 : w.cell? ⟨g, 3, none⟩ = some (.int .u64 took) := hb.cell 3
  have f1 := hb.frozen 1
  have f2 := hb.frozen 2
  have f3 := hb.frozen 3
  have hm := mostI_nn (n := took + win) (by omega)
  have hm1 := mostI_le (took + win)
  have hd0 : decide (mostI (took + win) ≤ lim) = true := by simpa using hn
  by_cases h6 : win / 2 < 1
  · have ha : win / 2 ≤ lim - took := by omega
    have hd : decide (win / 2 ≤ lim - took) = true := by simpa using ha
    have hd1 : decide (1 ≤ lim - took) = false := by simp; omega
    have hd2 : decide (0 < lim - took) = false := by simp; omega
    have ht : lim - took < 1 := by omega
    clear hq
    go_enter Try.func15, Try.ntmps15
    go_wp2_with (go_at_call 26; refine (most_any _ _).mono ?_; rintro e w2 ⟨rfl, rfl⟩)
    try go_quiet ((go_at_call 26; first | exact quiet_one (most_any _ _) | exact quiet_add (most_any _ _)))
    go_wp2_with (go_at_call 26; refine (most_any _ _).mono ?_; rintro e w2 ⟨rfl, rfl⟩)
    try go_quiet ((go_at_call 26; first | exact quiet_one (most_any _ _) | exact quiet_add (most_any _ _)))
    go_wp2_with (go_at_call 26; refine (most_any _ _).mono ?_; rintro e w2 ⟨rfl, rfl⟩)
    try go_quiet ((go_at_call 26; first | exact quiet_one (most_any _ _) | exact quiet_add (most_any _ _)))
    go_wp2_with (go_at_call 26; refine (most_any _ _).mono ?_; rintro e w2 ⟨rfl, rfl⟩)
    go_ret2
    exact ⟨rfl, by first | exact ⟨_, rfl⟩ | exact ⟨0, rfl⟩⟩
  · have h6b : 1 ≤ win / 2 := by omega
    have ht : lim - took < win / 2 := by omega
    have hd : decide (win / 2 ≤ lim - took) = false := by simpa using ht
    clear hq
    by_cases h7 : 0 < lim - took
    all_goals
      go_enter Try.func15, Try.ntmps15
      go_wp2_with (go_at_call 26; refine (most_any _ _).mono ?_; rintro e w2 ⟨rfl, rfl⟩)
      try go_quiet ((go_at_call 26; first | exact quiet_one (most_any _ _) | exact quiet_add (most_any _ _)))
      go_wp2_with (go_at_call 26; refine (most_any _ _).mono ?_; rintro e w2 ⟨rfl, rfl⟩)
      try go_quiet ((go_at_call 26; first | exact quiet_one (most_any _ _) | exact quiet_add (most_any _ _)))
      go_wp2_with (go_at_call 26; refine (most_any _ _).mono ?_; rintro e w2 ⟨rfl, rfl⟩)
      try go_quiet ((go_at_call 26; first | exact quiet_one (most_any _ _) | exact quiet_add (most_any _ _)))
      go_wp2_with (go_at_call 26; refine (most_any _ _).mono ?_; rintro e w2 ⟨rfl, rfl⟩)
      go_ret2
      exact ⟨rfl, by first | exact ⟨_, rfl⟩ | exact ⟨0, rfl⟩⟩

theorem til_news_yes (g : Nat) (win lim came took : Int) (w : World) (hp : Til w g win lim came took) (hq : lim - took < max (win / 2) 1) (hn : lim < mostI (took + win)) :
    Calls Try.prog 15 #[.pointer (some ⟨g, 0, none⟩)] w fun e w' => e = .returned (.tuple #[.int .u64 (mostI (took + win)), .bool true]) ∧ Til w' g win (mostI (took + win)) came took ∧ w.grownBy w' (some g) := by
  obtain ⟨hb, h0, h1, h2, h3, h4, h5⟩ := hp
  have c0 : w.cell? ⟨g, 0, none⟩ = some (.int .u64 win) := hb.cell 0
  have c1 : w.cell? ⟨g, 1, none⟩ = some (.int .u64 lim) := hb.cell 1
  have c2 : w.cell? ⟨g, 2, none⟩ = some (.int .u64 came) := hb.cell 2
  have c3 : w.cell? ⟨g, 3, none⟩ = some (.int .u64 took) := hb.cell 3
  have f1 := hb.frozen 1
  have f2 := hb.frozen 2
  have f3 := hb.frozen 3
  have hm := mostI_nn (n := took + win) (by omega)
  have hm1 := mostI_le (took + win)
  have hd0 : decide (mostI (took + win) ≤ lim) = false := by simpa using hn
  by_cases h6 : win / 2 < 1
  · have ha : win / 2 ≤ lim - took := by omega
    have hd : decide (win / 2 ≤ lim - took) = true := by simpa using ha
    have hd1 : decide (1 ≤ lim - took) = false := by simp; omega
    have hd2 : decide (0 < lim - took) = false := by simp; omega
    have ht : lim - took < 1 := by omega
    clear hq
    go_enter Try.func15, Try.ntmps15
    go_wp2_with (go_at_call 26; refine (most_any _ _).mono ?_; rintro e w2 ⟨rfl, rfl⟩)
    try go_quiet ((go_at_call 26; first | exact quiet_one (most_any _ _) | exact quiet_add (most_any _ _)))
    go_wp2_with (go_at_call 26; refine (most_any _ _).mono ?_; rintro e w2 ⟨rfl, rfl⟩)
    try go_quiet ((go_at_call 26; first | exact quiet_one (most_any _ _) | exact quiet_add (most_any _ _)))
    go_wp2_with (go_at_call 26; refine (most_any _ _).mono ?_; rintro e w2 ⟨rfl, rfl⟩)
    try go_quiet ((go_at_call 26; first | exact quiet_one (most_any _ _) | exact quiet_add (most_any _ _)))
    go_wp2_with (go_at_call 26; refine (most_any _ _).mono ?_; rintro e w2 ⟨rfl, rfl⟩)
    go_ret2
    exact ⟨rfl, ⟨by first | exact (hb.drewN _).set_ 1 _ | exact hb.set_ 1 _, by unfold TillOk; omega⟩, by first | exact grown_set (grown_drewN (grown_refl _ _) _) _ _ | exact grown_set (grown_refl _ _) _ _⟩
  · have h6b : 1 ≤ win / 2 := by omega
    have ht : lim - took < win / 2 := by omega
    have hd : decide (win / 2 ≤ lim - took) = false := by simpa using ht
    clear hq
    by_cases h7 : 0 < lim - took
    all_goals
      go_enter Try.func15, Try.ntmps15
      go_wp2_with (go_at_call 26; refine (most_any _ _).mono ?_; rintro e w2 ⟨rfl, rfl⟩)
      try go_quiet ((go_at_call 26; first | exact quiet_one (most_any _ _) | exact quiet_add (most_any _ _)))
      go_wp2_with (go_at_call 26; refine (most_any _ _).mono ?_; rintro e w2 ⟨rfl, rfl⟩)
      try go_quiet ((go_at_call 26; first | exact quiet_one (most_any _ _) | exact quiet_add (most_any _ _)))
      go_wp2_with (go_at_call 26; refine (most_any _ _).mono ?_; rintro e w2 ⟨rfl, rfl⟩)
      try go_quiet ((go_at_call 26; first | exact quiet_one (most_any _ _) | exact quiet_add (most_any _ _)))
      go_wp2_with (go_at_call 26; refine (most_any _ _).mono ?_; rintro e w2 ⟨rfl, rfl⟩)
      go_ret2
      exact ⟨rfl, ⟨by first | exact (hb.drewN _).set_ 1 _ | exact hb.set_ 1 _, by unfold TillOk; omega⟩, by first | exact grown_set (grown_drewN (grown_refl _ _) _) _ _ | exact grown_set (grown_refl _ _) _ _⟩

theorem newTill_any (n : Int) (w : World) :
    Calls Try.prog 9 #[.int .u64 n] w fun e w' => e = .returned (.pointer (some ⟨w.heap.size, 0, none⟩)) ∧ w.alloc (.cells #[.int .u64 (mostI n), .int .u64 (mostI n), .int .u64 0, .int .u64 0] 58) = w' := by
  go_enter Try.func9, Try.ntmps9
  go_wp2_with (go_at_call 26; refine (most_any _ _).mono ?_; rintro e w' ⟨rfl, rfl⟩)
  try go_quiet ((go_at_call 26; first | exact quiet_one (most_any _ _) | exact quiet_add (most_any _ _)))
  go_wp2_with (go_at_call 26; refine (most_any _ _).mono ?_; rintro e w' ⟨rfl, rfl⟩)
  go_ret
  exact ⟨rfl, rfl⟩
theorem Til.new (w : World) (n : Int) (h : 0 ≤ n) : Til (w.alloc (.cells #[.int .u64 (mostI n), .int .u64 (mostI n), .int .u64 0, .int .u64 0] 58)) w.heap.size (mostI n) (mostI n) 0 0 :=
  ⟨Blk.new _ _ _, by have := mostI_nn h; have := mostI_le n; unfold TillOk; omega⟩

theorem ttold_nil (w : World) : Calls Try.prog 17 #[.pointer none] w fun e w' => e = .returned (.tuple #[.int .u64 0, .int .u64 0, .int .u64 0]) ∧ w = w' := by
  go_enter Try.func17, Try.ntmps17
  go_wp2
  go_ret3
  exact ⟨rfl, rfl⟩
theorem ttold_any (g : Nat) (win lim came took : Int) (w : World) (hp : Til w g win lim came took) :
    Calls Try.prog 17 #[.pointer (some ⟨g, 0, none⟩)] w fun e w' => e = .returned (.tuple #[.int .u64 lim, .int .u64 came, .int .u64 took]) ∧ ∃ k, w.drewN k = w' := by
  obtain ⟨hb, h0, h1, h2, h3, h4, h5⟩ := hp
  have c0 : w.cell? ⟨g, 0, none⟩ = some (.int .u64 win) := hb.cell 0
  have c1 : w.cell? ⟨g, 1, none⟩ = some (.int .u64 lim) := hb.cell 1
  have c2 : w.cell? ⟨g, 2, none⟩ = some (.int .u64 came) := hb.cell 2
  have c3 : w.cell? ⟨g, 3, none⟩ = some (.int .u64 took) := hb.cell 3
  have f1 := hb.frozen 1
  have f2 := hb.frozen 2
  have f3 := hb.frozen 3
  go_enter Try.func17, Try.ntmps17
  go_wp2_with fail
  go_quiet (fail)
  go_wp2
  go_ret3
  exact ⟨rfl, _, rfl⟩

/-- The document's example. -/
theorem awake_any (w : World) : Calls Try.prog 8 #[] w fun e w' => e = .returned (.bool true) ∧ Below w.heap.size w w' := by
  have m1 : mostI 100 = 100 := by decide
  have m2 : mostI (60 + 100) = 160 := by decide
  have t0 := Til.new w 100 (by omega)
  rw [m1] at t0
  have T0 := Lib.hid t0
  have M1 := Lib.hid m1
  have M2 := Lib.hid m2
  clear t0 m1 m2
  go_enter Try.func8, Try.ntmps8
  go_wp2_with fail
  refine (newTill_any _ _).mono ?_
  rintro e w' ⟨rfl, rfl⟩
  rw [M1.out]
  obtain ⟨W, hW⟩ : ∃ W, W = w.alloc (.cells #[.int .u64 100, .int .u64 100, .int .u64 0, .int .u64 0] 58) := ⟨_, rfl⟩
  have HT : Til W w.heap.size 100 100 0 0 := by rw [hW]; exact T0.out
  have hB : Below w.heap.size w W := by rw [hW]; exact (Below.refl _ _).alloc (Nat.le_refl _) _
  rw [← hW]
  clear hW T0
  go_wp2_with fail
  refine (til_came_yes _ 100 100 0 0 60 _ HT (by omega) (by omega)).mono ?_
  rintro e w1 ⟨rfl, HT1, hg1⟩
  go_wp2_with fail
  refine (til_took_yes _ 100 100 _ 0 60 _ HT1 (by omega) (by omega)).mono ?_
  rintro e w2 ⟨rfl, HT2, hg2⟩
  go_wp2_with fail
  refine (til_news_yes _ 100 100 _ _ _ HT2 (by omega) (by rw [show (0 : Int) + 60 + 100 = 60 + 100 from rfl, M2.out]; omega)).mono ?_
  rintro e w3 ⟨rfl, HT3, hg3⟩
  rw [show mostI (0 + 60 + 100) = 160 from M2.out] at HT3
  rw [show mostI (0 + 60 + 100) = 160 from M2.out]
  go_wp2_with fail
  refine (til_came_no _ 100 160 _ _ 161 _ HT3 (by omega)).mono ?_
  rintro e w4 ⟨rfl, k, rfl⟩
  go_wp2_with fail
  go_ret
  exact ⟨rfl, below_drewN (below_grown (below_grown (below_grown hB hg1 (Nat.le_refl _)) hg2 (Nat.le_refl _)) hg3 (Nat.le_refl _)) _⟩

end Go.Proofs.Ytljddpgefbcfmaa
