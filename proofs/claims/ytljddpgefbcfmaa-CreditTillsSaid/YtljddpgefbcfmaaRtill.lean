/-
  What the functions of package credit, and those of the reference, do to a till, each once.
-/
import Derived.Test.YtljddpgefbcfmaaTill
namespace Go.Proofs.Ytljddpgefbcfmaa
open Go.RowKit
set_option linter.unusedVariables false
set_option linter.unusedSimpArgs false


/-- The till at block g. -/
def Rtl (w : World) (g : Nat) (win lim came took : Int) : Prop := Blk w g 30 #[.int .u64 win, .int .u64 lim, .int .u64 came, .int .u64 took] ∧ TillOk win lim came took
section
variable {w w' : World} {g : Nat} {win lim came took : Int}
theorem Rtl.same (h : Rtl w g win lim came took) (hb : Below w.heap.size w w') : Rtl w' g win lim came took := ⟨h.1.same hb, h.2⟩
theorem Rtl.grown {r : Option Nat} (h : Rtl w g win lim came took) (hb : w.grownBy w' r) (hr : some g ≠ r) : Rtl w' g win lim came took := ⟨h.1.grown hb hr, h.2⟩
theorem Rtl.alloc (h : Rtl w g win lim came took) (o : Obj) : Rtl (w.alloc o) g win lim came took := ⟨h.1.alloc o, h.2⟩
theorem Rtl.drewN (h : Rtl w g win lim came took) (n : Nat) : Rtl (w.drewN n) g win lim came took := ⟨h.1, h.2⟩
end

theorem rtl_came_nil (n : Int) (w : World) : Calls Try.prog 12 #[.pointer none, .int .u64 n] w fun e w' => e = .returned (.int .i64 6) ∧ ∃ k, w.drewN k = w' := by
  go_enter Try.func12, Try.ntmps12
  go_wp2_with (go_at_call 10; refine (top_any _ _).mono ?_; rintro e w2 ⟨rfl, rfl⟩)
  try go_quiet ((go_at_call 10; first | exact quiet_one (top_any _ _) | exact quiet_add (top_any _ _)))
  go_wp2_with (go_at_call 10; refine (top_any _ _).mono ?_; rintro e w2 ⟨rfl, rfl⟩)
  try go_quiet ((go_at_call 10; first | exact quiet_one (top_any _ _) | exact quiet_add (top_any _ _)))
  go_wp2_with (go_at_call 10; refine (top_any _ _).mono ?_; rintro e w2 ⟨rfl, rfl⟩)
  try go_quiet ((go_at_call 10; first | exact quiet_one (top_any _ _) | exact quiet_add (top_any _ _)))
  go_wp2_with (go_at_call 10; refine (top_any _ _).mono ?_; rintro e w2 ⟨rfl, rfl⟩)
  go_ret
  exact ⟨rfl, by first | exact ⟨_, rfl⟩ | exact ⟨0, rfl⟩⟩

theorem rtl_took_nil (n : Int) (w : World) : Calls Try.prog 14 #[.pointer none, .int .u64 n] w fun e w' => e = .returned (.int .i64 6) ∧ ∃ k, w.drewN k = w' := by
  go_enter Try.func14, Try.ntmps14
  go_wp2_with (go_at_call 10; refine (top_any _ _).mono ?_; rintro e w2 ⟨rfl, rfl⟩)
  try go_quiet ((go_at_call 10; first | exact quiet_one (top_any _ _) | exact quiet_add (top_any _ _)))
  go_wp2_with (go_at_call 10; refine (top_any _ _).mono ?_; rintro e w2 ⟨rfl, rfl⟩)
  try go_quiet ((go_at_call 10; first | exact quiet_one (top_any _ _) | exact quiet_add (top_any _ _)))
  go_wp2_with (go_at_call 10; refine (top_any _ _).mono ?_; rintro e w2 ⟨rfl, rfl⟩)
  try go_quiet ((go_at_call 10; first | exact quiet_one (top_any _ _) | exact quiet_add (top_any _ _)))
  go_wp2_with (go_at_call 10; refine (top_any _ _).mono ?_; rintro e w2 ⟨rfl, rfl⟩)
  go_ret
  exact ⟨rfl, by first | exact ⟨_, rfl⟩ | exact ⟨0, rfl⟩⟩

theorem rtl_came_no (g : Nat) (win lim came took n : Int) (w : World) (hp : Rtl w g win lim came took) (hn : lim < n) :
    Calls Try.prog 12 #[.pointer (some ⟨g, 0, none⟩), .int .u64 n] w fun e w' => e = .returned (.int .i64 12) ∧ ∃ k, w.drewN k = w' := by
  obtain ⟨hb, h0, h1, h2, h3, h4, h5⟩ := hp
  have c0 : w.cell? ⟨g, 0, none⟩ = some (.int .u64 win) := hb.cell 0
  have c1 : w.cell? ⟨g, 1, none⟩ = some (.int .u64 lim) := hb.cell 1
  have c2 : w.cell? ⟨g, 2, none⟩ = some (.int .u64 came) := hb.cell 2
  have c3 : w.cell? ⟨g, 3, none⟩ = some (.int .u64 took) := hb.cell 3
  have f1 := hb.frozen 1
  have f2 := hb.frozen 2
  have f3 := hb.frozen 3
  go_enter Try.func12, Try.ntmps12
  go_wp2_with (go_at_call 10; refine (top_any _ _).mono ?_; rintro e w2 ⟨rfl, rfl⟩)
  try go_quiet ((go_at_call 10; first | exact quiet_one (top_any _ _) | exact quiet_add (top_any _ _)))
  go_wp2_with (go_at_call 10; refine (top_any _ _).mono ?_; rintro e w2 ⟨rfl, rfl⟩)
  try go_quiet ((go_at_call 10; first | exact quiet_one (top_any _ _) | exact quiet_add (top_any _ _)))
  go_wp2_with (go_at_call 10; refine (top_any _ _).mono ?_; rintro e w2 ⟨rfl, rfl⟩)
  try go_quiet ((go_at_call 10; first | exact quiet_one (top_any _ _) | exact quiet_add (top_any _ _)))
  go_wp2_with (go_at_call 10; refine (top_any _ _).mono ?_; rintro e w2 ⟨rfl, rfl⟩)
  go_ret
  exact ⟨rfl, by first | exact ⟨_, rfl⟩ | exact ⟨0, rfl⟩⟩

theorem rtl_came_yes (g : Nat) (win lim came took n : Int) (w : World) (hp : Rtl w g win lim came took) (h0n : 0 ≤ n) (hn : n ≤ lim) :
    Calls Try.prog 12 #[.pointer (some ⟨g, 0, none⟩), .int .u64 n] w fun e w' => e = .returned (.int .i64 0) ∧ Rtl w' g win lim (max came n) took ∧ w.grownBy w' (some g) := by
  obtain ⟨hb, h0, h1, h2, h3, h4, h5⟩ := hp
  have c0 : w.cell? ⟨g, 0, none⟩ = some (.int .u64 win) := hb.cell 0
  have c1 : w.cell? ⟨g, 1, none⟩ = some (.int .u64 lim) := hb.cell 1
  have c2 : w.cell? ⟨g, 2, none⟩ = some (.int .u64 came) := hb.cell 2
  have c3 : w.cell? ⟨g, 3, none⟩ = some (.int .u64 took) := hb.cell 3
  have f1 := hb.frozen 1
  have f2 := hb.frozen 2
  have f3 := hb.frozen 3
  by_cases hc : came < n
  · have hx : max came n = n := by omega
    rw [hx]
    clear hx
    go_enter Try.func12, Try.ntmps12
    go_wp2_with (go_at_call 10; refine (top_any _ _).mono ?_; rintro e w2 ⟨rfl, rfl⟩)
    try go_quiet ((go_at_call 10; first | exact quiet_one (top_any _ _) | exact quiet_add (top_any _ _)))
    go_wp2_with (go_at_call 10; refine (top_any _ _).mono ?_; rintro e w2 ⟨rfl, rfl⟩)
    try go_quiet ((go_at_call 10; first | exact quiet_one (top_any _ _) | exact quiet_add (top_any _ _)))
    go_wp2_with (go_at_call 10; refine (top_any _ _).mono ?_; rintro e w2 ⟨rfl, rfl⟩)
    try go_quiet ((go_at_call 10; first | exact quiet_one (top_any _ _) | exact quiet_add (top_any _ _)))
    go_wp2_with (go_at_call 10; refine (top_any _ _).mono ?_; rintro e w2 ⟨rfl, rfl⟩)
    go_ret
    exact ⟨rfl, ⟨by first | exact (hb.drewN _).set_ 2 _ | exact hb.set_ 2 _, by unfold TillOk; omega⟩, by first | exact grown_set (grown_drewN (grown_refl _ _) _) _ _ | exact grown_set (grown_refl _ _) _ _⟩
  · have hx : max came n = came := by omega
    rw [hx]
    clear hx
    go_enter Try.func12, Try.ntmps12
    go_wp2_with (go_at_call 10; refine (top_any _ _).mono ?_; rintro e w2 ⟨rfl, rfl⟩)
    try go_quiet ((go_at_call 10; first | exact quiet_one (top_any _ _) | exact quiet_add (top_any _ _)))
    go_wp2_with (go_at_call 10; refine (top_any _ _).mono ?_; rintro e w2 ⟨rfl, rfl⟩)
    try go_quiet ((go_at_call 10; first | exact quiet_one (top_any _ _) | exact quiet_add (top_any _ _)))
    go_wp2_with (go_at_call 10; refine (top_any _ _).mono ?_; rintro e w2 ⟨rfl, rfl⟩)
    try go_quiet ((go_at_call 10; first | exact quiet_one (top_any _ _) | exact quiet_add (top_any _ _)))
    go_wp2_with (go_at_call 10; refine (top_any _ _).mono ?_; rintro e w2 ⟨rfl, rfl⟩)
    go_ret
    exact ⟨rfl, ⟨by first | exact (hb.drewN _).set_ 2 _ | exact hb.set_ 2 _ | exact hb.drewN _ | exact hb, by unfold TillOk; omega⟩, by first | exact grown_set (grown_drewN (grown_refl _ _) _) _ _ | exact grown_set (grown_refl _ _) _ _ | exact grown_drewN (grown_refl _ _) _ | exact grown_refl _ _⟩

theorem rtl_took_no (g : Nat) (win lim came took n : Int) (w : World) (hp : Rtl w g win lim came took) (hn : came - took < n) :
    Calls Try.prog 14 #[.pointer (some ⟨g, 0, none⟩), .int .u64 n] w fun e w' => e = .returned (.int .i64 6) ∧ ∃ k, w.drewN k = w' := by
  obtain ⟨hb, h0, h1, h2, h3, h4, h5⟩ := hp
  have c0 : w.cell? ⟨g, 0, none⟩ = some (.int .u64 win) := hb.cell 0
  have c1 : w.cell? ⟨g, 1, none⟩ = some (.int .u64 lim) := hb.cell 1
  have c2 : w.cell? ⟨g, 2, none⟩ = some (.int .u64 came) := hb.cell 2
  have c3 : w.cell? ⟨g, 3, none⟩ = some (.int .u64 took) := hb.cell 3
  have f1 := hb.frozen 1
  have f2 := hb.frozen 2
  have f3 := hb.frozen 3
  go_enter Try.func14, Try.ntmps14
  go_wp2_with (go_at_call 10; refine (top_any _ _).mono ?_; rintro e w2 ⟨rfl, rfl⟩)
  try go_quiet ((go_at_call 10; first | exact quiet_one (top_any _ _) | exact quiet_add (top_any _ _)))
  go_wp2_with (go_at_call 10; refine (top_any _ _).mono ?_; rintro e w2 ⟨rfl, rfl⟩)
  try go_quiet ((go_at_call 10; first | exact quiet_one (top_any _ _) | exact quiet_add (top_any _ _)))
  go_wp2_with (go_at_call 10; refine (top_any _ _).mono ?_; rintro e w2 ⟨rfl, rfl⟩)
  try go_quiet ((go_at_call 10; first | exact quiet_one (top_any _ _) | exact quiet_add (top_any _ _)))
  go_wp2_with (go_at_call 10; refine (top_any _ _).mono ?_; rintro e w2 ⟨rfl, rfl⟩)
  go_ret
  exact ⟨rfl, by first | exact ⟨_, rfl⟩ | exact ⟨0, rfl⟩⟩

theorem rtl_took_yes (g : Nat) (win lim came took n : Int) (w : World) (hp : Rtl w g win lim came took) (h0n : 0 ≤ n) (hn : n ≤ came - took) :
    Calls Try.prog 14 #[.pointer (some ⟨g, 0, none⟩), .int .u64 n] w fun e w' => e = .returned (.int .i64 0) ∧ Rtl w' g win lim came (took + n) ∧ w.grownBy w' (some g) := by
  obtain ⟨hb, h0, h1, h2, h3, h4, h5⟩ := hp
  have c0 : w.cell? ⟨g, 0, none⟩ = some (.int .u64 win) := hb.cell 0
  have c1 : w.cell? ⟨g, 1, none⟩ = some (.int .u64 lim) := hb.cell 1
  have c2 : w.cell? ⟨g, 2, none⟩ = some (.int .u64 came) := hb.cell 2
  have c3 : w.cell? ⟨g, 3, none⟩ = some (.int .u64 took) := hb.cell 3
  have f1 := hb.frozen 1
  have f2 := hb.frozen 2
  have f3 := hb.frozen 3
  go_enter Try.func14, Try.ntmps14
  go_wp2_with (go_at_call 10; refine (top_any _ _).mono ?_; rintro e w2 ⟨rfl, rfl⟩)
  try go_quiet ((go_at_call 10; first | exact quiet_one (top_any _ _) | exact quiet_add (top_any _ _)))
  go_wp2_with (go_at_call 10; refine (top_any _ _).mono ?_; rintro e w2 ⟨rfl, rfl⟩)
  try go_quiet ((go_at_call 10; first | exact quiet_one (top_any _ _) | exact quiet_add (top_any _ _)))
  go_wp2_with (go_at_call 10; refine (top_any _ _).mono ?_; rintro e w2 ⟨rfl, rfl⟩)
  try go_quiet ((go_at_call 10; first | exact quiet_one (top_any _ _) | exact quiet_add (top_any _ _)))
  go_wp2_with (go_at_call 10; refine (top_any _ _).mono ?_; rintro e w2 ⟨rfl, rfl⟩)
  go_ret
  exact ⟨rfl, ⟨by first | exact (hb.drewN _).set_ 3 _ | exact hb.set_ 3 _, by unfold TillOk; omega⟩, by first | exact grown_set (grown_drewN (grown_refl _ _) _) _ _ | exact grown_set (grown_refl _ _) _ _⟩

theorem rtl_news_nil (w : World) : Calls Try.prog 16 #[.pointer none] w fun e w' => e = .returned (.tuple #[.int .u64 0, .bool false]) ∧ ∃ k, w.drewN k = w' := by
  go_enter Try.func16, Try.ntmps16
  go_wp2_with (go_at_call 10; refine (top_any _ _).mono ?_; rintro e w2 ⟨rfl, rfl⟩)
  try go_quiet ((go_at_call 10; first | exact quiet_one (top_any _ _) | exact quiet_add (top_any _ _)))
  go_wp2_with (go_at_call 10; refine (top_any _ _).mono ?_; rintro e w2 ⟨rfl, rfl⟩)
  try go_quiet ((go_at_call 10; first | exact quiet_one (top_any _ _) | exact quiet_add (top_any _ _)))
  go_wp2_with (go_at_call 10; refine (top_any _ _).mono ?_; rintro e w2 ⟨rfl, rfl⟩)
  try go_quiet ((go_at_call 10; first | exact quiet_one (top_any _ _) | exact quiet_add (top_any _ _)))
  go_wp2_with (go_at_call 10; refine (top_any _ _).mono ?_; rintro e w2 ⟨rfl, rfl⟩)
  go_ret2
  exact ⟨rfl, by first | exact ⟨_, rfl⟩ | exact ⟨0, rfl⟩⟩

theorem rtl_news_far (g : Nat) (win lim came took : Int) (w : World) (hp : Rtl w g win lim came took) (hq : max (win / 2) 1 ≤ lim - took) :
    Calls Try.prog 16 #[.pointer (some ⟨g, 0, none⟩)] w fun e w' => e = .returned (.tuple #[.int .u64 0, .bool false]) ∧ ∃ k, w.drewN k = w' := by
  obtain ⟨hb, h0, h1, h2, h3, h4, h5⟩ := hp
  have c0 : w.cell? ⟨g, 0, none⟩ = some (.int .u64 win) := hb.cell 0
  have c1 : w.cell? ⟨g, 1, none⟩ = some (.int .u64 lim) := hb.cell 1
  have c2 : w.cell? ⟨g, 2, none⟩ = some (.int .u64 came) := hb.cell 2
  have c3 : w.cell? ⟨g, 3, none⟩ = some (.int .u64 took) := hb.cell 3
  have f1 := hb.frozen 1
  have f2 := hb.frozen 2
  have f3 := hb.frozen 3
  have hm := mostI_nn (n := took + win) (by omega)
  have hm1 := mostI_le (took + win)
  by_cases h6 : win / 2 < 1
  · have ha : win / 2 ≤ lim - took := by omega
    have hd : decide (win / 2 ≤ lim - took) = true := by simpa using ha
    have hd1 : decide (1 ≤ lim - took) = true := by simp; omega
    have hd2 : decide (0 < lim - took) = true := by simp; omega
    have ht : 1 ≤ lim - took := by omega
    clear hq
    go_enter Try.func16, Try.ntmps16
    go_wp2_with (go_at_call 10; refine (top_any _ _).mono ?_; rintro e w2 ⟨rfl, rfl⟩)
    try go_quiet ((go_at_call 10; first | exact quiet_one (top_any _ _) | exact quiet_add (top_any _ _)))
    go_wp2_with (go_at_call 10; refine (top_any _ _).mono ?_; rintro e w2 ⟨rfl, rfl⟩)
    try go_quiet ((go_at_call 10; first | exact quiet_one (top_any _ _) | exact quiet_add (top_any _ _)))
    go_wp2_with (go_at_call 10; refine (top_any _ _).mono ?_; rintro e w2 ⟨rfl, rfl⟩)
    try go_quiet ((go_at_call 10; first | exact quiet_one (top_any _ _) | exact quiet_add (top_any _ _)))
    go_wp2_with (go_at_call 10; refine (top_any _ _).mono ?_; rintro e w2 ⟨rfl, rfl⟩)
    go_ret2
    exact ⟨rfl, by first | exact ⟨_, rfl⟩ | exact ⟨0, rfl⟩⟩
  · have h6b : 1 ≤ win / 2 := by omega
    have ht : win / 2 ≤ lim - took := by omega
    have hd : decide (win / 2 ≤ lim - took) = true := by simpa using ht
    have hd2 : decide (0 < lim - took) = true := by simp; omega
    clear hq
    go_enter Try.func16, Try.ntmps16
    go_wp2_with (go_at_call 10; refine (top_any _ _).mono ?_; rintro e w2 ⟨rfl, rfl⟩)
    try go_quiet ((go_at_call 10; first | exact quiet_one (top_any _ _) | exact quiet_add (top_any _ _)))
    go_wp2_with (go_at_call 10; refine (top_any _ _).mono ?_; rintro e w2 ⟨rfl, rfl⟩)
    try go_quiet ((go_at_call 10; first | exact quiet_one (top_any _ _) | exact quiet_add (top_any _ _)))
    go_wp2_with (go_at_call 10; refine (top_any _ _).mono ?_; rintro e w2 ⟨rfl, rfl⟩)
    try go_quiet ((go_at_call 10; first | exact quiet_one (top_any _ _) | exact quiet_add (top_any _ _)))
    go_wp2_with (go_at_call 10; refine (top_any _ _).mono ?_; rintro e w2 ⟨rfl, rfl⟩)
    go_ret2
    exact ⟨rfl, by first | exact ⟨_, rfl⟩ | exact ⟨0, rfl⟩⟩

theorem rtl_news_no (g : Nat) (win lim came took : Int) (w : World) (hp : Rtl w g win lim came took) (hq : lim - took < max (win / 2) 1) (hn : mostI (took + win) ≤ lim) :
    Calls Try.prog 16 #[.pointer (some ⟨g, 0, none⟩)] w fun e w' => e = .returned (.tuple #[.int .u64 0, .bool false]) ∧ ∃ k, w.drewN k = w' := by
  obtain ⟨hb, h0, h1, h2, h3, h4, h5⟩ := hp
  have c0 : w.cell? ⟨g, 0, none⟩ = some (.int .u64 win) := hb.cell 0
  have c1 : w.cell? ⟨g, 1, none⟩ = some (.int .u64 lim) := hb.cell 1
  have c2 : w.cell? ⟨g, 2, none⟩ = some (.int .u64 came) := hb.cell 2
  have c3 : w.cell? ⟨g, 3, none⟩ = some (.int .u64 took) := hb.cell 3
  have f1 := hb.frozen 1
  have f2 := hb.frozen 2
  have f3 := hb.frozen 3
  have hm := mostI_nn (n := took + win) (by omega)
  have hm1 := mostI_le (took + win)
  have hd0 : decide (mostI (took + win) ≤ lim) = true := by simpa using hn
  by_cases h6 : win / 2 < 1
  · have ha : win / 2 ≤ lim - took := by omega
    have hd : decide (win / 2 ≤ lim - took) = true := by simpa using ha
    have hd1 : decide (1 ≤ lim - took) = false := by simp; omega
    have hd2 : decide (0 < lim - took) = false := by simp; omega
    have ht : lim - took < 1 := by omega
    clear hq
    go_enter Try.func16, Try.ntmps16
    go_wp2_with (go_at_call 10; refine (top_any _ _).mono ?_; rintro e w2 ⟨rfl, rfl⟩)
    try go_quiet ((go_at_call 10; first | exact quiet_one (top_any _ _) | exact quiet_add (top_any _ _)))
    go_wp2_with (go_at_call 10; refine (top_any _ _).mono ?_; rintro e w2 ⟨rfl, rfl⟩)
    try go_quiet ((go_at_call 10; first | exact quiet_one (top_any _ _) | exact quiet_add (top_any _ _)))
    go_wp2_with (go_at_call 10; refine (top_any _ _).mono ?_; rintro e w2 ⟨rfl, rfl⟩)
    try go_quiet ((go_at_call 10; first | exact quiet_one (top_any _ _) | exact quiet_add (top_any _ _)))
    go_wp2_with (go_at_call 10; refine (top_any _ _).mono ?_; rintro e w2 ⟨rfl, rfl⟩)
    go_ret2
    exact ⟨rfl, by first | exact ⟨_, rfl⟩ | exact ⟨0, rfl⟩⟩
  · have h6b : 1 ≤ win / 2 := by omega
    have ht : lim - took < win / 2 := by omega
    have hd : decide (win / 2 ≤ lim - took) = false := by simpa using ht
    clear hq
    by_cases h7 : 0 < lim - took
    all_goals
      go_enter Try.func16, Try.ntmps16
      go_wp2_with (go_at_call 10; refine (top_any _ _).mono ?_; rintro e w2 ⟨rfl, rfl⟩)
      try go_quiet ((go_at_call 10; first | exact quiet_one (top_any _ _) | exact quiet_add (top_any _ _)))
      go_wp2_with (go_at_call 10; refine (top_any _ _).mono ?_; rintro e w2 ⟨rfl, rfl⟩)
      try go_quiet ((go_at_call 10; first | exact quiet_one (top_any _ _) | exact quiet_add (top_any _ _)))
      go_wp2_with (go_at_call 10; refine (top_any _ _).mono ?_; rintro e w2 ⟨rfl, rfl⟩)
      try go_quiet ((go_at_call 10; first | exact quiet_one (top_any _ _) | exact quiet_add (top_any _ _)))
      go_wp2_with (go_at_call 10; refine (top_any _ _).mono ?_; rintro e w2 ⟨rfl, rfl⟩)
      go_ret2
      exact ⟨rfl, by first | exact ⟨_, rfl⟩ | exact ⟨0, rfl⟩⟩

theorem rtl_news_yes (g : Nat) (win lim came took : Int) (w : World) (hp : Rtl w g win lim came took) (hq : lim - took < max (win / 2) 1) (hn : lim < mostI (took + win)) :
    Calls Try.prog 16 #[.pointer (some ⟨g, 0, none⟩)] w fun e w' => e = .returned (.tuple #[.int .u64 (mostI (took + win)), .bool true]) ∧ Rtl w' g win (mostI (took + win)) came took ∧ w.grownBy w' (some g) := by
  obtain ⟨hb, h0, h1, h2, h3, h4, h5⟩ := hp
  have c0 : w.cell? ⟨g, 0, none⟩ = some (.int .u64 win) := hb.cell 0
  have c1 : w.cell? ⟨g, 1, none⟩ = some (.int .u64 lim) := hb.cell 1
  have c2 : w.cell? ⟨g, 2, none⟩ = some (.int .u64 came) := hb.cell 2
  have c3 : w.cell? ⟨g, 3, none⟩ = some (.int .u64 took) := hb.cell 3
  have f1 := hb.frozen 1
  have f2 := hb.frozen 2
  have f3 := hb.frozen 3
  have hm := mostI_nn (n := took + win) (by omega)
  have hm1 := mostI_le (took + win)
  have hd0 : decide (mostI (took + win) ≤ lim) = false := by simpa using hn
  by_cases h6 : win / 2 < 1
  · have ha : win / 2 ≤ lim - took := by omega
    have hd : decide (win / 2 ≤ lim - took) = true := by simpa using ha
    have hd1 : decide (1 ≤ lim - took) = false := by simp; omega
    have hd2 : decide (0 < lim - took) = false := by simp; omega
    have ht : lim - took < 1 := by omega
    clear hq
    go_enter Try.func16, Try.ntmps16
    go_wp2_with (go_at_call 10; refine (top_any _ _).mono ?_; rintro e w2 ⟨rfl, rfl⟩)
    try go_quiet ((go_at_call 10; first | exact quiet_one (top_any _ _) | exact quiet_add (top_any _ _)))
    go_wp2_with (go_at_call 10; refine (top_any _ _).mono ?_; rintro e w2 ⟨rfl, rfl⟩)
    try go_quiet ((go_at_call 10; first | exact quiet_one (top_any _ _) | exact quiet_add (top_any _ _)))
    go_wp2_with (go_at_call 10; refine (top_any _ _).mono ?_; rintro e w2 ⟨rfl, rfl⟩)
    try go_quiet ((go_at_call 10; first | exact quiet_one (top_any _ _) | exact quiet_add (top_any _ _)))
    go_wp2_with (go_at_call 10; refine (top_any _ _).mono ?_; rintro e w2 ⟨rfl, rfl⟩)
    go_ret2
    exact ⟨rfl, ⟨by first | exact (hb.drewN _).set_ 1 _ | exact hb.set_ 1 _, by unfold TillOk; omega⟩, by first | exact grown_set (grown_drewN (grown_refl _ _) _) _ _ | exact grown_set (grown_refl _ _) _ _⟩
  · have h6b : 1 ≤ win / 2 := by omega
    have ht : lim - took < win / 2 := by omega
    have hd : decide (win / 2 ≤ lim - took) = false := by simpa using ht
    clear hq
    by_cases h7 : 0 < lim - took
    all_goals
      go_enter Try.func16, Try.ntmps16
      go_wp2_with (go_at_call 10; refine (top_any _ _).mono ?_; rintro e w2 ⟨rfl, rfl⟩)
      try go_quiet ((go_at_call 10; first | exact quiet_one (top_any _ _) | exact quiet_add (top_any _ _)))
      go_wp2_with (go_at_call 10; refine (top_any _ _).mono ?_; rintro e w2 ⟨rfl, rfl⟩)
      try go_quiet ((go_at_call 10; first | exact quiet_one (top_any _ _) | exact quiet_add (top_any _ _)))
      go_wp2_with (go_at_call 10; refine (top_any _ _).mono ?_; rintro e w2 ⟨rfl, rfl⟩)
      try go_quiet ((go_at_call 10; first | exact quiet_one (top_any _ _) | exact quiet_add (top_any _ _)))
      go_wp2_with (go_at_call 10; refine (top_any _ _).mono ?_; rintro e w2 ⟨rfl, rfl⟩)
      go_ret2
      exact ⟨rfl, ⟨by first | exact (hb.drewN _).set_ 1 _ | exact hb.set_ 1 _, by unfold TillOk; omega⟩, by first | exact grown_set (grown_drewN (grown_refl _ _) _) _ _ | exact grown_set (grown_refl _ _) _ _⟩

end Go.Proofs.Ytljddpgefbcfmaa
