/-
  What the functions of package credit do to a purse, each once; and the law's first function 'awake'.
-/
import Derived.Test.YtljddpgefbcfmaaBase
namespace Go.Proofs.Ytljddpgefbcfmaa
open Go.RowKit
set_option linter.unusedVariables false
set_option linter.unusedSimpArgs false

def mostI (n : Int) : Int := min n 4611686018427387903
theorem mostI_le (n : Int) : mostI n ≤ n ∧ mostI n ≤ 4611686018427387903 := by unfold mostI; omega
theorem mostI_nn {n : Int} (h : 0 ≤ n) : 0 ≤ mostI n := by unfold mostI; omega

theorem most_any (n : Int) (w : World) :
    Calls Try.prog 26 #[.int .u64 n] w fun e w' => e = .returned (.int .u64 (mostI n)) ∧ w = w' := by
  by_cases h : n ≤ 4611686018427387903
  · go_enter Try.func26, Try.ntmps26
    go_wp2
    go_ret
    exact ⟨by show _ = Ending.returned (.int .u64 (min n 4611686018427387903)); rw [show min n 4611686018427387903 = n by omega]; rfl, rfl⟩
  · go_enter Try.func26, Try.ntmps26
    go_wp2
    go_ret
    exact ⟨by show _ = Ending.returned (.int .u64 (min n 4611686018427387903)); rw [show min n 4611686018427387903 = 4611686018427387903 by omega]; rfl, rfl⟩

theorem top_any (n : Int) (w : World) :
    Calls Try.prog 10 #[.int .u64 n] w fun e w' => e = .returned (.int .u64 (mostI n)) ∧ w = w' := by
  by_cases h : n ≤ 4611686018427387903
  · go_enter Try.func10, Try.ntmps10
    go_wp2
    go_ret
    exact ⟨by show _ = Ending.returned (.int .u64 (min n 4611686018427387903)); rw [show min n 4611686018427387903 = n by omega]; rfl, rfl⟩
  · go_enter Try.func10, Try.ntmps10
    go_wp2
    go_ret
    exact ⟨by show _ = Ending.returned (.int .u64 (min n 4611686018427387903)); rw [show min n 4611686018427387903 = 4611686018427387903 by omega]; rfl, rfl⟩

theorem newPurse_any (n : Int) (w : World) :
    Calls Try.prog 18 #[.int .u64 n] w fun e w' => e = .returned (.pointer (some ⟨w.heap.size, 0, none⟩)) ∧ w.alloc (.cells #[.int .u64 (mostI n), .int .u64 0] 60) = w' := by
  go_enter Try.func18, Try.ntmps18
  go_wp2_with (go_at_call 26; refine (most_any _ _).mono ?_; rintro e w' ⟨rfl, rfl⟩)
  go_ret
  exact ⟨rfl, rfl⟩

/-- The purse at block g: its limit, what is spent. -/
def Pur (w : World) (g : Nat) (l s : Int) : Prop := Blk w g 60 #[.int .u64 l, .int .u64 s] ∧ 0 ≤ s ∧ s ≤ l ∧ l ≤ 4611686018427387903

theorem Pur.new (w : World) (n : Int) (h : 0 ≤ n) : Pur (w.alloc (.cells #[.int .u64 (mostI n), .int .u64 0] 60)) w.heap.size (mostI n) 0 :=
  ⟨Blk.new _ _ _, Int.le_refl _, mostI_nn h, (mostI_le n).2⟩
theorem Pur.same {w w' : World} {g : Nat} {l s : Int} (h : Pur w g l s) (hb : Below w.heap.size w w') : Pur w' g l s := ⟨h.1.same hb, h.2⟩
theorem Pur.grown {w w' : World} {g : Nat} {l s : Int} {r : Option Nat} (h : Pur w g l s) (hb : w.grownBy w' r) (hr : some g ≠ r) : Pur w' g l s := ⟨h.1.grown hb hr, h.2⟩
theorem Pur.alloc {w : World} {g : Nat} {l s : Int} (h : Pur w g l s) (o : Obj) : Pur (w.alloc o) g l s := ⟨h.1.alloc o, h.2⟩
theorem Pur.drewN {w : World} {g : Nat} {l s : Int} (h : Pur w g l s) (n : Nat) : Pur (w.drewN n) g l s := ⟨h.1, h.2⟩

theorem grant_nil (n : Int) (w : World) :
    Calls Try.prog 19 #[.pointer none, .int .u64 n] w fun e w' => e = .returned (.bool false) ∧ ∃ k, w.drewN k = w' := by
  go_enter Try.func19, Try.ntmps19
  go_wp2_with fail
  go_quiet ((go_at_call 26; exact Calls.quiet_of_same (quiet_left (most_any _ _))))
  go_wp2
  go_ret
  exact ⟨rfl, _, rfl⟩

theorem grant_any (g : Nat) (l s n : Int) (w : World) (hp : Pur w g l s) :
    Calls Try.prog 19 #[.pointer (some ⟨g, 0, none⟩), .int .u64 n] w fun e w' => e = .returned (.bool (decide (l < mostI n))) ∧ Pur w' g (max l (mostI n)) s ∧ w.grownBy w' (some g) := by
  obtain ⟨hb, h0, h1, h2⟩ := hp
  have hm := mostI_le n
  have c0 : w.cell? ⟨g, 0, none⟩ = some (.int .u64 l) := hb.cell 0
  have c1 : w.cell? ⟨g, 1, none⟩ = some (.int .u64 s) := hb.cell 1
  have f0 := hb.frozen 0
  by_cases h : l < mostI n
  · have hd : decide (l < mostI n) = true := by simpa using h
    have hx : max l (mostI n) = mostI n := by omega
    rw [hd, hx]
    clear hx hd
    go_enter Try.func19, Try.ntmps19
    go_wp2_with fail
    go_quiet ((go_at_call 26; exact Calls.quiet_of_same (quiet_left (most_any _ _))))
    go_wp2_with (go_at_call 26; refine (most_any _ _).mono ?_; rintro e w' ⟨rfl, rfl⟩)
    go_ret
    exact ⟨rfl, ⟨(hb.drewN _).set_ 0 _, by omega, by omega, by omega⟩, grown_set (grown_drewN (grown_refl _ _) _) _ _⟩
  · have hd : decide (l < mostI n) = false := by simpa using h
    have hx : max l (mostI n) = l := by omega
    rw [hd, hx]
    clear hx hd
    go_enter Try.func19, Try.ntmps19
    go_wp2_with fail
    go_quiet ((go_at_call 26; exact Calls.quiet_of_same (quiet_left (most_any _ _))))
    go_wp2
    go_ret
    exact ⟨rfl, ⟨(hb.drewN _), by omega, by omega, by omega⟩, grown_drewN (grown_refl _ _) _⟩

theorem left_nil (w : World) : Calls Try.prog 21 #[.pointer none] w fun e w' => e = .returned (.int .u64 0) ∧ w = w' := by
  go_enter Try.func21, Try.ntmps21
  go_wp2
  go_ret
  exact ⟨rfl, rfl⟩

theorem left_any (g : Nat) (l s : Int) (w : World) (hp : Pur w g l s) :
    Calls Try.prog 21 #[.pointer (some ⟨g, 0, none⟩)] w fun e w' => e = .returned (.int .u64 (l - s)) ∧ ∃ k, w.drewN k = w' := by
  obtain ⟨hb, h0, h1, h2⟩ := hp
  have c0 : w.cell? ⟨g, 0, none⟩ = some (.int .u64 l) := hb.cell 0
  have c1 : w.cell? ⟨g, 1, none⟩ = some (.int .u64 s) := hb.cell 1
  go_enter Try.func21, Try.ntmps21
  go_wp2_with fail
  go_quiet (fail)
  go_wp2
  go_ret
  exact ⟨rfl, _, rfl⟩

theorem spend_nil (n : Int) (w : World) : Calls Try.prog 20 #[.pointer none, .int .u64 n] w fun e w' => e = .returned (.int .i64 6) ∧ w = w' := by
  go_enter Try.func20, Try.ntmps20
  go_wp2
  go_ret
  exact ⟨rfl, rfl⟩

theorem spend_no (g : Nat) (l s n : Int) (w : World) (hp : Pur w g l s) (hn : l - s < n) :
    Calls Try.prog 20 #[.pointer (some ⟨g, 0, none⟩), .int .u64 n] w fun e w' => e = .returned (.int .i64 12) ∧ ∃ k, w.drewN k = w' := by
  go_enter Try.func20, Try.ntmps20
  go_wp2_with (go_at_call 21; refine (left_any g l s _ hp).mono ?_; rintro e w' ⟨rfl, k, rfl⟩)
  go_ret
  exact ⟨rfl, _, rfl⟩

theorem spend_yes (g : Nat) (l s n : Int) (w : World) (hp : Pur w g l s) (h0n : 0 ≤ n) (hn : n ≤ l - s) :
    Calls Try.prog 20 #[.pointer (some ⟨g, 0, none⟩), .int .u64 n] w fun e w' => e = .returned (.int .i64 0) ∧ Pur w' g l (s + n) ∧ w.grownBy w' (some g) := by
  obtain ⟨hb, h0, h1, h2⟩ := id hp
  have c0 : w.cell? ⟨g, 0, none⟩ = some (.int .u64 l) := hb.cell 0
  have c1 : w.cell? ⟨g, 1, none⟩ = some (.int .u64 s) := hb.cell 1
  have f1 := hb.frozen 1
  go_enter Try.func20, Try.ntmps20
  go_wp2_with (go_at_call 21; refine (left_any g l s _ hp).mono ?_; rintro e w' ⟨rfl, k, rfl⟩)
  go_ret
  exact ⟨rfl, ⟨(hb.drewN _).set_ 1 _, by omega, by omega, by omega⟩, grown_set (grown_drewN (grown_refl _ _) _) _ _⟩

theorem ptold_nil (w : World) : Calls Try.prog 24 #[.pointer none] w fun e w' => e = .returned (.tuple #[.int .u64 0, .int .u64 0]) ∧ w = w' := by
  go_enter Try.func24, Try.ntmps24
  go_wp2
  go_ret2
  exact ⟨rfl, rfl⟩

theorem ptold_any (g : Nat) (l s : Int) (w : World) (hp : Pur w g l s) :
    Calls Try.prog 24 #[.pointer (some ⟨g, 0, none⟩)] w fun e w' => e = .returned (.tuple #[.int .u64 l, .int .u64 s]) ∧ ∃ k, w.drewN k = w' := by
  obtain ⟨hb, h0, h1, h2⟩ := hp
  have c0 : w.cell? ⟨g, 0, none⟩ = some (.int .u64 l) := hb.cell 0
  have c1 : w.cell? ⟨g, 1, none⟩ = some (.int .u64 s) := hb.cell 1
  go_enter Try.func24, Try.ntmps24
  go_wp2_with fail
  go_quiet (fail)
  go_wp2
  go_ret2
  exact ⟨rfl, _, rfl⟩

end Go.Proofs.Ytljddpgefbcfmaa
