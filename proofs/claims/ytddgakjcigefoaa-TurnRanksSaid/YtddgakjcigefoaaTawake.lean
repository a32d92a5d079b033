/-
  What Rank does, of the program and of the reference; the document's examples.
-/
import Derived.Test.YtddgakjcigefoaaTlate
namespace Go.Proofs.Ytddgakjcigefoaa
open Go.RowKit
set_option linter.unusedVariables false
set_option linter.unusedSimpArgs false


/-- What goes first. -/
def rankI (o g : Int) : Int := if o = 2 then 4611686018427387903 - min g 4611686018427387903 else g
theorem rankI_ok (o g : Int) (h : 0 ≤ g ∧ g ≤ 18446744073709551615) : 0 ≤ rankI o g ∧ rankI o g ≤ 18446744073709551615 := by
  unfold rankI
  by_cases ho : o = 2
  · rw [if_pos ho]; omega
  · rw [if_neg ho]; exact h

theorem rank_any (a b o g : Int) (w : World) (ha : 0 ≤ a ∧ a ≤ 255) (hb : 0 ≤ b ∧ b ≤ 255) (hg : 0 ≤ g ∧ g ≤ 18446744073709551615) :
    Calls Try.prog 11 #[.int .u8 a, .int .u8 b, .int .u8 o, .int .u64 g] w fun e w' => e = .returned (.agg #[.int .u64 a, .int .u64 b, .int .u64 (rankI o g)]) ∧ Below w.heap.size w w' := by
  by_cases ho : o = 2
  · have hb1 : (o == 2) = true := by simpa using ho
    by_cases hm : 4611686018427387903 < g
    · have hr : rankI o g = 0 := by unfold rankI; rw [if_pos ho]; omega
      rw [hr]
      subst ho
      clear hr
      go_enter Try.func11, Try.ntmps11
      go_wp2
      exact bodyPost_ret (v := .agg #[.int .u64 a, .int .u64 b, .int .u64 0]) (by simp [results, Try.results11, go_sem]) rfl ⟨rfl, (Below.refl _ _).alloc (Nat.le_refl _) _⟩
    · have hr : rankI o g = 4611686018427387903 - g := by unfold rankI; rw [if_pos ho]; omega
      rw [hr]
      subst ho
      clear hr
      go_enter Try.func11, Try.ntmps11
      go_wp2
      exact bodyPost_ret (v := .agg #[.int .u64 a, .int .u64 b, .int .u64 (4611686018427387903 - g)]) (by simp [results, Try.results11, go_sem]) rfl ⟨rfl, (Below.refl _ _).alloc (Nat.le_refl _) _⟩
  · have hb1 : (o == 2) = false := by simpa using ho
    have hb2 : (o != 2) = true := by simpa using ho
    have hr : rankI o g = g := by unfold rankI; rw [if_neg ho]
    rw [hr]
    clear hr ho
    go_enter Try.func11, Try.ntmps11
    go_wp2
    exact bodyPost_ret (v := .agg #[.int .u64 a, .int .u64 b, .int .u64 g]) (by simp [results, Try.results11, go_sem]) rfl ⟨rfl, (Below.refl _ _).alloc (Nat.le_refl _) _⟩

theorem rrank_any (a b o g : Int) (w : World) (ha : 0 ≤ a ∧ a ≤ 255) (hb : 0 ≤ b ∧ b ≤ 255) (hg : 0 ≤ g ∧ g ≤ 18446744073709551615) :
    Calls Try.prog 12 #[.int .u8 a, .int .u8 b, .int .u8 o, .int .u64 g] w fun e w' => e = .returned (.agg #[.int .u64 a, .int .u64 b, .int .u64 (rankI o g)]) ∧ Below w.heap.size w w' := by
  by_cases ho : o = 2
  · have hb1 : (o == 2) = true := by simpa using ho
    by_cases hm : 4611686018427387903 < g
    · have hr : rankI o g = 0 := by unfold rankI; rw [if_pos ho]; omega
      rw [hr]
      subst ho
      clear hr
      go_enter Try.func12, Try.ntmps12
      go_wp2
      exact bodyPost_ret (v := .agg #[.int .u64 a, .int .u64 b, .int .u64 0]) (by simp [results, Try.results12, go_sem]) rfl ⟨rfl, (Below.refl _ _).alloc (Nat.le_refl _) _⟩
    · have hr : rankI o g = 4611686018427387903 - g := by unfold rankI; rw [if_pos ho]; omega
      rw [hr]
      subst ho
      clear hr
      go_enter Try.func12, Try.ntmps12
      go_wp2
      exact bodyPost_ret (v := .agg #[.int .u64 a, .int .u64 b, .int .u64 (4611686018427387903 - g)]) (by simp [results, Try.results12, go_sem]) rfl ⟨rfl, (Below.refl _ _).alloc (Nat.le_refl _) _⟩
  · have hb1 : (o == 2) = false := by simpa using ho
    have hb2 : (o != 2) = true := by simpa using ho
    have hr : rankI o g = g := by unfold rankI; rw [if_neg ho]
    rw [hr]
    clear hr ho
    go_enter Try.func12, Try.ntmps12
    go_wp2
    exact bodyPost_ret (v := .agg #[.int .u64 a, .int .u64 b, .int .u64 g]) (by simp [results, Try.results12, go_sem]) rfl ⟨rfl, (Below.refl _ _).alloc (Nat.le_refl _) _⟩

theorem eq3d (W : World) (d : Nat) (a0 a1 a2 b0 b1 b2 : Int) : (Op.equalIn (d + 1 + 1) 29 (.agg #[.int .u64 a0, .int .u64 a1, .int .u64 a2]) (.agg #[.int .u64 b0, .int .u64 b1, .int .u64 b2])).run Try.prog W = Result.ok (decide (a0 = b0 ∧ a1 = b1 ∧ a2 = b2)) W := by
  obtain ⟨i, hi, hz, h1, h2⟩ := info_parts infoN
  have h : ∀ (x y : Int), (Op.equalIn (d + 1) 22 (.int .u64 x) (.int .u64 y)).run Try.prog W = Result.ok (x == y) W := fun x y => run_equalIn_int W d 22 .u64 .u64 x y Try.underlying22
  have p0 : ∀ (a b c : Value), (part 22 #[a, b, c] 0).run Try.prog W = Result.ok a W := fun a b c => by kernel_rfl
  have p1 : ∀ (a b c : Value), (part 22 #[a, b, c] 1).run Try.prog W = Result.ok b W := fun a b c => by kernel_rfl
  have p2 : ∀ (a b c : Value), (part 22 #[a, b, c] 2).run Try.prog W = Result.ok c W := fun a b c => by kernel_rfl
  have hr : (List.range' 0 3 1) = [0, 1, 2] := rfl
  simp only [Op.equalIn, Sem.run_bind, run_underlying Try.underlying29, Result.andThen_ok, sizeOf, typeInfo]
  simp [hi, h1, hr, p0, p1, p2, h, Sem.run_bind, List.forIn_cons]
  by_cases h0 : a0 = b0 <;> by_cases h1' : a1 = b1 <;> by_cases h2' : a2 = b2 <;> simp [h0, h1', h2']
theorem eq3 (W : World) (a0 a1 a2 b0 b1 b2 : Int) : (Op.equalIn 10000 29 (.agg #[.int .u64 a0, .int .u64 a1, .int .u64 a2]) (.agg #[.int .u64 b0, .int .u64 b1, .int .u64 b2])).run Try.prog W = Result.ok (decide (a0 = b0 ∧ a1 = b1 ∧ a2 = b2)) W :=
  eq3d W 9998 a0 a1 a2 b0 b1 b2

set_option maxHeartbeats 2000000 in
theorem awake_any (w : World) : Calls Try.prog 7 #[] w fun e w' => e = .returned (.bool true) ∧ Below w.heap.size w w' := by
  have e1 : lateL [1, 5, 4, 2] 2 = [1, 2] := by decide
  have e2 : rankI 2 5 = 4611686018427387898 := by decide
  have ok : NumsOk [1, 5, 4, 2] := by intro x hx; simp at hx; omega
  have H : Hid (lateL [1, 5, 4, 2] 2 = [1, 2] ∧ rankI 2 5 = 4611686018427387898) := ⟨e1, e2⟩
  clear e1 e2
  have h4 := rd_of_own (k := .u64) (l := [1, 5, 4, 2]) (World.ownsRow_lit (size := 1) (e := 22) w #[.int .u64 1, .int .u64 5, .int .u64 4, .int .u64 2] 4 (Nat.le_refl _) (by decide) rfl)
  have hB := (Below.refl w.heap.size w).alloc (Nat.le_refl _) (.cells #[.int .u64 1, .int .u64 5, .int .u64 4, .int .u64 2] 22)
  go_enter Try.func7, Try.ntmps7
  go_wp2_with fail
  refine (late_any _ [1, 5, 4, 2] 2 _ h4 ok (by decide) (by omega)).mono ?_
  rintro e w1 ⟨v1, rfl, ho, hb⟩
  rw [H.out.1] at ho
  have hB := hB.trans (hb.mono hB.size)
  obtain ⟨g, cap, rfl, _, hgl⟩ := ho.form (by decide)
  clear hb h4
  go_wp2_with fail
  refine (rank_any 1 2 2 5 _ (by omega) (by omega) (by omega)).mono ?_
  rintro e w2 ⟨rfl, hb⟩
  rw [H.out.2]
  have ho := own_same ho hb
  have hB := hB.trans (hb.mono hB.size)
  have c0 : w2.cell? ⟨g, 0, none⟩ = some (.int .u64 1) := ho.cellAt 0 (by decide)
  have c1 : w2.cell? ⟨g, 1, none⟩ = some (.int .u64 2) := ho.cellAt 1 (by decide)
  have heq := fun W : World => eq3 W 1 2 4611686018427387898 1 2 4611686018427387898
  simp only [and_self, decide_true] at heq
  clear hb ho
  go_wp2_with fail
  go_ret
  exact ⟨by simp, hB⟩

end Go.Proofs.Ytddgakjcigefoaa
