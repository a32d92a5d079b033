/-
  A datagram read back: what ReadGram of package item does.
-/
import Derived.Test.YthmdbkefbbjfmaaIcut
namespace Go.Proofs.Ythmdbkefbbjfmaa
open Go.RowKit
set_option linter.unusedVariables false
set_option linter.unusedSimpArgs false


def gramS (l : List Int) : Option (Int × Int × Int × Int × List Int) :=
  let p1 := numS (l, 0)
  let p2 := numS p1.2
  let p3 := numS p2.2
  let p4 := numS p3.2
  let p5 := oneS p4.2
  if p5.2.2 ≠ 0 ∨ p1.1 ≠ 1 ∨ 2048 < p5.2.1.length then none else some (p2.1, p3.1, p4.1, p5.1, p5.2.1)
theorem CutAt.grown_far {w w' : World} {g : Nat} {l : List Int} {e : Int} (h : CutAt w g l e) (hb : Below w.heap.size w w') : CutAt w' g l e := by
  obtain ⟨V, h1, h2⟩ := h
  exact ⟨V, h1.same hb, h2.below hb⟩
/-- What is known behind the five reads. -/
def GramAt (w0 w' : World) (s : List Int × Int) : Prop := CutAt w' (w0.heap.size + 1) s.1 s.2 ∧ Blk w' w0.heap.size 29 #[.int .u64 0, .int .u64 0, .int .u8 0, .bool false, .slice none 0 0] ∧ Below w0.heap.size w0 w'
theorem GramAt.step {w0 w w' : World} {s s' : List Int × Int} (h : GramAt w0 w s) (hc : CutAt w' (w0.heap.size + 1) s'.1 s'.2) (hg : w.grownBy w' (some (w0.heap.size + 1))) : GramAt w0 w' s' :=
  ⟨hc, h.2.1.grown hg (by simp), h.2.2.grown hg h.2.2.size (fun b hb => by injection hb with hb; omega)⟩

set_option maxHeartbeats 4000000 in
set_option maxRecDepth 100000 in
theorem rdgram_no (V : Value) (l : List Int) (w : World) (hr : Rd w .u8 V l) (hk : BytesOk l) (hl : l.length ≤ 1000000) (hn : gramS l = none) :
    Calls Try.prog 21 #[V] w fun e w' => e = .returned (.tuple #[.int .u64 0, .agg #[.int .u64 0, .int .u64 0, .int .u8 0, .bool false, .slice none 0 0], .int .i64 4]) ∧ Below w.heap.size w w' := by
  have HNN := Lib.hid hn
  clear hn
  obtain ⟨A, cap, rfl⟩ := hr.form
  have hZ := (Blk.new w 29 #[.int .u64 0, .int .u64 0, .int .u8 0, .bool false, .slice none 0 0]).alloc (.cells #[.slice A l.length cap, .int .i64 0] 74)
  have hC := Blk.new (w.alloc (.cells #[.int .u64 0, .int .u64 0, .int .u8 0, .bool false, .slice none 0 0] 29)) 74 #[.slice A l.length cap, .int .i64 0]
  rw [World.size_alloc] at hC
  have hB := ((Below.refl w.heap.size w).alloc (Nat.le_refl _) (.cells #[.int .u64 0, .int .u64 0, .int .u8 0, .bool false, .slice none 0 0] 29)).alloc (by simp) (.cells #[.slice A l.length cap, .int .i64 0] 74)
  have h0 : GramAt w _ (l, 0) := ⟨⟨_, hC, hr.below hB⟩, hZ, hB⟩
  have k0 : StOk (l, 0) := ⟨hk, hl⟩
  clear hZ hC hB hr
  go_enter Try.func21, Try.ntmps21
  go_wp2_with fail
  refine (cnum_any _ (l, 0) _ h0.1 k0).mono ?_
  rintro e w1 ⟨rfl, hc, hg⟩
  have k1 := (numS_ok k0).1
  have n1 := (numS_ok k0).2
  have h1 := h0.step hc hg
  obtain ⟨p1, q1⟩ : ∃ p, p = numS (l, 0) := ⟨_, rfl⟩
  rw [← q1] at k1 n1 h1 ⊢
  have Q1 := Lib.hid q1
  clear q1 hc hg h0
  go_wp2_with fail
  refine (cnum_any _ p1.2 _ h1.1 k1).mono ?_
  rintro e w2 ⟨rfl, hc, hg⟩
  have k2 := (numS_ok k1).1
  have n2 := (numS_ok k1).2
  have h2 := h1.step hc hg
  obtain ⟨p2, q2⟩ : ∃ p, p = numS p1.2 := ⟨_, rfl⟩
  rw [← q2] at k2 n2 h2 ⊢
  have Q2 := Lib.hid q2
  clear q2 hc hg h1
  go_wp2_with fail
  refine (cnum_any _ p2.2 _ h2.1 k2).mono ?_
  rintro e w3 ⟨rfl, hc, hg⟩
  have k3 := (numS_ok k2).1
  have n3 := (numS_ok k2).2
  have h3 := h2.step hc hg
  obtain ⟨p3, q3⟩ : ∃ p, p = numS p2.2 := ⟨_, rfl⟩
  rw [← q3] at k3 n3 h3 ⊢
  have Q3 := Lib.hid q3
  clear q3 hc hg h2
  go_wp2_with fail
  refine (cnum_any _ p3.2 _ h3.1 k3).mono ?_
  rintro e w4 ⟨rfl, hc, hg⟩
  have k4 := (numS_ok k3).1
  have n4 := (numS_ok k3).2
  have h4 := h3.step hc hg
  obtain ⟨p4, q4⟩ : ∃ p, p = numS p3.2 := ⟨_, rfl⟩
  rw [← q4] at k4 n4 h4 ⊢
  have Q4 := Lib.hid q4
  clear q4 hc hg h3
  go_wp2_with fail
  refine (cone_any _ p4.2 _ h4.1 k4).mono ?_
  rintro e w5 ⟨rfl, hc, hg⟩
  have k5 := (oneS_ok k4).1
  have n5 := (oneS_ok k4).2
  have h5 := h4.step hc hg
  obtain ⟨p5, q5⟩ : ∃ p, p = oneS p4.2 := ⟨_, rfl⟩
  rw [← q5] at k5 n5 h5 ⊢
  have Q5 := Lib.hid q5
  clear q5 hc hg h4
  have HG : Hid (gramS l = if p5.2.2 ≠ 0 ∨ p1.1 ≠ 1 ∨ 2048 < p5.2.1.length then none else some (p2.1, p3.1, p4.1, p5.1, p5.2.1)) := Lib.hid (by rw [Q5.out, Q4.out, Q3.out, Q2.out, Q1.out]; rfl)
  obtain ⟨⟨V5, hC5, hr5⟩, hZ5, hB5⟩ := h5
  obtain ⟨A5, cap5, rfl⟩ := hr5.form
  have hm1 : w.heap.size + 1 < w5.heap.size := hC5.lt
  have hM := Blk.new w5 29 #[.int .u64 p3.1, .int .u64 p4.1, .int .u8 p5.1, .bool true, .slice none 0 0]
  have hC6 := hC5.alloc (.cells #[.int .u64 p3.1, .int .u64 p4.1, .int .u8 p5.1, .bool true, .slice none 0 0] 29)
  have hZ6 := hZ5.alloc (.cells #[.int .u64 p3.1, .int .u64 p4.1, .int .u8 p5.1, .bool true, .slice none 0 0] 29)
  have hr6 := hr5.alloc (.cells #[.int .u64 p3.1, .int .u64 p4.1, .int .u8 p5.1, .bool true, .slice none 0 0] 29)
  have hB6 := hB5.alloc hB5.size (.cells #[.int .u64 p3.1, .int .u64 p4.1, .int .u8 p5.1, .bool true, .slice none 0 0] 29)
  have c0 := show World.cell? _ ⟨w.heap.size + 1, 0, none⟩ = some (.slice A5 p5.2.1.length cap5) from hC6.cell 0
  have c1 := show World.cell? _ ⟨w.heap.size + 1, 1, none⟩ = some (.int .i64 p5.2.2) from hC6.cell 1
  have z0 := hZ6.frozen 0
  have z1 := hZ6.frozen 1
  have z2 := hZ6.frozen 2
  have z3 := hZ6.frozen 3
  have z4 := hZ6.frozen 4
  have y0 := show World.cell? _ ⟨w.heap.size, 0, none⟩ = some (.int .u64 0) from hZ6.cell 0
  have y1 := show World.cell? _ ⟨w.heap.size, 1, none⟩ = some (.int .u64 0) from hZ6.cell 1
  have y2 := show World.cell? _ ⟨w.heap.size, 2, none⟩ = some (.int .u8 0) from hZ6.cell 2
  have y3 := show World.cell? _ ⟨w.heap.size, 3, none⟩ = some (.bool false) from hZ6.cell 3
  have y4 := show World.cell? _ ⟨w.heap.size, 4, none⟩ = some (.slice none 0 0) from hZ6.cell 4
  have hcase : p5.2.2 ≠ 0 ∨ p1.1 ≠ 1 ∨ 2048 < p5.2.1.length := by
    have h := HG.out
    rw [HNN.out] at h
    by_cases hh : p5.2.2 ≠ 0 ∨ p1.1 ≠ 1 ∨ 2048 < p5.2.1.length
    · exact hh
    · rw [if_neg hh] at h; cases h
  obtain ⟨e5, he5⟩ : ∃ e5, e5 = p5.2.2 := ⟨_, rfl⟩
  rw [← he5] at hcase c1
  obtain ⟨kd, hkd⟩ : ∃ kd, kd = p1.1 := ⟨_, rfl⟩
  rw [← hkd] at hcase ⊢
  clear he5 hkd
  by_cases g1 : e5 = 0
  · have g1' : (e5 != 0) = false := by simpa using g1
    by_cases g2 : kd = 1
    · have g2' : (kd != 1) = false := by simpa using g2
      have g3 : 2048 < p5.2.1.length := by rcases hcase with h | h | h; exact absurd g1 h; exact absurd g2 h; exact h
      clear hcase g1 g2
      go_wp2_with fail
      refine bodyPost_ret (v := .tuple #[.int .u64 0, .agg #[.int .u64 0, .int .u64 0, .int .u8 0, .bool false, .slice none 0 0], .int .i64 4]) (by simp [results, Try.results21, go_sem, y0, y1, y2, y3, y4]) rfl ⟨rfl, ?_⟩
      exact ((((hB6.setCell (Nat.le_refl _) _).setCell (Nat.le_refl _) _).setCell (Nat.le_refl _) _).setCell (Nat.le_refl _) _).setCell (Nat.le_refl _) _
    · have g2' : (kd != 1) = true := by simpa using g2
      clear hcase g1 g2
      go_wp2_with fail
      refine bodyPost_ret (v := .tuple #[.int .u64 0, .agg #[.int .u64 0, .int .u64 0, .int .u8 0, .bool false, .slice none 0 0], .int .i64 4]) (by simp [results, Try.results21, go_sem, y0, y1, y2, y3, y4]) rfl ⟨rfl, ?_⟩
      exact ((((hB6.setCell (Nat.le_refl _) _).setCell (Nat.le_refl _) _).setCell (Nat.le_refl _) _).setCell (Nat.le_refl _) _).setCell (Nat.le_refl _) _
  · have g1' : (e5 != 0) = true := by simpa using g1
    clear hcase g1
    go_wp2_with fail
    refine bodyPost_ret (v := .tuple #[.int .u64 0, .agg #[.int .u64 0, .int .u64 0, .int .u8 0, .bool false, .slice none 0 0], .int .i64 4]) (by simp [results, Try.results21, go_sem, y0, y1, y2, y3, y4]) rfl ⟨rfl, ?_⟩
    exact ((((hB6.setCell (Nat.le_refl _) _).setCell (Nat.le_refl _) _).setCell (Nat.le_refl _) _).setCell (Nat.le_refl _) _).setCell (Nat.le_refl _) _

set_option maxHeartbeats 4000000 in
set_option maxRecDepth 100000 in
theorem rdgram_yes (V : Value) (l : List Int) (al G O pr : Int) (r : List Int) (w : World) (hr : Rd w .u8 V l) (hk : BytesOk l) (hl : l.length ≤ 1000000) (hn : gramS l = some (al, G, O, pr, r)) :
    Calls Try.prog 21 #[V] w fun e w' => ∃ V', e = .returned (.tuple #[.int .u64 al, .agg #[.int .u64 G, .int .u64 O, .int .u8 pr, .bool true, V'], .int .i64 0]) ∧ Rd w' .u8 V' r ∧ Below w.heap.size w w' := by
  have HNN := Lib.hid hn
  clear hn
  obtain ⟨A, cap, rfl⟩ := hr.form
  have hZ := (Blk.new w 29 #[.int .u64 0, .int .u64 0, .int .u8 0, .bool false, .slice none 0 0]).alloc (.cells #[.slice A l.length cap, .int .i64 0] 74)
  have hC := Blk.new (w.alloc (.cells #[.int .u64 0, .int .u64 0, .int .u8 0, .bool false, .slice none 0 0] 29)) 74 #[.slice A l.length cap, .int .i64 0]
  rw [World.size_alloc] at hC
  have hB := ((Below.refl w.heap.size w).alloc (Nat.le_refl _) (.cells #[.int .u64 0, .int .u64 0, .int .u8 0, .bool false, .slice none 0 0] 29)).alloc (by simp) (.cells #[.slice A l.length cap, .int .i64 0] 74)
  have h0 : GramAt w _ (l, 0) := ⟨⟨_, hC, hr.below hB⟩, hZ, hB⟩
  have k0 : StOk (l, 0) := ⟨hk, hl⟩
  clear hZ hC hB hr
  go_enter Try.func21, Try.ntmps21
  go_wp2_with fail
  refine (cnum_any _ (l, 0) _ h0.1 k0).mono ?_
  rintro e w1 ⟨rfl, hc, hg⟩
  have k1 := (numS_ok k0).1
  have n1 := (numS_ok k0).2
  have h1 := h0.step hc hg
  obtain ⟨p1, q1⟩ : ∃ p, p = numS (l, 0) := ⟨_, rfl⟩
  rw [← q1] at k1 n1 h1 ⊢
  have Q1 := Lib.hid q1
  clear q1 hc hg h0
  go_wp2_with fail
  refine (cnum_any _ p1.2 _ h1.1 k1).mono ?_
  rintro e w2 ⟨rfl, hc, hg⟩
  have k2 := (numS_ok k1).1
  have n2 := (numS_ok k1).2
  have h2 := h1.step hc hg
  obtain ⟨p2, q2⟩ : ∃ p, p = numS p1.2 := ⟨_, rfl⟩
  rw [← q2] at k2 n2 h2 ⊢
  have Q2 := Lib.hid q2
  clear q2 hc hg h1
  go_wp2_with fail
  refine (cnum_any _ p2.2 _ h2.1 k2).mono ?_
  rintro e w3 ⟨rfl, hc, hg⟩
  have k3 := (numS_ok k2).1
  have n3 := (numS_ok k2).2
  have h3 := h2.step hc hg
  obtain ⟨p3, q3⟩ : ∃ p, p = numS p2.2 := ⟨_, rfl⟩
  rw [← q3] at k3 n3 h3 ⊢
  have Q3 := Lib.hid q3
  clear q3 hc hg h2
  go_wp2_with fail
  refine (cnum_any _ p3.2 _ h3.1 k3).mono ?_
  rintro e w4 ⟨rfl, hc, hg⟩
  have k4 := (numS_ok k3).1
  have n4 := (numS_ok k3).2
  have h4 := h3.step hc hg
  obtain ⟨p4, q4⟩ : ∃ p, p = numS p3.2 := ⟨_, rfl⟩
  rw [← q4] at k4 n4 h4 ⊢
  have Q4 := Lib.hid q4
  clear q4 hc hg h3
  go_wp2_with fail
  refine (cone_any _ p4.2 _ h4.1 k4).mono ?_
  rintro e w5 ⟨rfl, hc, hg⟩
  have k5 := (oneS_ok k4).1
  have n5 := (oneS_ok k4).2
  have h5 := h4.step hc hg
  obtain ⟨p5, q5⟩ : ∃ p, p = oneS p4.2 := ⟨_, rfl⟩
  rw [← q5] at k5 n5 h5 ⊢
  have Q5 := Lib.hid q5
  clear q5 hc hg h4
  have HG : Hid (gramS l = if p5.2.2 ≠ 0 ∨ p1.1 ≠ 1 ∨ 2048 < p5.2.1.length then none else some (p2.1, p3.1, p4.1, p5.1, p5.2.1)) := Lib.hid (by rw [Q5.out, Q4.out, Q3.out, Q2.out, Q1.out]; rfl)
  obtain ⟨⟨V5, hC5, hr5⟩, hZ5, hB5⟩ := h5
  obtain ⟨A5, cap5, rfl⟩ := hr5.form
  have hm1 : w.heap.size + 1 < w5.heap.size := hC5.lt
  have hM := Blk.new w5 29 #[.int .u64 p3.1, .int .u64 p4.1, .int .u8 p5.1, .bool true, .slice none 0 0]
  have hC6 := hC5.alloc (.cells #[.int .u64 p3.1, .int .u64 p4.1, .int .u8 p5.1, .bool true, .slice none 0 0] 29)
  have hZ6 := hZ5.alloc (.cells #[.int .u64 p3.1, .int .u64 p4.1, .int .u8 p5.1, .bool true, .slice none 0 0] 29)
  have hr6 := hr5.alloc (.cells #[.int .u64 p3.1, .int .u64 p4.1, .int .u8 p5.1, .bool true, .slice none 0 0] 29)
  have hB6 := hB5.alloc hB5.size (.cells #[.int .u64 p3.1, .int .u64 p4.1, .int .u8 p5.1, .bool true, .slice none 0 0] 29)
  have c0 := show World.cell? _ ⟨w.heap.size + 1, 0, none⟩ = some (.slice A5 p5.2.1.length cap5) from hC6.cell 0
  have c1 := show World.cell? _ ⟨w.heap.size + 1, 1, none⟩ = some (.int .i64 p5.2.2) from hC6.cell 1
  have z0 := hZ6.frozen 0
  have z1 := hZ6.frozen 1
  have z2 := hZ6.frozen 2
  have z3 := hZ6.frozen 3
  have z4 := hZ6.frozen 4
  have y0 := show World.cell? _ ⟨w.heap.size, 0, none⟩ = some (.int .u64 0) from hZ6.cell 0
  have y1 := show World.cell? _ ⟨w.heap.size, 1, none⟩ = some (.int .u64 0) from hZ6.cell 1
  have y2 := show World.cell? _ ⟨w.heap.size, 2, none⟩ = some (.int .u8 0) from hZ6.cell 2
  have y3 := show World.cell? _ ⟨w.heap.size, 3, none⟩ = some (.bool false) from hZ6.cell 3
  have y4 := show World.cell? _ ⟨w.heap.size, 4, none⟩ = some (.slice none 0 0) from hZ6.cell 4
  have hcase : ¬ (p5.2.2 ≠ 0 ∨ p1.1 ≠ 1 ∨ 2048 < p5.2.1.length) := by
    intro hh
    have h := HG.out
    rw [HNN.out, if_pos hh] at h
    cases h
  have heq : (p2.1, p3.1, p4.1, p5.1, p5.2.1) = (al, G, O, pr, r) := by
    have h := HG.out
    rw [HNN.out, if_neg hcase] at h
    exact (Option.some.inj h).symm
  have g1 : p5.2.2 = 0 := by
    by_cases h : p5.2.2 = 0
    · exact h
    · exact absurd (.inl h) hcase
  have g2 : p1.1 = 1 := by
    by_cases h : p1.1 = 1
    · exact h
    · exact absurd (.inr (.inl h)) hcase
  have g3 : p5.2.1.length ≤ 2048 := by
    by_cases h : p5.2.1.length ≤ 2048
    · exact h
    · exact absurd (.inr (.inr (by omega))) hcase
  have k5b := k5.1
  simp only [Prod.mk.injEq] at heq
  obtain ⟨q1, q2, q3, q4, q5⟩ := heq
  rw [g1] at c1
  rw [q5] at c0 hr6 g3 hC6 k5b
  rw [q2, q3, q4] at hM hC6 hZ6 hr6 hB6 c0 c1 y0 y1 y2 y3 y4 z0 z1 z2 z3 z4
  rw [g2, q1, q2, q3, q4]
  clear hcase g1 g2 HG Q1 Q2 Q3 Q4 Q5 hC5 hZ5 hr5 hB5 q1 q2 q3 q4 q5 n1 n2 n3 n4 n5 k0 k1 k2 k3 k4 k5
  go_wp2_with fail
  refine (clone_any _ r _ hr6 (by omega)).mono ?_
  rintro e w7 ⟨V7, rfl, ho7, hb7⟩
  have hM7 := hM.same hb7
  have hZ7 := hZ6.same hb7
  have hB7 := hB6.trans (hb7.mono hB6.size)
  rw [World.size_alloc] at ho7
  have hfar : ∀ q, q < w5.heap.size + 1 → V7.ownBlock ≠ some q := fun q hq he => by have := (ho7.lt q he).1; omega
  obtain ⟨A7, k7, rfl⟩ := (rd_of_own (k := .u8) ho7).form
  have m4 := hM7.cell 4
  have f4 := hM7.frozen 4
  clear hM hC6 hZ6 hr6 hB6 hb7 c0 c1 y0 y1 y2 y3 y4 z0 z1 z2 z3 z4
  go_wp2_with fail
  refine wp_world (fun wz => Blk wz w5.heap.size 29 #[.int .u64 G, .int .u64 O, .int .u8 pr, .bool true, (.slice A7 r.length k7)] ∧ Blk wz w.heap.size 29 #[.int .u64 0, .int .u64 0, .int .u8 0, .bool false, .slice none 0 0] ∧ wz.ownsRow (w5.heap.size + 1) 5 1 (.slice A7 r.length k7) r.length (r.map (Value.int .u8)) ∧ Below w.heap.size w wz) ⟨hM7.set_ 4 _, hZ7.far (by simp; omega) _, own_far ho7 (hfar _ (by simp)) _, hB7.setCell (by simp; omega) _⟩ ?_
  clear hM7 hZ7 ho7 hB7 m4 f4
  rintro wz ⟨hM8, hZ8, ho8, hB8⟩
  have m0 : wz.cell? ⟨w5.heap.size, 0, none⟩ = some (.int .u64 G) := hM8.cell 0
  have m1 : wz.cell? ⟨w5.heap.size, 1, none⟩ = some (.int .u64 O) := hM8.cell 1
  have m2 : wz.cell? ⟨w5.heap.size, 2, none⟩ = some (.int .u8 pr) := hM8.cell 2
  have m3 : wz.cell? ⟨w5.heap.size, 3, none⟩ = some (.bool true) := hM8.cell 3
  have m4 : wz.cell? ⟨w5.heap.size, 4, none⟩ = some (.slice A7 r.length k7) := hM8.cell 4
  have z0 := hZ8.frozen 0
  have z1 := hZ8.frozen 1
  have z2 := hZ8.frozen 2
  have z3 := hZ8.frozen 3
  have z4 := hZ8.frozen 4
  have y0 : wz.cell? ⟨w.heap.size, 0, none⟩ = some (.int .u64 0) := hZ8.cell 0
  have y1 : wz.cell? ⟨w.heap.size, 1, none⟩ = some (.int .u64 0) := hZ8.cell 1
  have y2 : wz.cell? ⟨w.heap.size, 2, none⟩ = some (.int .u8 0) := hZ8.cell 2
  have y3 : wz.cell? ⟨w.heap.size, 3, none⟩ = some (.bool false) := hZ8.cell 3
  have y4 : wz.cell? ⟨w.heap.size, 4, none⟩ = some (.slice none 0 0) := hZ8.cell 4
  have hlt8 : w.heap.size < wz.heap.size := hZ8.lt
  go_region
  go_wp2_with fail
  refine bodyPost_ret (v := .tuple #[.int .u64 al, .agg #[.int .u64 G, .int .u64 O, .int .u8 pr, .bool true, (.slice A7 r.length k7)], .int .i64 0]) (by simp [results, Try.results21, go_sem, y0, y1, y2, y3, y4]) rfl ⟨_, rfl, ?_, ?_⟩
  · have h0 : ∀ i, (Value.slice A7 r.length k7).ownBlock ≠ some (⟨w.heap.size, i, none⟩ : Addr).block := fun i => hfar _ (by show w.heap.size < _; omega)
    exact rd_of_own (own_drewN (own_far (own_far (own_far (own_far (own_far ho8 (h0 _) _) (h0 _) _) (h0 _) _) (h0 _) _) (h0 _) _) 1)
  · exact below_drewN (((((hB8.setCell (Nat.le_refl _) _).setCell (Nat.le_refl _) _).setCell (Nat.le_refl _) _).setCell (Nat.le_refl _) _).setCell (Nat.le_refl _) _) 1

end Go.Proofs.Ythmdbkefbbjfmaa
