/-
  What front of a reader does, with the bytes' own block.
-/
import Derived.Test.YthmdbkefbbjfmaaIcutt
namespace Go.Proofs.Ythmdbkefbbjfmaa
open Go.RowKit
set_option linter.unusedVariables false
set_option linter.unusedSimpArgs false


set_option maxHeartbeats 1000000 in
set_option maxRecDepth 100000 in
theorem front_badT (rg cg : Nat) (V : Value) (f : Bool) (id hg hp : Int) (bg sm : Bool) (lg lo : Int) (ov : Bool) (s : List Int × Int) (w : World) (hb : Blk w rg 81 #[V, .bool f, .int .u64 id, .int .u64 hg, .int .u8 hp, .bool bg, .bool sm, .int .u64 lg, .int .u64 lo, .bool ov]) (hc : CutT w cg s.1 s.2) (hs : StOk s) (hcase : (numS s).2.2 ≠ 0) :
    Calls Try.prog 36 #[.pointer (some ⟨rg, 0, none⟩), .pointer (some ⟨cg, 0, none⟩)] w fun e w' => e = .returned (.bool false) ∧ Blk w' rg 81 #[V, .bool f, .int .u64 id, .int .u64 hg, .int .u8 hp, .bool bg, .bool sm, .int .u64 lg, .int .u64 lo, .bool ov] ∧ CutT w' cg (numS s).2.1 (numS s).2.2 ∧ Keep2 rg cg w w' := by
  obtain ⟨n0, q0⟩ : ∃ n, n = numS s := ⟨_, rfl⟩
  have hk0 := (numS_ok hs).1
  have hn0 := (numS_ok hs).2
  have hne := hc.blk_ne hb (by decide)
  rw [← q0] at hk0 hn0
  rw [← q0] at hcase
  have Q0 := Lib.hid q0
  clear q0
  go_enter Try.func36, Try.ntmps36
  go_wp2_with fail
  refine (cnum_anyT cg s _ hc hs).mono ?_
  rintro e w1 ⟨rfl, hc1, hg1⟩
  rw [← Q0.out] at hc1 ⊢
  have hb1 := hb.grown hg1 (by simpa using hne)
  have hK1 := (Keep2.refl rg cg w).grown hg1
  clear hc hb hg1
  have h1 : (n0.2.2 != 0) = true := by simpa using hcase
  have h2 : (n0.2.2 == 0) = false := by simpa using hcase
  clear hcase
  obtain ⟨V1, hC1, hR1⟩ := hc1
  have c1 := show World.cell? _ ⟨cg, 1, none⟩ = some (.int .i64 _) from hC1.cell 1
  have f1 := hC1.frozen 1
  go_wp2_with fail
  go_ret
  exact ⟨rfl, hb1, by rw [← Q0.out]; exact ⟨_, hC1, hR1⟩, hK1⟩

set_option maxHeartbeats 1000000 in
set_option maxRecDepth 100000 in
theorem front_formT (rg cg : Nat) (V : Value) (f : Bool) (id hg hp : Int) (bg sm : Bool) (lg lo : Int) (ov : Bool) (s : List Int × Int) (w : World) (hb : Blk w rg 81 #[V, .bool f, .int .u64 id, .int .u64 hg, .int .u8 hp, .bool bg, .bool sm, .int .u64 lg, .int .u64 lo, .bool ov]) (hc : CutT w cg s.1 s.2) (hs : StOk s) (h0 : (numS s).2.2 = 0) (hcase : (numS s).1 ≠ 5 ∧ (numS s).1 ≠ 16) :
    Calls Try.prog 36 #[.pointer (some ⟨rg, 0, none⟩), .pointer (some ⟨cg, 0, none⟩)] w fun e w' => e = .returned (.bool false) ∧ Blk w' rg 81 #[V, .bool f, .int .u64 id, .int .u64 hg, .int .u8 hp, .bool bg, .bool sm, .int .u64 lg, .int .u64 lo, .bool ov] ∧ CutT w' cg (numS s).2.1 4 ∧ Keep2 rg cg w w' := by
  obtain ⟨n0, q0⟩ : ∃ n, n = numS s := ⟨_, rfl⟩
  have hk0 := (numS_ok hs).1
  have hn0 := (numS_ok hs).2
  have hne := hc.blk_ne hb (by decide)
  rw [← q0] at hk0 hn0
  rw [← q0] at hcase h0
  have Q0 := Lib.hid q0
  clear q0
  go_enter Try.func36, Try.ntmps36
  go_wp2_with fail
  refine (cnum_anyT cg s _ hc hs).mono ?_
  rintro e w1 ⟨rfl, hc1, hg1⟩
  rw [← Q0.out] at hc1 ⊢
  have hb1 := hb.grown hg1 (by simpa using hne)
  have hK1 := (Keep2.refl rg cg w).grown hg1
  clear hc hb hg1
  have h1 : (n0.1 == 5) = false := by simpa using hcase.1
  have h2 : (n0.1 == 16) = false := by simpa using hcase.2
  clear hcase
  rw [h0] at hc1
  clear h0
  obtain ⟨V1, hC1, hR1⟩ := hc1
  have c1 := show World.cell? _ ⟨cg, 1, none⟩ = some (.int .i64 _) from hC1.cell 1
  have f1 := hC1.frozen 1
  go_wp2_with fail
  go_ret
  exact ⟨rfl, hb1.far hne _, by rw [← Q0.out]; exact ⟨_, hC1.set_ 1 _, rdt_set hR1 hC1 (by decide) 1 _⟩, hK1.set_b _ _⟩


set_option maxHeartbeats 1000000 in
set_option maxRecDepth 100000 in
theorem front_5 (rg cg : Nat) (V : Value) (f : Bool) (id hg hp : Int) (bg sm : Bool) (lg lo : Int) (ov : Bool) (s : List Int × Int) (w : World) (hb : Blk w rg 81 #[V, .bool f, .int .u64 id, .int .u64 hg, .int .u8 hp, .bool bg, .bool sm, .int .u64 lg, .int .u64 lo, .bool ov]) (hc : CutT w cg s.1 s.2) (hs : StOk s) (h0 : (numS s).2.2 = 0) (hcase : (numS s).1 = 5) :
    Calls Try.prog 36 #[.pointer (some ⟨rg, 0, none⟩), .pointer (some ⟨cg, 0, none⟩)] w fun e w' => e = .returned (.bool ((numS (numS s).2).2.2 == 0)) ∧ Blk w' rg 81 #[V, .bool true, .int .u64 (numS (numS s).2).1, .int .u64 0, .int .u8 0, .bool bg, .bool sm, .int .u64 lg, .int .u64 lo, .bool ov] ∧ CutT w' cg (numS (numS s).2).2.1 (numS (numS s).2).2.2 ∧ Keep2 rg cg w w' := by
  obtain ⟨n0, q0⟩ : ∃ n, n = numS s := ⟨_, rfl⟩
  have hk0 := (numS_ok hs).1
  have hn0 := (numS_ok hs).2
  have hne := hc.blk_ne hb (by decide)
  rw [← q0] at hk0 hn0
  rw [← q0] at hcase h0 ⊢
  have Q0 := Lib.hid q0
  clear q0
  obtain ⟨n1, q1⟩ : ∃ n, n = numS n0.2 := ⟨_, rfl⟩
  have hk1 := (numS_ok hk0).1
  have hn1 := (numS_ok hk0).2
  rw [← q1] at hk1 hn1 ⊢
  have Q1 := Lib.hid q1
  clear q1
  go_enter Try.func36, Try.ntmps36
  go_wp2_with fail
  refine (cnum_anyT cg s _ hc hs).mono ?_
  rintro e w1 ⟨rfl, hc1, hg1⟩
  rw [← Q0.out] at hc1 ⊢
  have hb1 := hb.grown hg1 (by simpa using hne)
  have hK1 := (Keep2.refl rg cg w).grown hg1
  clear hc hb hg1
  have hz := h0
  obtain ⟨V1, hC1, hR1⟩ := hc1
  have hc1 : CutT w1 cg n0.2.1 n0.2.2 := ⟨V1, hC1, hR1⟩
  rw [h0] at hC1
  have c1 := show World.cell? w1 ⟨cg, 1, none⟩ = some (.int .i64 0) from hC1.cell 1
  clear h0 hC1 hR1
  have h1 : (n0.1 == 5) = true := by simpa using hcase
  clear hcase
  go_wp2_with fail
  refine (cnum_anyT cg n0.2 _ hc1 hk0).mono ?_
  rintro e w2 ⟨rfl, hc2, hg2⟩
  rw [← Q1.out] at hc2 ⊢
  have hb2 := hb1.grown hg2 (by simpa using hne)
  have hK2 := hK1.grown hg2
  clear hc1 hb1 hg2 hK1
  clear c1
  obtain ⟨V2, hC2, hR2⟩ := hc2
  have c1 := show World.cell? _ ⟨cg, 1, none⟩ = some (.int .i64 _) from hC2.cell 1
  have f1 := hC2.frozen 1
  clear f1
  have d1 := show World.cell? w2 ⟨rg, 1, none⟩ = some (.bool f) from hb2.cell 1
  have d2 := show World.cell? w2 ⟨rg, 2, none⟩ = some (.int .u64 id) from hb2.cell 2
  have d3 := show World.cell? w2 ⟨rg, 3, none⟩ = some (.int .u64 hg) from hb2.cell 3
  have d4 := show World.cell? w2 ⟨rg, 4, none⟩ = some (.int .u8 hp) from hb2.cell 4
  have g1 := hb2.frozen 1
  have g2 := hb2.frozen 2
  have g3 := hb2.frozen 3
  have g4 := hb2.frozen 4
  have hK := hK2
  go_wp2_with fail
  go_ret
  exact ⟨rfl, (((hb2.set_ 1 _).set_ 2 _).set_ 3 _).set_ 4 _, ⟨V2, (((hC2.far (Ne.symm hne) _).far (Ne.symm hne) _).far (Ne.symm hne) _).far (Ne.symm hne) _, rdt_set (rdt_set (rdt_set (rdt_set hR2 hb2 (by decide) 1 _) (hb2.set_ 1 _) (by decide) 2 _) ((hb2.set_ 1 _).set_ 2 _) (by decide) 3 _) (((hb2.set_ 1 _).set_ 2 _).set_ 3 _) (by decide) 4 _⟩, (((hK.set_a _ _).set_a _ _).set_a _ _).set_a _ _⟩

set_option maxHeartbeats 1000000 in
set_option maxRecDepth 100000 in
theorem front_16 (rg cg : Nat) (V : Value) (f : Bool) (id hg hp : Int) (bg sm : Bool) (lg lo : Int) (ov : Bool) (s : List Int × Int) (w : World) (hb : Blk w rg 81 #[V, .bool f, .int .u64 id, .int .u64 hg, .int .u8 hp, .bool bg, .bool sm, .int .u64 lg, .int .u64 lo, .bool ov]) (hc : CutT w cg s.1 s.2) (hs : StOk s) (h0 : (numS s).2.2 = 0) (hcase : (numS s).1 = 16) :
    Calls Try.prog 36 #[.pointer (some ⟨rg, 0, none⟩), .pointer (some ⟨cg, 0, none⟩)] w fun e w' => e = .returned (.bool ((oneS (numS (numS (numS s).2).2).2).2.2 == 0)) ∧ Blk w' rg 81 #[V, .bool false, .int .u64 (numS (numS s).2).1, .int .u64 (numS (numS (numS s).2).2).1, .int .u8 (oneS (numS (numS (numS s).2).2).2).1, .bool bg, .bool sm, .int .u64 lg, .int .u64 lo, .bool ov] ∧ CutT w' cg (oneS (numS (numS (numS s).2).2).2).2.1 (oneS (numS (numS (numS s).2).2).2).2.2 ∧ Keep2 rg cg w w' := by
  obtain ⟨n0, q0⟩ : ∃ n, n = numS s := ⟨_, rfl⟩
  have hk0 := (numS_ok hs).1
  have hn0 := (numS_ok hs).2
  have hne := hc.blk_ne hb (by decide)
  rw [← q0] at hk0 hn0
  rw [← q0] at hcase h0 ⊢
  have Q0 := Lib.hid q0
  clear q0
  obtain ⟨n1, q1⟩ : ∃ n, n = numS n0.2 := ⟨_, rfl⟩
  have hk1 := (numS_ok hk0).1
  have hn1 := (numS_ok hk0).2
  rw [← q1] at hk1 hn1 ⊢
  have Q1 := Lib.hid q1
  clear q1
  obtain ⟨n2, q2⟩ : ∃ n, n = numS n1.2 := ⟨_, rfl⟩
  have hk2 := (numS_ok hk1).1
  have hn2 := (numS_ok hk1).2
  rw [← q2] at hk2 hn2 ⊢
  have Q2 := Lib.hid q2
  clear q2
  obtain ⟨n3, q3⟩ : ∃ n, n = oneS n2.2 := ⟨_, rfl⟩
  have hk3 := (oneS_ok hk2).1
  have hn3 := (oneS_ok hk2).2
  rw [← q3] at hk3 hn3 ⊢
  have Q3 := Lib.hid q3
  clear q3
  go_enter Try.func36, Try.ntmps36
  go_wp2_with fail
  refine (cnum_anyT cg s _ hc hs).mono ?_
  rintro e w1 ⟨rfl, hc1, hg1⟩
  rw [← Q0.out] at hc1 ⊢
  have hb1 := hb.grown hg1 (by simpa using hne)
  have hK1 := (Keep2.refl rg cg w).grown hg1
  clear hc hb hg1
  have hz := h0
  obtain ⟨V1, hC1, hR1⟩ := hc1
  have hc1 : CutT w1 cg n0.2.1 n0.2.2 := ⟨V1, hC1, hR1⟩
  rw [h0] at hC1
  have c1 := show World.cell? w1 ⟨cg, 1, none⟩ = some (.int .i64 0) from hC1.cell 1
  clear h0 hC1 hR1
  have h1 : (n0.1 == 5) = false := by rw [hcase]; rfl
  have h2 : (n0.1 == 16) = true := by simpa using hcase
  clear hcase
  go_wp2_with fail
  refine (cnum_anyT cg n0.2 _ hc1 hk0).mono ?_
  rintro e w2 ⟨rfl, hc2, hg2⟩
  rw [← Q1.out] at hc2 ⊢
  have hb2 := hb1.grown hg2 (by simpa using hne)
  have hK2 := hK1.grown hg2
  clear hc1 hb1 hg2 hK1
  clear c1
  go_wp2_with fail
  refine (cnum_anyT cg n1.2 _ hc2 hk1).mono ?_
  rintro e w3 ⟨rfl, hc3, hg3⟩
  rw [← Q2.out] at hc3 ⊢
  have hb3 := hb2.grown hg3 (by simpa using hne)
  have hK3 := hK2.grown hg3
  clear hc2 hb2 hg3 hK2
  go_wp2_with fail
  refine (cone_anyT cg n2.2 _ hc3 hk2).mono ?_
  rintro e w4 ⟨rfl, hc4, hg4⟩
  rw [← Q3.out] at hc4 ⊢
  have hb4 := hb3.grown hg4 (by simpa using hne)
  have hK4 := hK3.grown hg4
  clear hc3 hb3 hg4 hK3
  obtain ⟨V4, hC4, hR4⟩ := hc4
  have c1 := show World.cell? _ ⟨cg, 1, none⟩ = some (.int .i64 _) from hC4.cell 1
  have f1 := hC4.frozen 1
  clear f1
  have d1 := show World.cell? w4 ⟨rg, 1, none⟩ = some (.bool f) from hb4.cell 1
  have d2 := show World.cell? w4 ⟨rg, 2, none⟩ = some (.int .u64 id) from hb4.cell 2
  have d3 := show World.cell? w4 ⟨rg, 3, none⟩ = some (.int .u64 hg) from hb4.cell 3
  have d4 := show World.cell? w4 ⟨rg, 4, none⟩ = some (.int .u8 hp) from hb4.cell 4
  have g1 := hb4.frozen 1
  have g2 := hb4.frozen 2
  have g3 := hb4.frozen 3
  have g4 := hb4.frozen 4
  have hK := hK4
  go_wp2_with fail
  go_ret
  exact ⟨rfl, (((hb4.set_ 1 _).set_ 2 _).set_ 3 _).set_ 4 _, ⟨V4, (((hC4.far (Ne.symm hne) _).far (Ne.symm hne) _).far (Ne.symm hne) _).far (Ne.symm hne) _, rdt_set (rdt_set (rdt_set (rdt_set hR4 hb4 (by decide) 1 _) (hb4.set_ 1 _) (by decide) 2 _) ((hb4.set_ 1 _).set_ 2 _) (by decide) 3 _) (((hb4.set_ 1 _).set_ 2 _).set_ 3 _) (by decide) 4 _⟩, (((hK.set_a _ _).set_a _ _).set_a _ _).set_a _ _⟩

end Go.Proofs.Ythmdbkefbbjfmaa
