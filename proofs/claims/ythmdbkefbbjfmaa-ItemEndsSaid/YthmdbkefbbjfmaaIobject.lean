/-
  The next object of a reader.
-/
import Derived.Test.YthmdbkefbbjfmaaIfrona
namespace Go.Proofs.Ythmdbkefbbjfmaa
open Go.RowKit
set_option linter.unusedVariables false
set_option linter.unusedSimpArgs false


theorem CutT.alloc {w : World} {g : Nat} {l : List Int} {e : Int} (h : CutT w g l e) (o : Obj) : CutT (w.alloc o) g l e := by
  obtain ⟨V, h1, h2⟩ := h
  exact ⟨V, h1.alloc o, h2.below ((Below.refl _ _).alloc (Nat.le_refl _) o)⟩
theorem CutT.drew {w : World} {g : Nat} {l : List Int} {e : Int} (h : CutT w g l e) : CutT w.drew g l e := h
theorem cutt_set {w : World} {g r : Nat} {t : TypeId} {cs : Array Value} {l : List Int} {e : Int} (h : CutT w g l e) (hz : Blk w r t cs) (ht : t ≠ 5) (hne : g ≠ r) (i : Nat) (u : Value) : CutT (w.setCell ⟨r, i, none⟩ u) g l e := by
  obtain ⟨V, h1, h2⟩ := h
  exact ⟨V, h1.far hne _, rdt_set h2 hz ht i u⟩
theorem five_cut {w : World} {g r : Nat} {t : TypeId} {cs : Array Value} {l : List Int} {e : Int} (h : CutT w g l e) (hz : Blk w r t cs) (ht : t ≠ 5) (hne : g ≠ r) (a b c d f : Value) : CutT (((((w.setCell ⟨r, 0, none⟩ a).setCell ⟨r, 1, none⟩ b).setCell ⟨r, 2, none⟩ c).setCell ⟨r, 3, none⟩ d).setCell ⟨r, 4, none⟩ f).drew g l e := by
  have z1 := hz.set_ 0 a
  have z2 := z1.set_ 1 b
  have z3 := z2.set_ 2 c
  have z4 := z3.set_ 3 d
  have k1 := cutt_set h hz ht hne 0 a
  have k2 := cutt_set k1 z1 ht hne 1 b
  have k3 := cutt_set k2 z2 ht hne 2 c
  have k4 := cutt_set k3 z3 ht hne 3 d
  exact CutT.drew (cutt_set k4 z4 ht hne 4 f)
theorem RdT.drew {w : World} {V : Value} {l : List Int} (h : RdT w V l) : RdT w.drew V l := h
theorem five_rdt {w : World} {V : Value} {r : Nat} {t : TypeId} {cs : Array Value} {l : List Int} (h : RdT w V l) (hz : Blk w r t cs) (ht : t ≠ 5) (a b c d f : Value) : RdT (((((w.setCell ⟨r, 0, none⟩ a).setCell ⟨r, 1, none⟩ b).setCell ⟨r, 2, none⟩ c).setCell ⟨r, 3, none⟩ d).setCell ⟨r, 4, none⟩ f).drew V l := by
  have z1 := hz.set_ 0 a
  have z2 := z1.set_ 1 b
  have z3 := z2.set_ 2 c
  have z4 := z3.set_ 3 d
  have k1 := rdt_set h hz ht 0 a
  have k2 := rdt_set k1 z1 ht 1 b
  have k3 := rdt_set k2 z2 ht 2 c
  have k4 := rdt_set k3 z3 ht 3 d
  exact RdT.drew (rdt_set k4 z4 ht 4 f)
theorem five_grown {w0 w : World} {g r : Nat} (h : w0.grownBy w (some g)) (hr : w0.heap.size ≤ r) (a b c d f : Value) : w0.grownBy (((((w.setCell ⟨r, 0, none⟩ a).setCell ⟨r, 1, none⟩ b).setCell ⟨r, 2, none⟩ c).setCell ⟨r, 3, none⟩ d).setCell ⟨r, 4, none⟩ f).drew (some g) :=
  grown_drew (grown_set_new (grown_set_new (grown_set_new (grown_set_new (grown_set_new h hr a) hr b) hr c) hr d) hr f)
theorem wless_is (a b c d : Int) (L : Bool) (hL : lessP a b c d = L) (w : World) : Calls Try.prog 44 #[.agg #[.int .u64 a, .int .u64 b], .agg #[.int .u64 c, .int .u64 d]] w fun e w' => e = .returned (.bool L) ∧ Below w.heap.size w w' := by
  rw [← hL]
  exact wless_any a b c d w
theorem CutT.lt {w : World} {g : Nat} {l : List Int} {e : Int} (h : CutT w g l e) : g < w.heap.size := by obtain ⟨V, h1, _⟩ := h; exact h1.lt

set_option maxHeartbeats 1000000 in
set_option maxRecDepth 100000 in
theorem object_g_bad (rg cg : Nat) (Vr : Value) (id hg hp : Int) (bg sm : Bool) (lg lo : Int) (ov : Bool) (s : List Int × Int) (w : World) (hb : Blk w rg 81 (rdrV Vr (false, id, hg, hp) bg sm lg lo ov)) (hc : CutT w cg s.1 s.2) (hs : StOk s) (hcase : (numS s).2.2 ≠ 0) :
    Calls Try.prog 37 #[.pointer (some ⟨rg, 0, none⟩), .pointer (some ⟨cg, 0, none⟩)] w fun e w' => ∃ V, e = .returned (.tuple #[.agg #[.int .u64 hg, .int .u64 (numS s).1, .int .u8 hp, .bool false, V], .bool false]) ∧ RdT w' V [] ∧ CutT w' cg ((numS s).2).1 ((numS s).2).2 ∧ w.grownBy w' (some cg) := by
  have hne := hc.blk_ne hb (by decide)
  have d1 := show World.cell? w ⟨rg, 1, none⟩ = some (.bool false) from hb.cell 1
  have d3 := show World.cell? w ⟨rg, 3, none⟩ = some (.int .u64 hg) from hb.cell 3
  have d4 := show World.cell? w ⟨rg, 4, none⟩ = some (.int .u8 hp) from hb.cell 4
  have d6 := show World.cell? w ⟨rg, 6, none⟩ = some (.bool sm) from hb.cell 6
  go_enter Try.func37, Try.ntmps37
  go_wp2_with fail
  refine wp_world (fun wz => Blk wz rg 81 (rdrV Vr (false, id, hg, hp) bg sm lg lo ov) ∧ CutT wz cg s.1 s.2 ∧ Blk wz w.heap.size 29 #[.int .u64 0, .int .u64 0, .int .u8 0, .bool false, .slice none 0 0] ∧ w.grownBy wz (some cg)) ⟨hb.alloc _, hc.alloc _, Blk.new w _ _, grown_alloc (grown_refl _ _) _⟩ ?_
  clear d1 d3 d4 d6 hc
  have hlt0 := hb.lt
  clear hb
  rintro wz ⟨hb, hc, hz, hG⟩
  have d1 := show World.cell? wz ⟨rg, 1, none⟩ = some (.bool false) from hb.cell 1
  have d3 := show World.cell? wz ⟨rg, 3, none⟩ = some (.int .u64 hg) from hb.cell 3
  have d4 := show World.cell? wz ⟨rg, 4, none⟩ = some (.int .u8 hp) from hb.cell 4
  have d6 := show World.cell? wz ⟨rg, 6, none⟩ = some (.bool sm) from hb.cell 6
  have hlt1 := hb.lt
  obtain ⟨n1, q1⟩ : ∃ n, n = numS s := ⟨_, rfl⟩
  have hk1 := (numS_ok hs).1
  rw [← q1] at hk1 hcase
  have Q1 := Lib.hid q1
  clear q1
  have hzc := hc.blk_ne hz (by decide)
  have hcl := hc.lt
  have hrl := hb.lt
  have hzl := hz.lt
  clear hlt1
  go_region
  go_wp2_with fail
  refine (cnum_anyT cg s _ (hc.alloc _).drew hs).mono ?_
  rintro e w2 ⟨rfl, hc2, hg2⟩
  rw [← Q1.out] at hc2 ⊢
  have hb2 := Blk.grown (hb.alloc (.cells #[.int .u64 hg, .int .u64 0, .int .u8 hp, .bool false, .slice none 0 0] 29)).drew hg2 (by simpa using hne)
  have hz2 := Blk.grown (hz.alloc (.cells #[.int .u64 hg, .int .u64 0, .int .u8 hp, .bool false, .slice none 0 0] 29)).drew hg2 (by simpa using hzc)
  have hm2 := Blk.grown (Blk.new wz 29 #[.int .u64 hg, .int .u64 0, .int .u8 hp, .bool false, .slice none 0 0]).drew hg2 (by simp; omega)
  clear hb hz hc d1 d3 d4 d6
  have m1 := hm2.frozen 1
  have m2 := show World.cell? w2 ⟨wz.heap.size, 1, none⟩ = some (.int .u64 0) from hm2.cell 1
  go_wp2_with fail
  have hGa := grown_trans (grown_drew (grown_alloc hG (.cells #[.int .u64 hg, .int .u64 0, .int .u8 hp, .bool false, .slice none 0 0] 29))) hg2
  refine wp_world (fun wy => Blk wy rg 81 (rdrV Vr (false, id, hg, hp) bg sm lg lo ov) ∧ CutT wy cg n1.2.1 n1.2.2 ∧ Blk wy w.heap.size 29 #[.int .u64 0, .int .u64 0, .int .u8 0, .bool false, .slice none 0 0] ∧ Blk wy wz.heap.size 29 #[.int .u64 hg, .int .u64 n1.1, .int .u8 hp, .bool false, .slice none 0 0] ∧ w.grownBy wy (some cg)) ⟨hb2.far (by simp; omega) _, ?_, hz2.far (by simp; omega) _, hm2.set_ 1 _, grown_set_new hGa (by simp; exact hG.size) _⟩ ?_
  · obtain ⟨V2, hC2, hR2⟩ := hc2
    exact ⟨V2, hC2.far (by simp; omega) _, rdt_set hR2 hm2 (by decide) 1 _⟩
  clear hb2 hc2 hz2 hm2 hg2 hGa m1 m2
  rintro w3 ⟨hb, hc, hz, hm, hG3⟩
  obtain ⟨V3, hC, hR⟩ := hc
  have hHR := Lib.hid hR
  clear hR
  have c1 := show World.cell? w3 ⟨cg, 1, none⟩ = some (.int .i64 n1.2.2) from hC.cell 1
  have d6 := show World.cell? w3 ⟨rg, 6, none⟩ = some (.bool sm) from hb.cell 6
  have d7 := show World.cell? w3 ⟨rg, 7, none⟩ = some (.int .u64 lg) from hb.cell 7
  have d8 := show World.cell? w3 ⟨rg, 8, none⟩ = some (.int .u64 lo) from hb.cell 8
  have m0 := show World.cell? w3 ⟨wz.heap.size, 0, none⟩ = some (.int .u64 hg) from hm.cell 0
  have m1 := show World.cell? w3 ⟨wz.heap.size, 1, none⟩ = some (.int .u64 n1.1) from hm.cell 1
  have g0 : (n1.2.2 == 0) = false := by simpa using hcase
  clear hcase
  have Cc1 := Cls.cells c1 (World.block_lt_of_cell? _ _ c1)
  have Cd6 := Cls.cells d6 (World.block_lt_of_cell? _ _ d6)
  have Cd7 := Cls.cells d7 (World.block_lt_of_cell? _ _ d7)
  have Cd8 := Cls.cells d8 (World.block_lt_of_cell? _ _ d8)
  have Cm0 := Cls.cells m0 (World.block_lt_of_cell? _ _ m0)
  have Cm1 := Cls.cells m1 (World.block_lt_of_cell? _ _ m1)
  refine wp_region_cls (by kernel_rfl) (by kernel_rfl) ?_
  repeat (go_big_quiet_step ((first | (go_at_call 44; with_reducible exact Cls.call (Nat.le_refl _) (wless_any _ _ _ _ _)))))
  refine wpQuiet_nil ?_
  intro w4 hb4
  have c1 := keepB_cell c1 w4 hb4
  have d6 := keepB_cell d6 w4 hb4
  have d7 := keepB_cell d7 w4 hb4
  have d8 := keepB_cell d8 w4 hb4
  have m0 := keepB_cell m0 w4 hb4
  have m1 := keepB_cell m1 w4 hb4
  clear Cc1 Cd6 Cd7 Cd8 Cm0 Cm1
  have hz4 := hz.same hb4
  have hm4 := hm.same hb4
  have hC4 := hC.same hb4
  have hR4 := hHR.out.below hb4
  have hG4 := grown_trans hG3 (grown_below hb4 _)
  go_wp2_with fail
  refine wp_world (fun wv => Blk wv w.heap.size 29 #[.int .u64 0, .int .u64 0, .int .u8 0, .bool false, .slice none 0 0] ∧ Blk wv wz.heap.size 29 #[.int .u64 hg, .int .u64 n1.1, .int .u8 hp, .bool false, .slice none 0 0] ∧ Blk wv cg 74 #[V3, .int .i64 n1.2.2] ∧ RdT wv (V3) n1.2.1 ∧ RdT wv (.slice none 0 0) [] ∧ w.grownBy wv (some cg)) ⟨hz4, hm4, hC4, hR4, RdT.nil _, hG4⟩ ?_
  rintro w9 ⟨hz9, hm9, hC9, hR9, hD9, hG9⟩
  clear hz hm hC hb d6 d7 d8 m0 m1 c1
  have m0 : w9.cell? ⟨wz.heap.size, 0, none⟩ = some (.int .u64 hg) := hm9.cell 0
  have m1 : w9.cell? ⟨wz.heap.size, 1, none⟩ = some (.int .u64 n1.1) := hm9.cell 1
  have m2 : w9.cell? ⟨wz.heap.size, 2, none⟩ = some (.int .u8 hp) := hm9.cell 2
  have m3 : w9.cell? ⟨wz.heap.size, 3, none⟩ = some (.bool false) := hm9.cell 3
  have m4 : w9.cell? ⟨wz.heap.size, 4, none⟩ = some (.slice none 0 0) := hm9.cell 4
  have z0 := hz9.frozen 0
  have z1 := hz9.frozen 1
  have z2 := hz9.frozen 2
  have z3 := hz9.frozen 3
  have z4 := hz9.frozen 4
  have y0 : w9.cell? ⟨w.heap.size, 0, none⟩ = some (.int .u64 0) := hz9.cell 0
  have y1 : w9.cell? ⟨w.heap.size, 1, none⟩ = some (.int .u64 0) := hz9.cell 1
  have y2 : w9.cell? ⟨w.heap.size, 2, none⟩ = some (.int .u8 0) := hz9.cell 2
  have y3 : w9.cell? ⟨w.heap.size, 3, none⟩ = some (.bool false) := hz9.cell 3
  have y4 : w9.cell? ⟨w.heap.size, 4, none⟩ = some (.slice none 0 0) := hz9.cell 4
  have c1 : w9.cell? ⟨cg, 1, none⟩ = some (.int .i64 n1.2.2) := hC9.cell 1
  have hlt4 : w.heap.size < w9.heap.size := hz9.lt
  have hlt5 : wz.heap.size < w9.heap.size := hm9.lt
  have hlt6 : cg < w9.heap.size := hC9.lt
  go_region
  all_goals
    go_wp2_with fail
    refine bodyPost_ret (v := .tuple #[.agg #[.int .u64 hg, .int .u64 n1.1, .int .u8 hp, .bool false, .slice none 0 0], .bool false]) (by simp [results, Try.results37, go_sem, y0, y1, y2, y3, y4]) rfl ⟨_, by first | rw [← Q1.out, HT.out, ← HCC.out] | rw [← Q1.out]; try rfl, ?_, ?_, ?_⟩
    · first | rw [← Q1.out, HT.out, ← HTT.out, ← HCC.out] | rw [← Q1.out, HT.out, ← HTT.out] | rw [← Q1.out, HT.out, ← HCC.out] | rw [← Q1.out] | skip
      exact five_rdt hD9 hz9 (by decide) _ _ _ _ _
    · first | rw [← Q1.out, HT.out, ← HTT.out, ← HCC.out] | rw [← Q1.out, HT.out, ← HTT.out] | rw [← Q1.out, HT.out, ← HCC.out] | rw [← Q1.out] | skip
      exact five_cut ⟨V3, hC9, hR9⟩ hz9 (by decide) (Ne.symm hzc) _ _ _ _ _
    · exact five_grown hG9 (Nat.le_refl _) _ _ _ _ _

set_option maxHeartbeats 1000000 in
set_option maxRecDepth 100000 in
theorem object_g_late (rg cg : Nat) (Vr : Value) (id hg hp : Int) (bg sm : Bool) (lg lo : Int) (ov : Bool) (s : List Int × Int) (w : World) (hb : Blk w rg 81 (rdrV Vr (false, id, hg, hp) bg sm lg lo ov)) (hc : CutT w cg s.1 s.2) (hs : StOk s) (h0 : (numS s).2.2 = 0) (hsm : sm = true) (hl : lessP lg lo hg (numS s).1 = false) :
    Calls Try.prog 37 #[.pointer (some ⟨rg, 0, none⟩), .pointer (some ⟨cg, 0, none⟩)] w fun e w' => ∃ V, e = .returned (.tuple #[.agg #[.int .u64 hg, .int .u64 (numS s).1, .int .u8 hp, .bool false, V], .bool false]) ∧ RdT w' V [] ∧ CutT w' cg (((numS s).2.1, (4 : Int))).1 (((numS s).2.1, (4 : Int))).2 ∧ w.grownBy w' (some cg) := by
  subst hsm
  have hne := hc.blk_ne hb (by decide)
  have d1 := show World.cell? w ⟨rg, 1, none⟩ = some (.bool false) from hb.cell 1
  have d3 := show World.cell? w ⟨rg, 3, none⟩ = some (.int .u64 hg) from hb.cell 3
  have d4 := show World.cell? w ⟨rg, 4, none⟩ = some (.int .u8 hp) from hb.cell 4
  have d6 := show World.cell? w ⟨rg, 6, none⟩ = some (.bool true) from hb.cell 6
  go_enter Try.func37, Try.ntmps37
  go_wp2_with fail
  refine wp_world (fun wz => Blk wz rg 81 (rdrV Vr (false, id, hg, hp) bg true lg lo ov) ∧ CutT wz cg s.1 s.2 ∧ Blk wz w.heap.size 29 #[.int .u64 0, .int .u64 0, .int .u8 0, .bool false, .slice none 0 0] ∧ w.grownBy wz (some cg)) ⟨hb.alloc _, hc.alloc _, Blk.new w _ _, grown_alloc (grown_refl _ _) _⟩ ?_
  clear d1 d3 d4 d6 hc
  have hlt0 := hb.lt
  clear hb
  rintro wz ⟨hb, hc, hz, hG⟩
  have d1 := show World.cell? wz ⟨rg, 1, none⟩ = some (.bool false) from hb.cell 1
  have d3 := show World.cell? wz ⟨rg, 3, none⟩ = some (.int .u64 hg) from hb.cell 3
  have d4 := show World.cell? wz ⟨rg, 4, none⟩ = some (.int .u8 hp) from hb.cell 4
  have d6 := show World.cell? wz ⟨rg, 6, none⟩ = some (.bool true) from hb.cell 6
  have hlt1 := hb.lt
  obtain ⟨n1, q1⟩ : ∃ n, n = numS s := ⟨_, rfl⟩
  have hk1 := (numS_ok hs).1
  rw [← q1] at hk1 h0 hl
  have Q1 := Lib.hid q1
  clear q1
  have hzc := hc.blk_ne hz (by decide)
  have hcl := hc.lt
  have hrl := hb.lt
  have hzl := hz.lt
  clear hlt1
  go_region
  go_wp2_with fail
  refine (cnum_anyT cg s _ (hc.alloc _).drew hs).mono ?_
  rintro e w2 ⟨rfl, hc2, hg2⟩
  rw [← Q1.out] at hc2 ⊢
  have hb2 := Blk.grown (hb.alloc (.cells #[.int .u64 hg, .int .u64 0, .int .u8 hp, .bool false, .slice none 0 0] 29)).drew hg2 (by simpa using hne)
  have hz2 := Blk.grown (hz.alloc (.cells #[.int .u64 hg, .int .u64 0, .int .u8 hp, .bool false, .slice none 0 0] 29)).drew hg2 (by simpa using hzc)
  have hm2 := Blk.grown (Blk.new wz 29 #[.int .u64 hg, .int .u64 0, .int .u8 hp, .bool false, .slice none 0 0]).drew hg2 (by simp; omega)
  clear hb hz hc d1 d3 d4 d6
  have m1 := hm2.frozen 1
  have m2 := show World.cell? w2 ⟨wz.heap.size, 1, none⟩ = some (.int .u64 0) from hm2.cell 1
  go_wp2_with fail
  have hGa := grown_trans (grown_drew (grown_alloc hG (.cells #[.int .u64 hg, .int .u64 0, .int .u8 hp, .bool false, .slice none 0 0] 29))) hg2
  refine wp_world (fun wy => Blk wy rg 81 (rdrV Vr (false, id, hg, hp) bg true lg lo ov) ∧ CutT wy cg n1.2.1 n1.2.2 ∧ Blk wy w.heap.size 29 #[.int .u64 0, .int .u64 0, .int .u8 0, .bool false, .slice none 0 0] ∧ Blk wy wz.heap.size 29 #[.int .u64 hg, .int .u64 n1.1, .int .u8 hp, .bool false, .slice none 0 0] ∧ w.grownBy wy (some cg)) ⟨hb2.far (by simp; omega) _, ?_, hz2.far (by simp; omega) _, hm2.set_ 1 _, grown_set_new hGa (by simp; exact hG.size) _⟩ ?_
  · obtain ⟨V2, hC2, hR2⟩ := hc2
    exact ⟨V2, hC2.far (by simp; omega) _, rdt_set hR2 hm2 (by decide) 1 _⟩
  clear hb2 hc2 hz2 hm2 hg2 hGa m1 m2
  rintro w3 ⟨hb, hc, hz, hm, hG3⟩
  obtain ⟨V3, hC, hR⟩ := hc
  have hHR := Lib.hid hR
  clear hR
  have c1 := show World.cell? w3 ⟨cg, 1, none⟩ = some (.int .i64 n1.2.2) from hC.cell 1
  have d6 := show World.cell? w3 ⟨rg, 6, none⟩ = some (.bool true) from hb.cell 6
  have d7 := show World.cell? w3 ⟨rg, 7, none⟩ = some (.int .u64 lg) from hb.cell 7
  have d8 := show World.cell? w3 ⟨rg, 8, none⟩ = some (.int .u64 lo) from hb.cell 8
  have m0 := show World.cell? w3 ⟨wz.heap.size, 0, none⟩ = some (.int .u64 hg) from hm.cell 0
  have m1 := show World.cell? w3 ⟨wz.heap.size, 1, none⟩ = some (.int .u64 n1.1) from hm.cell 1
  rw [h0] at c1 hC
  clear h0
  have Cc1 := Cls.cells c1 (World.block_lt_of_cell? _ _ c1)
  have Cd6 := Cls.cells d6 (World.block_lt_of_cell? _ _ d6)
  have Cd7 := Cls.cells d7 (World.block_lt_of_cell? _ _ d7)
  have Cd8 := Cls.cells d8 (World.block_lt_of_cell? _ _ d8)
  have Cm0 := Cls.cells m0 (World.block_lt_of_cell? _ _ m0)
  have Cm1 := Cls.cells m1 (World.block_lt_of_cell? _ _ m1)
  refine wp_region_cls (by kernel_rfl) (by kernel_rfl) ?_
  repeat (go_big_quiet_step ((first | (go_at_call 44; with_reducible exact Cls.call (Nat.le_refl _) (wless_is _ _ _ _ _ hl _)))))
  refine wpQuiet_nil ?_
  intro w4 hb4
  have c1 := keepB_cell c1 w4 hb4
  have d6 := keepB_cell d6 w4 hb4
  have d7 := keepB_cell d7 w4 hb4
  have d8 := keepB_cell d8 w4 hb4
  have m0 := keepB_cell m0 w4 hb4
  have m1 := keepB_cell m1 w4 hb4
  clear Cc1 Cd6 Cd7 Cd8 Cm0 Cm1
  have hz4 := hz.same hb4
  have hm4 := hm.same hb4
  have hC4 := hC.same hb4
  have hR4 := hHR.out.below hb4
  have hG4 := grown_trans hG3 (grown_below hb4 _)
  have f1 := hC4.frozen 1
  go_wp2_with fail
  refine wp_world (fun wv => Blk wv w.heap.size 29 #[.int .u64 0, .int .u64 0, .int .u8 0, .bool false, .slice none 0 0] ∧ Blk wv wz.heap.size 29 #[.int .u64 hg, .int .u64 n1.1, .int .u8 hp, .bool false, .slice none 0 0] ∧ Blk wv cg 74 #[V3, .int .i64 4] ∧ RdT wv (V3) n1.2.1 ∧ RdT wv (.slice none 0 0) [] ∧ w.grownBy wv (some cg)) ⟨hz4.far (by simp; omega) _, hm4.far (by simp; omega) _, hC4.set_ 1 _, rdt_set hR4 hC4 (by decide) 1 _, RdT.nil _, grown_set hG4 _ _⟩ ?_
  rintro w9 ⟨hz9, hm9, hC9, hR9, hD9, hG9⟩
  clear hz hm hC hb d6 d7 d8 m0 m1 c1
  have m0 : w9.cell? ⟨wz.heap.size, 0, none⟩ = some (.int .u64 hg) := hm9.cell 0
  have m1 : w9.cell? ⟨wz.heap.size, 1, none⟩ = some (.int .u64 n1.1) := hm9.cell 1
  have m2 : w9.cell? ⟨wz.heap.size, 2, none⟩ = some (.int .u8 hp) := hm9.cell 2
  have m3 : w9.cell? ⟨wz.heap.size, 3, none⟩ = some (.bool false) := hm9.cell 3
  have m4 : w9.cell? ⟨wz.heap.size, 4, none⟩ = some (.slice none 0 0) := hm9.cell 4
  have z0 := hz9.frozen 0
  have z1 := hz9.frozen 1
  have z2 := hz9.frozen 2
  have z3 := hz9.frozen 3
  have z4 := hz9.frozen 4
  have y0 : w9.cell? ⟨w.heap.size, 0, none⟩ = some (.int .u64 0) := hz9.cell 0
  have y1 : w9.cell? ⟨w.heap.size, 1, none⟩ = some (.int .u64 0) := hz9.cell 1
  have y2 : w9.cell? ⟨w.heap.size, 2, none⟩ = some (.int .u8 0) := hz9.cell 2
  have y3 : w9.cell? ⟨w.heap.size, 3, none⟩ = some (.bool false) := hz9.cell 3
  have y4 : w9.cell? ⟨w.heap.size, 4, none⟩ = some (.slice none 0 0) := hz9.cell 4
  have c1 : w9.cell? ⟨cg, 1, none⟩ = some (.int .i64 4) := hC9.cell 1
  have hlt4 : w.heap.size < w9.heap.size := hz9.lt
  have hlt5 : wz.heap.size < w9.heap.size := hm9.lt
  have hlt6 : cg < w9.heap.size := hC9.lt
  go_region
  all_goals
    go_wp2_with fail
    refine bodyPost_ret (v := .tuple #[.agg #[.int .u64 hg, .int .u64 n1.1, .int .u8 hp, .bool false, .slice none 0 0], .bool false]) (by simp [results, Try.results37, go_sem, y0, y1, y2, y3, y4]) rfl ⟨_, by first | rw [← Q1.out, HT.out, ← HCC.out] | rw [← Q1.out]; try rfl, ?_, ?_, ?_⟩
    · first | rw [← Q1.out, HT.out, ← HTT.out, ← HCC.out] | rw [← Q1.out, HT.out, ← HTT.out] | rw [← Q1.out, HT.out, ← HCC.out] | rw [← Q1.out] | skip
      exact five_rdt hD9 hz9 (by decide) _ _ _ _ _
    · first | rw [← Q1.out, HT.out, ← HTT.out, ← HCC.out] | rw [← Q1.out, HT.out, ← HTT.out] | rw [← Q1.out, HT.out, ← HCC.out] | rw [← Q1.out] | skip
      exact five_cut ⟨V3, hC9, hR9⟩ hz9 (by decide) (Ne.symm hzc) _ _ _ _ _
    · exact five_grown hG9 (Nat.le_refl _) _ _ _ _ _

end Go.Proofs.Ythmdbkefbbjfmaa
