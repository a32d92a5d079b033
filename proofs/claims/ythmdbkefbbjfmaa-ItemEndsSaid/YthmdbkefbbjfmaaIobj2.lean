/-
  The next object of a reader, of a group and of a fetch, whole.
-/
import Derived.Test.YthmdbkefbbjfmaaIobject
namespace Go.Proofs.Ythmdbkefbbjfmaa
open Go.RowKit
set_option linter.unusedVariables false
set_option linter.unusedSimpArgs false


/-- What an object's front reads: group, number, priority; the cut behind it. -/
def rdS (f : Bool) (hg hp : Int) (s : List Int × Int) : (Int × Int × Int) × (List Int × Int) :=
  if f = true then (((numS s).1, (numS (numS s).2).1, (oneS (numS (numS s).2).2).1), (oneS (numS (numS s).2).2).2) else ((hg, (numS s).1, hp), (numS s).2)
/-- .. and its bytes. -/
def objS (f : Bool) (hg hp : Int) (sm : Bool) (lg lo : Int) (s : List Int × Int) : (Int × Int × Int) × List Int × (List Int × Int) :=
  if (rdS f hg hp s).2.2 ≠ 0 then ((rdS f hg hp s).1, [], (rdS f hg hp s).2)
  else if (sm && !lessP lg lo (rdS f hg hp s).1.1 (rdS f hg hp s).1.2.1) = true then ((rdS f hg hp s).1, [], ((rdS f hg hp s).2.1, 4))
  else ((rdS f hg hp s).1, (textS (rdS f hg hp s).2).1, (textS (rdS f hg hp s).2).2)
theorem rdS_ok {f : Bool} {hg hp : Int} {s : List Int × Int} (hs : StOk s) : StOk (rdS f hg hp s).2 := by
  unfold rdS
  split
  · exact (oneS_ok (numS_ok (numS_ok hs).1).1).1
  · exact (numS_ok hs).1

set_option maxHeartbeats 2000000 in
set_option maxRecDepth 100000 in
theorem obj_g_bad (rg cg : Nat) (Vr : Value) (id hg hp : Int) (bg sm : Bool) (lg lo : Int) (ov : Bool) (s : List Int × Int) (w : World) (hb : Blk w rg 81 (rdrV Vr (false, id, hg, hp) bg sm lg lo ov)) (hc : CutT w cg s.1 s.2) (hs : StOk s) (hcase : (rdS false hg hp s).2.2 ≠ 0) :
    Calls Try.prog 37 #[.pointer (some ⟨rg, 0, none⟩), .pointer (some ⟨cg, 0, none⟩)] w fun e w' => ∃ V, e = .returned (.tuple #[.agg #[.int .u64 (rdS false hg hp s).1.1, .int .u64 (rdS false hg hp s).1.2.1, .int .u8 (rdS false hg hp s).1.2.2, .bool false, V], .bool false]) ∧ RdT w' V [] ∧ CutT w' cg ((rdS false hg hp s).2).1 ((rdS false hg hp s).2).2 ∧ w.grownBy w' (some cg) := by
  have hxk := rdS_ok (f := false) (hg := hg) (hp := hp) hs
  obtain ⟨x, hx⟩ : ∃ x, x = rdS false hg hp s := ⟨_, rfl⟩
  rw [← hx] at hxk hcase ⊢
  have hne := hc.blk_ne hb (by decide)
  have d1 := show World.cell? w ⟨rg, 1, none⟩ = some (.bool false) from hb.cell 1
  have d3 := show World.cell? w ⟨rg, 3, none⟩ = some (.int .u64 hg) from hb.cell 3
  have d4 := show World.cell? w ⟨rg, 4, none⟩ = some (.int .u8 hp) from hb.cell 4
  have d6 := show World.cell? w ⟨rg, 6, none⟩ = some (.bool sm) from hb.cell 6
  go_enter Try.func37, Try.ntmps37
  go_wp2_with fail
  refine wp_world (fun wz => Blk wz rg 81 (rdrV Vr (false, id, hg, hp) bg sm lg lo ov) ∧ CutT wz cg s.1 s.2 ∧ Blk wz w.heap.size 29 #[.int .u64 0, .int .u64 0, .int .u8 0, .bool false, .slice none 0 0] ∧ w.grownBy wz (some cg)) ⟨hb.alloc _, hc.alloc _, Blk.new w _ _, grown_alloc (grown_refl _ _) _⟩ ?_
  clear d1 d3 d4 d6 hc
  have hlt0 := hb.lt
  clear hb
  rintro wz ⟨hb, hc, hz, hG⟩
  have d1 := show World.cell? wz ⟨rg, 1, none⟩ = some (.bool false) from hb.cell 1
  have d3 := show World.cell? wz ⟨rg, 3, none⟩ = some (.int .u64 hg) from hb.cell 3
  have d4 := show World.cell? wz ⟨rg, 4, none⟩ = some (.int .u8 hp) from hb.cell 4
  have d6 := show World.cell? wz ⟨rg, 6, none⟩ = some (.bool sm) from hb.cell 6
  have hlt1 := hb.lt
  obtain ⟨n1, q1⟩ : ∃ n, n = numS s := ⟨_, rfl⟩
  have hk1 := (numS_ok hs).1
  rw [← q1] at hk1
  have hx' : x = ((hg, n1.1, hp), n1.2) := by rw [hx]; unfold rdS; rw [if_neg (by decide), q1]
  have HX' := Lib.hid hx'
  have Q1 := Lib.hid q1
  clear q1 hx hx'
  have hzc := hc.blk_ne hz (by decide)
  have hcl := hc.lt
  have hrl := hb.lt
  have hzl := hz.lt
  clear hlt1
  go_region
  go_wp2_with fail
  refine (cnum_anyT cg s _ (hc.alloc _).drew hs).mono ?_
  rintro e w2 ⟨rfl, hc2, hg2⟩
  rw [← Q1.out] at hc2 ⊢
  have hb2 := Blk.grown (hb.alloc (.cells #[.int .u64 hg, .int .u64 0, .int .u8 hp, .bool false, .slice none 0 0] 29)).drew hg2 (by simpa using hne)
  have hz2 := Blk.grown (hz.alloc (.cells #[.int .u64 hg, .int .u64 0, .int .u8 hp, .bool false, .slice none 0 0] 29)).drew hg2 (by simpa using hzc)
  have hm2 := Blk.grown (Blk.new wz 29 #[.int .u64 hg, .int .u64 0, .int .u8 hp, .bool false, .slice none 0 0]).drew hg2 (by simp; omega)
  have hGa := grown_trans (grown_drew (grown_alloc hG (.cells #[.int .u64 hg, .int .u64 0, .int .u8 hp, .bool false, .slice none 0 0] 29))) hg2
  clear hb hz hc d1 d3 d4 d6 hg2
  have m1 := hm2.frozen 1
  have m2 := show World.cell? w2 ⟨wz.heap.size, 1, none⟩ = some (.int .u64 0) from hm2.cell 1
  go_wp2_with fail
  refine wp_world (fun wy => Blk wy rg 81 (rdrV Vr (false, id, hg, hp) bg sm lg lo ov) ∧ CutT wy cg x.2.1 x.2.2 ∧ Blk wy w.heap.size 29 #[.int .u64 0, .int .u64 0, .int .u8 0, .bool false, .slice none 0 0] ∧ Blk wy wz.heap.size 29 #[.int .u64 x.1.1, .int .u64 x.1.2.1, .int .u8 x.1.2.2, .bool false, .slice none 0 0] ∧ w.grownBy wy (some cg)) ?_ ?_
  · rw [HX'.out]
    refine ⟨hb2.far (by simp; omega) _, ?_, hz2.far (by simp; omega) _, hm2.set_ 1 _, grown_set_new hGa (by simp; exact hG.size) _⟩
    · obtain ⟨V2, hC2, hR2⟩ := hc2
      exact ⟨V2, hC2.far (by simp; omega) _, rdt_set hR2 hm2 (by decide) 1 _⟩
  clear hb2 hc2 hz2 hm2 hGa m1 m2
  rintro w3 ⟨hb, hc, hz, hm, hG3⟩
  clear HX' Q1
  obtain ⟨⟨G, O, P⟩, LL, E⟩ := x
  simp only at hc hm hxk hcase ⊢
  obtain ⟨V3, hC, hR⟩ := hc
  have hHR := Lib.hid hR
  clear hR
  have c1 := show World.cell? w3 ⟨cg, 1, none⟩ = some (.int .i64 E) from hC.cell 1
  have d6 := show World.cell? w3 ⟨rg, 6, none⟩ = some (.bool sm) from hb.cell 6
  have d7 := show World.cell? w3 ⟨rg, 7, none⟩ = some (.int .u64 lg) from hb.cell 7
  have d8 := show World.cell? w3 ⟨rg, 8, none⟩ = some (.int .u64 lo) from hb.cell 8
  have m0 := show World.cell? w3 ⟨wz.heap.size, 0, none⟩ = some (.int .u64 G) from hm.cell 0
  have m1 := show World.cell? w3 ⟨wz.heap.size, 1, none⟩ = some (.int .u64 O) from hm.cell 1
  have g0 : (E == 0) = false := by simpa using hcase
  clear hcase
  have Cc1 := Cls.cells c1 (World.block_lt_of_cell? _ _ c1)
  have Cd6 := Cls.cells d6 (World.block_lt_of_cell? _ _ d6)
  have Cd7 := Cls.cells d7 (World.block_lt_of_cell? _ _ d7)
  have Cd8 := Cls.cells d8 (World.block_lt_of_cell? _ _ d8)
  have Cm0 := Cls.cells m0 (World.block_lt_of_cell? _ _ m0)
  have Cm1 := Cls.cells m1 (World.block_lt_of_cell? _ _ m1)
  refine wp_region_cls (by kernel_rfl) (by kernel_rfl) ?_
  repeat (go_big_quiet_step ((first | (go_at_call 44; with_reducible exact Cls.call (Nat.le_refl _) (wless_any _ _ _ _ _)))))
  refine wpQuiet_nil ?_
  intro w4 hb4
  have c1 := keepB_cell c1 w4 hb4
  have d6 := keepB_cell d6 w4 hb4
  have d7 := keepB_cell d7 w4 hb4
  have d8 := keepB_cell d8 w4 hb4
  have m0 := keepB_cell m0 w4 hb4
  have m1 := keepB_cell m1 w4 hb4
  clear Cc1 Cd6 Cd7 Cd8 Cm0 Cm1
  have hz4 := hz.same hb4
  have hm4 := hm.same hb4
  have hC4 := hC.same hb4
  have hR4 := hHR.out.below hb4
  have hG4 := grown_trans hG3 (grown_below hb4 _)
  go_wp2_with fail
  refine wp_world (fun wv => Blk wv w.heap.size 29 #[.int .u64 0, .int .u64 0, .int .u8 0, .bool false, .slice none 0 0] ∧ Blk wv wz.heap.size 29 #[.int .u64 G, .int .u64 O, .int .u8 P, .bool false, .slice none 0 0] ∧ Blk wv cg 74 #[V3, .int .i64 E] ∧ RdT wv (V3) LL ∧ RdT wv (.slice none 0 0) [] ∧ w.grownBy wv (some cg)) ⟨hz4, hm4, hC4, hR4, RdT.nil _, hG4⟩ ?_
  rintro w9 ⟨hz9, hm9, hC9, hR9, hD9, hG9⟩
  clear hz hm hC hb d6 d7 d8 m0 m1 c1
  have m0 : w9.cell? ⟨wz.heap.size, 0, none⟩ = some (.int .u64 G) := hm9.cell 0
  have m1 : w9.cell? ⟨wz.heap.size, 1, none⟩ = some (.int .u64 O) := hm9.cell 1
  have m2 : w9.cell? ⟨wz.heap.size, 2, none⟩ = some (.int .u8 P) := hm9.cell 2
  have m3 : w9.cell? ⟨wz.heap.size, 3, none⟩ = some (.bool false) := hm9.cell 3
  have m4 : w9.cell? ⟨wz.heap.size, 4, none⟩ = some (.slice none 0 0) := hm9.cell 4
  have z0 := hz9.frozen 0
  have z1 := hz9.frozen 1
  have z2 := hz9.frozen 2
  have z3 := hz9.frozen 3
  have z4 := hz9.frozen 4
  have y0 : w9.cell? ⟨w.heap.size, 0, none⟩ = some (.int .u64 0) := hz9.cell 0
  have y1 : w9.cell? ⟨w.heap.size, 1, none⟩ = some (.int .u64 0) := hz9.cell 1
  have y2 : w9.cell? ⟨w.heap.size, 2, none⟩ = some (.int .u8 0) := hz9.cell 2
  have y3 : w9.cell? ⟨w.heap.size, 3, none⟩ = some (.bool false) := hz9.cell 3
  have y4 : w9.cell? ⟨w.heap.size, 4, none⟩ = some (.slice none 0 0) := hz9.cell 4
  have c1 : w9.cell? ⟨cg, 1, none⟩ = some (.int .i64 E) := hC9.cell 1
  have hlt4 : w.heap.size < w9.heap.size := hz9.lt
  have hlt5 : wz.heap.size < w9.heap.size := hm9.lt
  have hlt6 : cg < w9.heap.size := hC9.lt
  go_region
  all_goals
    go_wp2_with fail
    refine bodyPost_ret (v := .tuple #[.agg #[.int .u64 G, .int .u64 O, .int .u8 P, .bool false, .slice none 0 0], .bool false]) (by simp [results, Try.results37, go_sem, y0, y1, y2, y3, y4]) rfl ⟨_, by first | rw [HT.out, ← HCC.out] | rfl, ?_, ?_, ?_⟩
    · first | rw [HT.out, ← HTT.out, ← HCC.out] | rw [HT.out, ← HTT.out] | rw [HT.out, ← HCC.out] | skip
      exact five_rdt hD9 hz9 (by decide) _ _ _ _ _
    · first | rw [HT.out, ← HTT.out, ← HCC.out] | rw [HT.out, ← HTT.out] | rw [HT.out, ← HCC.out] | skip
      exact five_cut ⟨V3, hC9, hR9⟩ hz9 (by decide) (Ne.symm hzc) _ _ _ _ _
    · exact five_grown hG9 (Nat.le_refl _) _ _ _ _ _

set_option maxHeartbeats 2000000 in
set_option maxRecDepth 100000 in
theorem obj_g_late (rg cg : Nat) (Vr : Value) (id hg hp : Int) (bg : Bool) (lg lo : Int) (ov : Bool) (s : List Int × Int) (w : World) (hb : Blk w rg 81 (rdrV Vr (false, id, hg, hp) bg true lg lo ov)) (hc : CutT w cg s.1 s.2) (hs : StOk s) (hcase : (rdS false hg hp s).2.2 = 0 ∧ lessP lg lo (rdS false hg hp s).1.1 (rdS false hg hp s).1.2.1 = false) :
    Calls Try.prog 37 #[.pointer (some ⟨rg, 0, none⟩), .pointer (some ⟨cg, 0, none⟩)] w fun e w' => ∃ V, e = .returned (.tuple #[.agg #[.int .u64 (rdS false hg hp s).1.1, .int .u64 (rdS false hg hp s).1.2.1, .int .u8 (rdS false hg hp s).1.2.2, .bool false, V], .bool false]) ∧ RdT w' V [] ∧ CutT w' cg (((rdS false hg hp s).2.1, (4 : Int))).1 (((rdS false hg hp s).2.1, (4 : Int))).2 ∧ w.grownBy w' (some cg) := by
  have hxk := rdS_ok (f := false) (hg := hg) (hp := hp) hs
  obtain ⟨x, hx⟩ : ∃ x, x = rdS false hg hp s := ⟨_, rfl⟩
  rw [← hx] at hxk hcase ⊢
  have hne := hc.blk_ne hb (by decide)
  have d1 := show World.cell? w ⟨rg, 1, none⟩ = some (.bool false) from hb.cell 1
  have d3 := show World.cell? w ⟨rg, 3, none⟩ = some (.int .u64 hg) from hb.cell 3
  have d4 := show World.cell? w ⟨rg, 4, none⟩ = some (.int .u8 hp) from hb.cell 4
  have d6 := show World.cell? w ⟨rg, 6, none⟩ = some (.bool true) from hb.cell 6
  go_enter Try.func37, Try.ntmps37
  go_wp2_with fail
  refine wp_world (fun wz => Blk wz rg 81 (rdrV Vr (false, id, hg, hp) bg true lg lo ov) ∧ CutT wz cg s.1 s.2 ∧ Blk wz w.heap.size 29 #[.int .u64 0, .int .u64 0, .int .u8 0, .bool false, .slice none 0 0] ∧ w.grownBy wz (some cg)) ⟨hb.alloc _, hc.alloc _, Blk.new w _ _, grown_alloc (grown_refl _ _) _⟩ ?_
  clear d1 d3 d4 d6 hc
  have hlt0 := hb.lt
  clear hb
  rintro wz ⟨hb, hc, hz, hG⟩
  have d1 := show World.cell? wz ⟨rg, 1, none⟩ = some (.bool false) from hb.cell 1
  have d3 := show World.cell? wz ⟨rg, 3, none⟩ = some (.int .u64 hg) from hb.cell 3
  have d4 := show World.cell? wz ⟨rg, 4, none⟩ = some (.int .u8 hp) from hb.cell 4
  have d6 := show World.cell? wz ⟨rg, 6, none⟩ = some (.bool true) from hb.cell 6
  have hlt1 := hb.lt
  obtain ⟨n1, q1⟩ : ∃ n, n = numS s := ⟨_, rfl⟩
  have hk1 := (numS_ok hs).1
  rw [← q1] at hk1
  have hx' : x = ((hg, n1.1, hp), n1.2) := by rw [hx]; unfold rdS; rw [if_neg (by decide), q1]
  have HX' := Lib.hid hx'
  have Q1 := Lib.hid q1
  clear q1 hx hx'
  have hzc := hc.blk_ne hz (by decide)
  have hcl := hc.lt
  have hrl := hb.lt
  have hzl := hz.lt
  clear hlt1
  go_region
  go_wp2_with fail
  refine (cnum_anyT cg s _ (hc.alloc _).drew hs).mono ?_
  rintro e w2 ⟨rfl, hc2, hg2⟩
  rw [← Q1.out] at hc2 ⊢
  have hb2 := Blk.grown (hb.alloc (.cells #[.int .u64 hg, .int .u64 0, .int .u8 hp, .bool false, .slice none 0 0] 29)).drew hg2 (by simpa using hne)
  have hz2 := Blk.grown (hz.alloc (.cells #[.int .u64 hg, .int .u64 0, .int .u8 hp, .bool false, .slice none 0 0] 29)).drew hg2 (by simpa using hzc)
  have hm2 := Blk.grown (Blk.new wz 29 #[.int .u64 hg, .int .u64 0, .int .u8 hp, .bool false, .slice none 0 0]).drew hg2 (by simp; omega)
  have hGa := grown_trans (grown_drew (grown_alloc hG (.cells #[.int .u64 hg, .int .u64 0, .int .u8 hp, .bool false, .slice none 0 0] 29))) hg2
  clear hb hz hc d1 d3 d4 d6 hg2
  have m1 := hm2.frozen 1
  have m2 := show World.cell? w2 ⟨wz.heap.size, 1, none⟩ = some (.int .u64 0) from hm2.cell 1
  go_wp2_with fail
  refine wp_world (fun wy => Blk wy rg 81 (rdrV Vr (false, id, hg, hp) bg true lg lo ov) ∧ CutT wy cg x.2.1 x.2.2 ∧ Blk wy w.heap.size 29 #[.int .u64 0, .int .u64 0, .int .u8 0, .bool false, .slice none 0 0] ∧ Blk wy wz.heap.size 29 #[.int .u64 x.1.1, .int .u64 x.1.2.1, .int .u8 x.1.2.2, .bool false, .slice none 0 0] ∧ w.grownBy wy (some cg)) ?_ ?_
  · rw [HX'.out]
    refine ⟨hb2.far (by simp; omega) _, ?_, hz2.far (by simp; omega) _, hm2.set_ 1 _, grown_set_new hGa (by simp; exact hG.size) _⟩
    · obtain ⟨V2, hC2, hR2⟩ := hc2
      exact ⟨V2, hC2.far (by simp; omega) _, rdt_set hR2 hm2 (by decide) 1 _⟩
  clear hb2 hc2 hz2 hm2 hGa m1 m2
  rintro w3 ⟨hb, hc, hz, hm, hG3⟩
  clear HX' Q1
  obtain ⟨⟨G, O, P⟩, LL, E⟩ := x
  simp only at hc hm hxk hcase ⊢
  obtain ⟨V3, hC, hR⟩ := hc
  have hHR := Lib.hid hR
  clear hR
  have c1 := show World.cell? w3 ⟨cg, 1, none⟩ = some (.int .i64 E) from hC.cell 1
  have d6 := show World.cell? w3 ⟨rg, 6, none⟩ = some (.bool true) from hb.cell 6
  have d7 := show World.cell? w3 ⟨rg, 7, none⟩ = some (.int .u64 lg) from hb.cell 7
  have d8 := show World.cell? w3 ⟨rg, 8, none⟩ = some (.int .u64 lo) from hb.cell 8
  have m0 := show World.cell? w3 ⟨wz.heap.size, 0, none⟩ = some (.int .u64 G) from hm.cell 0
  have m1 := show World.cell? w3 ⟨wz.heap.size, 1, none⟩ = some (.int .u64 O) from hm.cell 1
  obtain ⟨rfl, hl⟩ := hcase
  have Cc1 := Cls.cells c1 (World.block_lt_of_cell? _ _ c1)
  have Cd6 := Cls.cells d6 (World.block_lt_of_cell? _ _ d6)
  have Cd7 := Cls.cells d7 (World.block_lt_of_cell? _ _ d7)
  have Cd8 := Cls.cells d8 (World.block_lt_of_cell? _ _ d8)
  have Cm0 := Cls.cells m0 (World.block_lt_of_cell? _ _ m0)
  have Cm1 := Cls.cells m1 (World.block_lt_of_cell? _ _ m1)
  refine wp_region_cls (by kernel_rfl) (by kernel_rfl) ?_
  repeat (go_big_quiet_step ((first | (go_at_call 44; with_reducible exact Cls.call (Nat.le_refl _) (wless_is _ _ _ _ _ hl _)))))
  refine wpQuiet_nil ?_
  intro w4 hb4
  have c1 := keepB_cell c1 w4 hb4
  have d6 := keepB_cell d6 w4 hb4
  have d7 := keepB_cell d7 w4 hb4
  have d8 := keepB_cell d8 w4 hb4
  have m0 := keepB_cell m0 w4 hb4
  have m1 := keepB_cell m1 w4 hb4
  clear Cc1 Cd6 Cd7 Cd8 Cm0 Cm1
  have hz4 := hz.same hb4
  have hm4 := hm.same hb4
  have hC4 := hC.same hb4
  have hR4 := hHR.out.below hb4
  have hG4 := grown_trans hG3 (grown_below hb4 _)
  have f1 := hC4.frozen 1
  go_wp2_with fail
  refine wp_world (fun wv => Blk wv w.heap.size 29 #[.int .u64 0, .int .u64 0, .int .u8 0, .bool false, .slice none 0 0] ∧ Blk wv wz.heap.size 29 #[.int .u64 G, .int .u64 O, .int .u8 P, .bool false, .slice none 0 0] ∧ Blk wv cg 74 #[V3, .int .i64 4] ∧ RdT wv (V3) LL ∧ RdT wv (.slice none 0 0) [] ∧ w.grownBy wv (some cg)) ⟨hz4.far (by simp; omega) _, hm4.far (by simp; omega) _, hC4.set_ 1 _, rdt_set hR4 hC4 (by decide) 1 _, RdT.nil _, grown_set hG4 _ _⟩ ?_
  rintro w9 ⟨hz9, hm9, hC9, hR9, hD9, hG9⟩
  clear hz hm hC hb d6 d7 d8 m0 m1 c1
  have m0 : w9.cell? ⟨wz.heap.size, 0, none⟩ = some (.int .u64 G) := hm9.cell 0
  have m1 : w9.cell? ⟨wz.heap.size, 1, none⟩ = some (.int .u64 O) := hm9.cell 1
  have m2 : w9.cell? ⟨wz.heap.size, 2, none⟩ = some (.int .u8 P) := hm9.cell 2
  have m3 : w9.cell? ⟨wz.heap.size, 3, none⟩ = some (.bool false) := hm9.cell 3
  have m4 : w9.cell? ⟨wz.heap.size, 4, none⟩ = some (.slice none 0 0) := hm9.cell 4
  have z0 := hz9.frozen 0
  have z1 := hz9.frozen 1
  have z2 := hz9.frozen 2
  have z3 := hz9.frozen 3
  have z4 := hz9.frozen 4
  have y0 : w9.cell? ⟨w.heap.size, 0, none⟩ = some (.int .u64 0) := hz9.cell 0
  have y1 : w9.cell? ⟨w.heap.size, 1, none⟩ = some (.int .u64 0) := hz9.cell 1
  have y2 : w9.cell? ⟨w.heap.size, 2, none⟩ = some (.int .u8 0) := hz9.cell 2
  have y3 : w9.cell? ⟨w.heap.size, 3, none⟩ = some (.bool false) := hz9.cell 3
  have y4 : w9.cell? ⟨w.heap.size, 4, none⟩ = some (.slice none 0 0) := hz9.cell 4
  have c1 : w9.cell? ⟨cg, 1, none⟩ = some (.int .i64 4) := hC9.cell 1
  have hlt4 : w.heap.size < w9.heap.size := hz9.lt
  have hlt5 : wz.heap.size < w9.heap.size := hm9.lt
  have hlt6 : cg < w9.heap.size := hC9.lt
  go_region
  all_goals
    go_wp2_with fail
    refine bodyPost_ret (v := .tuple #[.agg #[.int .u64 G, .int .u64 O, .int .u8 P, .bool false, .slice none 0 0], .bool false]) (by simp [results, Try.results37, go_sem, y0, y1, y2, y3, y4]) rfl ⟨_, by first | rw [HT.out, ← HCC.out] | rfl, ?_, ?_, ?_⟩
    · first | rw [HT.out, ← HTT.out, ← HCC.out] | rw [HT.out, ← HTT.out] | rw [HT.out, ← HCC.out] | skip
      exact five_rdt hD9 hz9 (by decide) _ _ _ _ _
    · first | rw [HT.out, ← HTT.out, ← HCC.out] | rw [HT.out, ← HTT.out] | rw [HT.out, ← HCC.out] | skip
      exact five_cut ⟨V3, hC9, hR9⟩ hz9 (by decide) (Ne.symm hzc) _ _ _ _ _
    · exact five_grown hG9 (Nat.le_refl _) _ _ _ _ _

set_option maxHeartbeats 2000000 in
set_option maxRecDepth 100000 in
theorem obj_g_okn (rg cg : Nat) (Vr : Value) (id hg hp : Int) (bg : Bool) (lg lo : Int) (ov : Bool) (s : List Int × Int) (w : World) (hb : Blk w rg 81 (rdrV Vr (false, id, hg, hp) bg false lg lo ov)) (hc : CutT w cg s.1 s.2) (hs : StOk s) (hcase : (rdS false hg hp s).2.2 = 0) :
    Calls Try.prog 37 #[.pointer (some ⟨rg, 0, none⟩), .pointer (some ⟨cg, 0, none⟩)] w fun e w' => ∃ V, e = .returned (.tuple #[.agg #[.int .u64 (rdS false hg hp s).1.1, .int .u64 (rdS false hg hp s).1.2.1, .int .u8 (rdS false hg hp s).1.2.2, .bool false, V], .bool ((textS (rdS false hg hp s).2).2.2 == 0)]) ∧ RdT w' V (textS (rdS false hg hp s).2).1 ∧ CutT w' cg ((textS (rdS false hg hp s).2).2).1 ((textS (rdS false hg hp s).2).2).2 ∧ w.grownBy w' (some cg) := by
  have hxk := rdS_ok (f := false) (hg := hg) (hp := hp) hs
  obtain ⟨x, hx⟩ : ∃ x, x = rdS false hg hp s := ⟨_, rfl⟩
  rw [← hx] at hxk hcase ⊢
  have hne := hc.blk_ne hb (by decide)
  have d1 := show World.cell? w ⟨rg, 1, none⟩ = some (.bool false) from hb.cell 1
  have d3 := show World.cell? w ⟨rg, 3, none⟩ = some (.int .u64 hg) from hb.cell 3
  have d4 := show World.cell? w ⟨rg, 4, none⟩ = some (.int .u8 hp) from hb.cell 4
  have d6 := show World.cell? w ⟨rg, 6, none⟩ = some (.bool false) from hb.cell 6
  go_enter Try.func37, Try.ntmps37
  go_wp2_with fail
  refine wp_world (fun wz => Blk wz rg 81 (rdrV Vr (false, id, hg, hp) bg false lg lo ov) ∧ CutT wz cg s.1 s.2 ∧ Blk wz w.heap.size 29 #[.int .u64 0, .int .u64 0, .int .u8 0, .bool false, .slice none 0 0] ∧ w.grownBy wz (some cg)) ⟨hb.alloc _, hc.alloc _, Blk.new w _ _, grown_alloc (grown_refl _ _) _⟩ ?_
  clear d1 d3 d4 d6 hc
  have hlt0 := hb.lt
  clear hb
  rintro wz ⟨hb, hc, hz, hG⟩
  have d1 := show World.cell? wz ⟨rg, 1, none⟩ = some (.bool false) from hb.cell 1
  have d3 := show World.cell? wz ⟨rg, 3, none⟩ = some (.int .u64 hg) from hb.cell 3
  have d4 := show World.cell? wz ⟨rg, 4, none⟩ = some (.int .u8 hp) from hb.cell 4
  have d6 := show World.cell? wz ⟨rg, 6, none⟩ = some (.bool false) from hb.cell 6
  have hlt1 := hb.lt
  obtain ⟨n1, q1⟩ : ∃ n, n = numS s := ⟨_, rfl⟩
  have hk1 := (numS_ok hs).1
  rw [← q1] at hk1
  have hx' : x = ((hg, n1.1, hp), n1.2) := by rw [hx]; unfold rdS; rw [if_neg (by decide), q1]
  have HX' := Lib.hid hx'
  have Q1 := Lib.hid q1
  clear q1 hx hx'
  have hzc := hc.blk_ne hz (by decide)
  have hcl := hc.lt
  have hrl := hb.lt
  have hzl := hz.lt
  clear hlt1
  go_region
  go_wp2_with fail
  refine (cnum_anyT cg s _ (hc.alloc _).drew hs).mono ?_
  rintro e w2 ⟨rfl, hc2, hg2⟩
  rw [← Q1.out] at hc2 ⊢
  have hb2 := Blk.grown (hb.alloc (.cells #[.int .u64 hg, .int .u64 0, .int .u8 hp, .bool false, .slice none 0 0] 29)).drew hg2 (by simpa using hne)
  have hz2 := Blk.grown (hz.alloc (.cells #[.int .u64 hg, .int .u64 0, .int .u8 hp, .bool false, .slice none 0 0] 29)).drew hg2 (by simpa using hzc)
  have hm2 := Blk.grown (Blk.new wz 29 #[.int .u64 hg, .int .u64 0, .int .u8 hp, .bool false, .slice none 0 0]).drew hg2 (by simp; omega)
  have hGa := grown_trans (grown_drew (grown_alloc hG (.cells #[.int .u64 hg, .int .u64 0, .int .u8 hp, .bool false, .slice none 0 0] 29))) hg2
  clear hb hz hc d1 d3 d4 d6 hg2
  have m1 := hm2.frozen 1
  have m2 := show World.cell? w2 ⟨wz.heap.size, 1, none⟩ = some (.int .u64 0) from hm2.cell 1
  go_wp2_with fail
  refine wp_world (fun wy => Blk wy rg 81 (rdrV Vr (false, id, hg, hp) bg false lg lo ov) ∧ CutT wy cg x.2.1 x.2.2 ∧ Blk wy w.heap.size 29 #[.int .u64 0, .int .u64 0, .int .u8 0, .bool false, .slice none 0 0] ∧ Blk wy wz.heap.size 29 #[.int .u64 x.1.1, .int .u64 x.1.2.1, .int .u8 x.1.2.2, .bool false, .slice none 0 0] ∧ w.grownBy wy (some cg)) ?_ ?_
  · rw [HX'.out]
    refine ⟨hb2.far (by simp; omega) _, ?_, hz2.far (by simp; omega) _, hm2.set_ 1 _, grown_set_new hGa (by simp; exact hG.size) _⟩
    · obtain ⟨V2, hC2, hR2⟩ := hc2
      exact ⟨V2, hC2.far (by simp; omega) _, rdt_set hR2 hm2 (by decide) 1 _⟩
  clear hb2 hc2 hz2 hm2 hGa m1 m2
  rintro w3 ⟨hb, hc, hz, hm, hG3⟩
  clear HX' Q1
  obtain ⟨⟨G, O, P⟩, LL, E⟩ := x
  simp only at hc hm hxk hcase ⊢
  obtain ⟨V3, hC, hR⟩ := hc
  have hHR := Lib.hid hR
  clear hR
  have c1 := show World.cell? w3 ⟨cg, 1, none⟩ = some (.int .i64 E) from hC.cell 1
  have d6 := show World.cell? w3 ⟨rg, 6, none⟩ = some (.bool false) from hb.cell 6
  have d7 := show World.cell? w3 ⟨rg, 7, none⟩ = some (.int .u64 lg) from hb.cell 7
  have d8 := show World.cell? w3 ⟨rg, 8, none⟩ = some (.int .u64 lo) from hb.cell 8
  have m0 := show World.cell? w3 ⟨wz.heap.size, 0, none⟩ = some (.int .u64 G) from hm.cell 0
  have m1 := show World.cell? w3 ⟨wz.heap.size, 1, none⟩ = some (.int .u64 O) from hm.cell 1
  obtain rfl := hcase
  have Cc1 := Cls.cells c1 (World.block_lt_of_cell? _ _ c1)
  have Cd6 := Cls.cells d6 (World.block_lt_of_cell? _ _ d6)
  have Cd7 := Cls.cells d7 (World.block_lt_of_cell? _ _ d7)
  have Cd8 := Cls.cells d8 (World.block_lt_of_cell? _ _ d8)
  have Cm0 := Cls.cells m0 (World.block_lt_of_cell? _ _ m0)
  have Cm1 := Cls.cells m1 (World.block_lt_of_cell? _ _ m1)
  refine wp_region_cls (by kernel_rfl) (by kernel_rfl) ?_
  repeat (go_big_quiet_step ((first | (go_at_call 44; with_reducible exact Cls.call (Nat.le_refl _) (wless_any _ _ _ _ _)))))
  refine wpQuiet_nil ?_
  intro w4 hb4
  have c1 := keepB_cell c1 w4 hb4
  have d6 := keepB_cell d6 w4 hb4
  have d7 := keepB_cell d7 w4 hb4
  have d8 := keepB_cell d8 w4 hb4
  have m0 := keepB_cell m0 w4 hb4
  have m1 := keepB_cell m1 w4 hb4
  clear Cc1 Cd6 Cd7 Cd8 Cm0 Cm1
  have hz4 := hz.same hb4
  have hm4 := hm.same hb4
  have hC4 := hC.same hb4
  have hR4 := hHR.out.below hb4
  have hG4 := grown_trans hG3 (grown_below hb4 _)
  have hT : textS (LL, (0 : Int)) = ((vtext LL 2048).1, (vtext LL 2048).2) := by unfold textS; rw [if_pos rfl]
  have HT := Lib.hid hT
  clear hT
  go_wp2_with fail
  refine (ctext_okT cg LL w4 ⟨V3, hC4, hR4⟩ hxk.1 hxk.2).mono ?_
  rintro e w5 ⟨V5, rfl, r5, hc5, hg5⟩
  obtain ⟨T, hT⟩ : ∃ T, T = (vtext LL 2048).1 := ⟨_, rfl⟩
  obtain ⟨C, hCC⟩ : ∃ C, C = (vtext LL 2048).2 := ⟨_, rfl⟩
  rw [← hT] at r5
  rw [← hCC] at hc5
  have HTT := Lib.hid hT
  have HCC := Lib.hid hCC
  clear hT hCC
  obtain ⟨V6, hC5, hR5⟩ := hc5
  obtain ⟨A5, k5, rfl⟩ := r5.form
  have hmc := hC4.ne_ hm4 (by decide)
  have hz5 := hz4.grown hg5 (by simpa using hzc)
  have hm5 := hm4.grown hg5 (by simpa using Ne.symm hmc)
  have hG5 := grown_trans hG4 hg5
  clear c1
  have c1 := show World.cell? w5 ⟨cg, 1, none⟩ = some (.int .i64 C.2) from hC5.cell 1
  have k4 := show World.cell? w5 ⟨wz.heap.size, 4, none⟩ = some (.slice none 0 0) from hm5.cell 4
  have f4 := hm5.frozen 4
  go_wp2_with fail
  refine wp_world (fun wv => Blk wv w.heap.size 29 #[.int .u64 0, .int .u64 0, .int .u8 0, .bool false, .slice none 0 0] ∧ Blk wv wz.heap.size 29 #[.int .u64 G, .int .u64 O, .int .u8 P, .bool false, (.slice A5 T.length k5)] ∧ Blk wv cg 74 #[V6, .int .i64 C.2] ∧ RdT wv (V6) C.1 ∧ RdT wv ((.slice A5 T.length k5)) T ∧ w.grownBy wv (some cg)) ⟨hz5.far (by simp; omega) _, hm5.set_ 4 _, hC5.far hmc _, rdt_set hR5 hm5 (by decide) 4 _, rdt_set r5 hm5 (by decide) 4 _, grown_set_new hG5 (by simp; omega) _⟩ ?_
  rintro w9 ⟨hz9, hm9, hC9, hR9, hD9, hG9⟩
  clear hz hm hC hb d6 d7 d8 m0 m1 c1
  have m0 : w9.cell? ⟨wz.heap.size, 0, none⟩ = some (.int .u64 G) := hm9.cell 0
  have m1 : w9.cell? ⟨wz.heap.size, 1, none⟩ = some (.int .u64 O) := hm9.cell 1
  have m2 : w9.cell? ⟨wz.heap.size, 2, none⟩ = some (.int .u8 P) := hm9.cell 2
  have m3 : w9.cell? ⟨wz.heap.size, 3, none⟩ = some (.bool false) := hm9.cell 3
  have m4 : w9.cell? ⟨wz.heap.size, 4, none⟩ = some ((.slice A5 T.length k5)) := hm9.cell 4
  have z0 := hz9.frozen 0
  have z1 := hz9.frozen 1
  have z2 := hz9.frozen 2
  have z3 := hz9.frozen 3
  have z4 := hz9.frozen 4
  have y0 : w9.cell? ⟨w.heap.size, 0, none⟩ = some (.int .u64 0) := hz9.cell 0
  have y1 : w9.cell? ⟨w.heap.size, 1, none⟩ = some (.int .u64 0) := hz9.cell 1
  have y2 : w9.cell? ⟨w.heap.size, 2, none⟩ = some (.int .u8 0) := hz9.cell 2
  have y3 : w9.cell? ⟨w.heap.size, 3, none⟩ = some (.bool false) := hz9.cell 3
  have y4 : w9.cell? ⟨w.heap.size, 4, none⟩ = some (.slice none 0 0) := hz9.cell 4
  have c1 : w9.cell? ⟨cg, 1, none⟩ = some (.int .i64 C.2) := hC9.cell 1
  have hlt4 : w.heap.size < w9.heap.size := hz9.lt
  have hlt5 : wz.heap.size < w9.heap.size := hm9.lt
  have hlt6 : cg < w9.heap.size := hC9.lt
  go_region
  all_goals
    go_wp2_with fail
    refine bodyPost_ret (v := .tuple #[.agg #[.int .u64 G, .int .u64 O, .int .u8 P, .bool false, (.slice A5 T.length k5)], .bool (C.2 == 0)]) (by simp [results, Try.results37, go_sem, y0, y1, y2, y3, y4]) rfl ⟨_, by first | rw [HT.out, ← HCC.out] | rfl, ?_, ?_, ?_⟩
    · first | rw [HT.out, ← HTT.out, ← HCC.out] | rw [HT.out, ← HTT.out] | rw [HT.out, ← HCC.out] | skip
      exact five_rdt hD9 hz9 (by decide) _ _ _ _ _
    · first | rw [HT.out, ← HTT.out, ← HCC.out] | rw [HT.out, ← HTT.out] | rw [HT.out, ← HCC.out] | skip
      exact five_cut ⟨V6, hC9, hR9⟩ hz9 (by decide) (Ne.symm hzc) _ _ _ _ _
    · exact five_grown hG9 (Nat.le_refl _) _ _ _ _ _

set_option maxHeartbeats 2000000 in
set_option maxRecDepth 100000 in
theorem obj_g_oky (rg cg : Nat) (Vr : Value) (id hg hp : Int) (bg : Bool) (lg lo : Int) (ov : Bool) (s : List Int × Int) (w : World) (hb : Blk w rg 81 (rdrV Vr (false, id, hg, hp) bg true lg lo ov)) (hc : CutT w cg s.1 s.2) (hs : StOk s) (hcase : (rdS false hg hp s).2.2 = 0 ∧ lessP lg lo (rdS false hg hp s).1.1 (rdS false hg hp s).1.2.1 = true) :
    Calls Try.prog 37 #[.pointer (some ⟨rg, 0, none⟩), .pointer (some ⟨cg, 0, none⟩)] w fun e w' => ∃ V, e = .returned (.tuple #[.agg #[.int .u64 (rdS false hg hp s).1.1, .int .u64 (rdS false hg hp s).1.2.1, .int .u8 (rdS false hg hp s).1.2.2, .bool false, V], .bool ((textS (rdS false hg hp s).2).2.2 == 0)]) ∧ RdT w' V (textS (rdS false hg hp s).2).1 ∧ CutT w' cg ((textS (rdS false hg hp s).2).2).1 ((textS (rdS false hg hp s).2).2).2 ∧ w.grownBy w' (some cg) := by
  have hxk := rdS_ok (f := false) (hg := hg) (hp := hp) hs
  obtain ⟨x, hx⟩ : ∃ x, x = rdS false hg hp s := ⟨_, rfl⟩
  rw [← hx] at hxk hcase ⊢
  have hne := hc.blk_ne hb (by decide)
  have d1 := show World.cell? w ⟨rg, 1, none⟩ = some (.bool false) from hb.cell 1
  have d3 := show World.cell? w ⟨rg, 3, none⟩ = some (.int .u64 hg) from hb.cell 3
  have d4 := show World.cell? w ⟨rg, 4, none⟩ = some (.int .u8 hp) from hb.cell 4
  have d6 := show World.cell? w ⟨rg, 6, none⟩ = some (.bool true) from hb.cell 6
  go_enter Try.func37, Try.ntmps37
  go_wp2_with fail
  refine wp_world (fun wz => Blk wz rg 81 (rdrV Vr (false, id, hg, hp) bg true lg lo ov) ∧ CutT wz cg s.1 s.2 ∧ Blk wz w.heap.size 29 #[.int .u64 0, .int .u64 0, .int .u8 0, .bool false, .slice none 0 0] ∧ w.grownBy wz (some cg)) ⟨hb.alloc _, hc.alloc _, Blk.new w _ _, grown_alloc (grown_refl _ _) _⟩ ?_
  clear d1 d3 d4 d6 hc
  have hlt0 := hb.lt
  clear hb
  rintro wz ⟨hb, hc, hz, hG⟩
  have d1 := show World.cell? wz ⟨rg, 1, none⟩ = some (.bool false) from hb.cell 1
  have d3 := show World.cell? wz ⟨rg, 3, none⟩ = some (.int .u64 hg) from hb.cell 3
  have d4 := show World.cell? wz ⟨rg, 4, none⟩ = some (.int .u8 hp) from hb.cell 4
  have d6 := show World.cell? wz ⟨rg, 6, none⟩ = some (.bool true) from hb.cell 6
  have hlt1 := hb.lt
  obtain ⟨n1, q1⟩ : ∃ n, n = numS s := ⟨_, rfl⟩
  have hk1 := (numS_ok hs).1
  rw [← q1] at hk1
  have hx' : x = ((hg, n1.1, hp), n1.2) := by rw [hx]; unfold rdS; rw [if_neg (by decide), q1]
  have HX' := Lib.hid hx'
  have Q1 := Lib.hid q1
  clear q1 hx hx'
  have hzc := hc.blk_ne hz (by decide)
  have hcl := hc.lt
  have hrl := hb.lt
  have hzl := hz.lt
  clear hlt1
  go_region
  go_wp2_with fail
  refine (cnum_anyT cg s _ (hc.alloc _).drew hs).mono ?_
  rintro e w2 ⟨rfl, hc2, hg2⟩
  rw [← Q1.out] at hc2 ⊢
  have hb2 := Blk.grown (hb.alloc (.cells #[.int .u64 hg, .int .u64 0, .int .u8 hp, .bool false, .slice none 0 0] 29)).drew hg2 (by simpa using hne)
  have hz2 := Blk.grown (hz.alloc (.cells #[.int .u64 hg, .int .u64 0, .int .u8 hp, .bool false, .slice none 0 0] 29)).drew hg2 (by simpa using hzc)
  have hm2 := Blk.grown (Blk.new wz 29 #[.int .u64 hg, .int .u64 0, .int .u8 hp, .bool false, .slice none 0 0]).drew hg2 (by simp; omega)
  have hGa := grown_trans (grown_drew (grown_alloc hG (.cells #[.int .u64 hg, .int .u64 0, .int .u8 hp, .bool false, .slice none 0 0] 29))) hg2
  clear hb hz hc d1 d3 d4 d6 hg2
  have m1 := hm2.frozen 1
  have m2 := show World.cell? w2 ⟨wz.heap.size, 1, none⟩ = some (.int .u64 0) from hm2.cell 1
  go_wp2_with fail
  refine wp_world (fun wy => Blk wy rg 81 (rdrV Vr (false, id, hg, hp) bg true lg lo ov) ∧ CutT wy cg x.2.1 x.2.2 ∧ Blk wy w.heap.size 29 #[.int .u64 0, .int .u64 0, .int .u8 0, .bool false, .slice none 0 0] ∧ Blk wy wz.heap.size 29 #[.int .u64 x.1.1, .int .u64 x.1.2.1, .int .u8 x.1.2.2, .bool false, .slice none 0 0] ∧ w.grownBy wy (some cg)) ?_ ?_
  · rw [HX'.out]
    refine ⟨hb2.far (by simp; omega) _, ?_, hz2.far (by simp; omega) _, hm2.set_ 1 _, grown_set_new hGa (by simp; exact hG.size) _⟩
    · obtain ⟨V2, hC2, hR2⟩ := hc2
      exact ⟨V2, hC2.far (by simp; omega) _, rdt_set hR2 hm2 (by decide) 1 _⟩
  clear hb2 hc2 hz2 hm2 hGa m1 m2
  rintro w3 ⟨hb, hc, hz, hm, hG3⟩
  clear HX' Q1
  obtain ⟨⟨G, O, P⟩, LL, E⟩ := x
  simp only at hc hm hxk hcase ⊢
  obtain ⟨V3, hC, hR⟩ := hc
  have hHR := Lib.hid hR
  clear hR
  have c1 := show World.cell? w3 ⟨cg, 1, none⟩ = some (.int .i64 E) from hC.cell 1
  have d6 := show World.cell? w3 ⟨rg, 6, none⟩ = some (.bool true) from hb.cell 6
  have d7 := show World.cell? w3 ⟨rg, 7, none⟩ = some (.int .u64 lg) from hb.cell 7
  have d8 := show World.cell? w3 ⟨rg, 8, none⟩ = some (.int .u64 lo) from hb.cell 8
  have m0 := show World.cell? w3 ⟨wz.heap.size, 0, none⟩ = some (.int .u64 G) from hm.cell 0
  have m1 := show World.cell? w3 ⟨wz.heap.size, 1, none⟩ = some (.int .u64 O) from hm.cell 1
  obtain ⟨rfl, hl⟩ := hcase
  have Cc1 := Cls.cells c1 (World.block_lt_of_cell? _ _ c1)
  have Cd6 := Cls.cells d6 (World.block_lt_of_cell? _ _ d6)
  have Cd7 := Cls.cells d7 (World.block_lt_of_cell? _ _ d7)
  have Cd8 := Cls.cells d8 (World.block_lt_of_cell? _ _ d8)
  have Cm0 := Cls.cells m0 (World.block_lt_of_cell? _ _ m0)
  have Cm1 := Cls.cells m1 (World.block_lt_of_cell? _ _ m1)
  refine wp_region_cls (by kernel_rfl) (by kernel_rfl) ?_
  repeat (go_big_quiet_step ((first | (go_at_call 44; with_reducible exact Cls.call (Nat.le_refl _) (wless_is _ _ _ _ _ hl _)))))
  refine wpQuiet_nil ?_
  intro w4 hb4
  have c1 := keepB_cell c1 w4 hb4
  have d6 := keepB_cell d6 w4 hb4
  have d7 := keepB_cell d7 w4 hb4
  have d8 := keepB_cell d8 w4 hb4
  have m0 := keepB_cell m0 w4 hb4
  have m1 := keepB_cell m1 w4 hb4
  clear Cc1 Cd6 Cd7 Cd8 Cm0 Cm1
  have hz4 := hz.same hb4
  have hm4 := hm.same hb4
  have hC4 := hC.same hb4
  have hR4 := hHR.out.below hb4
  have hG4 := grown_trans hG3 (grown_below hb4 _)
  have hT : textS (LL, (0 : Int)) = ((vtext LL 2048).1, (vtext LL 2048).2) := by unfold textS; rw [if_pos rfl]
  have HT := Lib.hid hT
  clear hT
  go_wp2_with fail
  refine (ctext_okT cg LL w4 ⟨V3, hC4, hR4⟩ hxk.1 hxk.2).mono ?_
  rintro e w5 ⟨V5, rfl, r5, hc5, hg5⟩
  obtain ⟨T, hT⟩ : ∃ T, T = (vtext LL 2048).1 := ⟨_, rfl⟩
  obtain ⟨C, hCC⟩ : ∃ C, C = (vtext LL 2048).2 := ⟨_, rfl⟩
  rw [← hT] at r5
  rw [← hCC] at hc5
  have HTT := Lib.hid hT
  have HCC := Lib.hid hCC
  clear hT hCC
  obtain ⟨V6, hC5, hR5⟩ := hc5
  obtain ⟨A5, k5, rfl⟩ := r5.form
  have hmc := hC4.ne_ hm4 (by decide)
  have hz5 := hz4.grown hg5 (by simpa using hzc)
  have hm5 := hm4.grown hg5 (by simpa using Ne.symm hmc)
  have hG5 := grown_trans hG4 hg5
  clear c1
  have c1 := show World.cell? w5 ⟨cg, 1, none⟩ = some (.int .i64 C.2) from hC5.cell 1
  have k4 := show World.cell? w5 ⟨wz.heap.size, 4, none⟩ = some (.slice none 0 0) from hm5.cell 4
  have f4 := hm5.frozen 4
  go_wp2_with fail
  refine wp_world (fun wv => Blk wv w.heap.size 29 #[.int .u64 0, .int .u64 0, .int .u8 0, .bool false, .slice none 0 0] ∧ Blk wv wz.heap.size 29 #[.int .u64 G, .int .u64 O, .int .u8 P, .bool false, (.slice A5 T.length k5)] ∧ Blk wv cg 74 #[V6, .int .i64 C.2] ∧ RdT wv (V6) C.1 ∧ RdT wv ((.slice A5 T.length k5)) T ∧ w.grownBy wv (some cg)) ⟨hz5.far (by simp; omega) _, hm5.set_ 4 _, hC5.far hmc _, rdt_set hR5 hm5 (by decide) 4 _, rdt_set r5 hm5 (by decide) 4 _, grown_set_new hG5 (by simp; omega) _⟩ ?_
  rintro w9 ⟨hz9, hm9, hC9, hR9, hD9, hG9⟩
  clear hz hm hC hb d6 d7 d8 m0 m1 c1
  have m0 : w9.cell? ⟨wz.heap.size, 0, none⟩ = some (.int .u64 G) := hm9.cell 0
  have m1 : w9.cell? ⟨wz.heap.size, 1, none⟩ = some (.int .u64 O) := hm9.cell 1
  have m2 : w9.cell? ⟨wz.heap.size, 2, none⟩ = some (.int .u8 P) := hm9.cell 2
  have m3 : w9.cell? ⟨wz.heap.size, 3, none⟩ = some (.bool false) := hm9.cell 3
  have m4 : w9.cell? ⟨wz.heap.size, 4, none⟩ = some ((.slice A5 T.length k5)) := hm9.cell 4
  have z0 := hz9.frozen 0
  have z1 := hz9.frozen 1
  have z2 := hz9.frozen 2
  have z3 := hz9.frozen 3
  have z4 := hz9.frozen 4
  have y0 : w9.cell? ⟨w.heap.size, 0, none⟩ = some (.int .u64 0) := hz9.cell 0
  have y1 : w9.cell? ⟨w.heap.size, 1, none⟩ = some (.int .u64 0) := hz9.cell 1
  have y2 : w9.cell? ⟨w.heap.size, 2, none⟩ = some (.int .u8 0) := hz9.cell 2
  have y3 : w9.cell? ⟨w.heap.size, 3, none⟩ = some (.bool false) := hz9.cell 3
  have y4 : w9.cell? ⟨w.heap.size, 4, none⟩ = some (.slice none 0 0) := hz9.cell 4
  have c1 : w9.cell? ⟨cg, 1, none⟩ = some (.int .i64 C.2) := hC9.cell 1
  have hlt4 : w.heap.size < w9.heap.size := hz9.lt
  have hlt5 : wz.heap.size < w9.heap.size := hm9.lt
  have hlt6 : cg < w9.heap.size := hC9.lt
  go_region
  all_goals
    go_wp2_with fail
    refine bodyPost_ret (v := .tuple #[.agg #[.int .u64 G, .int .u64 O, .int .u8 P, .bool false, (.slice A5 T.length k5)], .bool (C.2 == 0)]) (by simp [results, Try.results37, go_sem, y0, y1, y2, y3, y4]) rfl ⟨_, by first | rw [HT.out, ← HCC.out] | rfl, ?_, ?_, ?_⟩
    · first | rw [HT.out, ← HTT.out, ← HCC.out] | rw [HT.out, ← HTT.out] | rw [HT.out, ← HCC.out] | skip
      exact five_rdt hD9 hz9 (by decide) _ _ _ _ _
    · first | rw [HT.out, ← HTT.out, ← HCC.out] | rw [HT.out, ← HTT.out] | rw [HT.out, ← HCC.out] | skip
      exact five_cut ⟨V6, hC9, hR9⟩ hz9 (by decide) (Ne.symm hzc) _ _ _ _ _
    · exact five_grown hG9 (Nat.le_refl _) _ _ _ _ _

set_option maxHeartbeats 2000000 in
set_option maxRecDepth 100000 in
theorem obj_f_bad (rg cg : Nat) (Vr : Value) (id hg hp : Int) (bg sm : Bool) (lg lo : Int) (ov : Bool) (s : List Int × Int) (w : World) (hb : Blk w rg 81 (rdrV Vr (true, id, hg, hp) bg sm lg lo ov)) (hc : CutT w cg s.1 s.2) (hs : StOk s) (hcase : (rdS true hg hp s).2.2 ≠ 0) :
    Calls Try.prog 37 #[.pointer (some ⟨rg, 0, none⟩), .pointer (some ⟨cg, 0, none⟩)] w fun e w' => ∃ V, e = .returned (.tuple #[.agg #[.int .u64 (rdS true hg hp s).1.1, .int .u64 (rdS true hg hp s).1.2.1, .int .u8 (rdS true hg hp s).1.2.2, .bool false, V], .bool false]) ∧ RdT w' V [] ∧ CutT w' cg ((rdS true hg hp s).2).1 ((rdS true hg hp s).2).2 ∧ w.grownBy w' (some cg) := by
  have hxk := rdS_ok (f := true) (hg := hg) (hp := hp) hs
  obtain ⟨x, hx⟩ : ∃ x, x = rdS true hg hp s := ⟨_, rfl⟩
  rw [← hx] at hxk hcase ⊢
  have hne := hc.blk_ne hb (by decide)
  have d1 := show World.cell? w ⟨rg, 1, none⟩ = some (.bool true) from hb.cell 1
  have d3 := show World.cell? w ⟨rg, 3, none⟩ = some (.int .u64 hg) from hb.cell 3
  have d4 := show World.cell? w ⟨rg, 4, none⟩ = some (.int .u8 hp) from hb.cell 4
  have d6 := show World.cell? w ⟨rg, 6, none⟩ = some (.bool sm) from hb.cell 6
  go_enter Try.func37, Try.ntmps37
  go_wp2_with fail
  refine wp_world (fun wz => Blk wz rg 81 (rdrV Vr (true, id, hg, hp) bg sm lg lo ov) ∧ CutT wz cg s.1 s.2 ∧ Blk wz w.heap.size 29 #[.int .u64 0, .int .u64 0, .int .u8 0, .bool false, .slice none 0 0] ∧ w.grownBy wz (some cg)) ⟨hb.alloc _, hc.alloc _, Blk.new w _ _, grown_alloc (grown_refl _ _) _⟩ ?_
  clear d1 d3 d4 d6 hc
  have hlt0 := hb.lt
  clear hb
  rintro wz ⟨hb, hc, hz, hG⟩
  have d1 := show World.cell? wz ⟨rg, 1, none⟩ = some (.bool true) from hb.cell 1
  have d3 := show World.cell? wz ⟨rg, 3, none⟩ = some (.int .u64 hg) from hb.cell 3
  have d4 := show World.cell? wz ⟨rg, 4, none⟩ = some (.int .u8 hp) from hb.cell 4
  have d6 := show World.cell? wz ⟨rg, 6, none⟩ = some (.bool sm) from hb.cell 6
  have hlt1 := hb.lt
  obtain ⟨n1, q1⟩ : ∃ n, n = numS s := ⟨_, rfl⟩
  have hk1 := (numS_ok hs).1
  rw [← q1] at hk1
  obtain ⟨n2, q2⟩ : ∃ n, n = numS n1.2 := ⟨_, rfl⟩
  have hk2 := (numS_ok hk1).1
  rw [← q2] at hk2
  obtain ⟨n3, q3⟩ : ∃ n, n = oneS n2.2 := ⟨_, rfl⟩
  have hk3 := (oneS_ok hk2).1
  rw [← q3] at hk3
  have hx' : x = ((n1.1, n2.1, n3.1), n3.2) := by rw [hx]; unfold rdS; rw [if_pos rfl, q3, q2, q1]
  have Q2 := Lib.hid q2
  have Q3 := Lib.hid q3
  clear q2 q3
  have HX' := Lib.hid hx'
  have Q1 := Lib.hid q1
  clear q1 hx hx'
  have hzc := hc.blk_ne hz (by decide)
  have hcl := hc.lt
  have hrl := hb.lt
  have hzl := hz.lt
  clear hlt1
  go_region
  go_wp2_with fail
  refine (cnum_anyT cg s _ (hc.alloc _).drew hs).mono ?_
  rintro e w2 ⟨rfl, hc2, hg2⟩
  rw [← Q1.out] at hc2 ⊢
  have hb2 := Blk.grown (hb.alloc (.cells #[.int .u64 hg, .int .u64 0, .int .u8 hp, .bool false, .slice none 0 0] 29)).drew hg2 (by simpa using hne)
  have hz2 := Blk.grown (hz.alloc (.cells #[.int .u64 hg, .int .u64 0, .int .u8 hp, .bool false, .slice none 0 0] 29)).drew hg2 (by simpa using hzc)
  have hm2 := Blk.grown (Blk.new wz 29 #[.int .u64 hg, .int .u64 0, .int .u8 hp, .bool false, .slice none 0 0]).drew hg2 (by simp; omega)
  have hGa := grown_trans (grown_drew (grown_alloc hG (.cells #[.int .u64 hg, .int .u64 0, .int .u8 hp, .bool false, .slice none 0 0] 29))) hg2
  clear hb hz hc d1 d3 d4 d6 hg2
  go_wp2_with fail
  refine (cnum_anyT cg n1.2 _ hc2 hk1).mono ?_
  rintro e w3 ⟨rfl, hc3, hg3⟩
  rw [← Q2.out] at hc3 ⊢
  have hb3 := hb2.grown hg3 (by simpa using hne)
  have hz3 := hz2.grown hg3 (by simpa using hzc)
  have hm3 := hm2.grown hg3 (by simp; omega)
  have hGb := grown_trans hGa hg3
  clear hb2 hz2 hc2 hm2 hg3 hGa
  go_wp2_with fail
  refine (cone_anyT cg n2.2 _ hc3 hk2).mono ?_
  rintro e w4 ⟨rfl, hc4, hg4⟩
  rw [← Q3.out] at hc4 ⊢
  have hb4 := hb3.grown hg4 (by simpa using hne)
  have hz4 := hz3.grown hg4 (by simpa using hzc)
  have hm4 := hm3.grown hg4 (by simp; omega)
  have hGc := grown_trans hGb hg4
  clear hb3 hz3 hc3 hm3 hg4 hGb
  have m0 := show World.cell? w4 ⟨wz.heap.size, 0, none⟩ = some (.int .u64 hg) from hm4.cell 0
  have m1 := show World.cell? w4 ⟨wz.heap.size, 1, none⟩ = some (.int .u64 0) from hm4.cell 1
  have m2 := show World.cell? w4 ⟨wz.heap.size, 2, none⟩ = some (.int .u8 hp) from hm4.cell 2
  have g0 := hm4.frozen 0
  have g1 := hm4.frozen 1
  have g2 := hm4.frozen 2
  go_wp2_with fail
  refine wp_world (fun wy => Blk wy rg 81 (rdrV Vr (true, id, hg, hp) bg sm lg lo ov) ∧ CutT wy cg x.2.1 x.2.2 ∧ Blk wy w.heap.size 29 #[.int .u64 0, .int .u64 0, .int .u8 0, .bool false, .slice none 0 0] ∧ Blk wy wz.heap.size 29 #[.int .u64 x.1.1, .int .u64 x.1.2.1, .int .u8 x.1.2.2, .bool false, .slice none 0 0] ∧ w.grownBy wy (some cg)) ?_ ?_
  · rw [HX'.out]
    refine ⟨(((hb4.far (by simp; omega) _).far (by simp; omega) _).far (by simp; omega) _), ?_, (((hz4.far (by simp; omega) _).far (by simp; omega) _).far (by simp; omega) _), ((hm4.set_ 0 _).set_ 1 _).set_ 2 _, grown_set_new (grown_set_new (grown_set_new hGc (by simp; exact hG.size) _) (by simp; exact hG.size) _) (by simp; exact hG.size) _⟩
    · obtain ⟨V2, hC2, hR2⟩ := hc4
      exact ⟨V2, (((hC2.far (by simp; omega) _).far (by simp; omega) _).far (by simp; omega) _), rdt_set (rdt_set (rdt_set hR2 hm4 (by decide) 0 _) (hm4.set_ 0 _) (by decide) 1 _) ((hm4.set_ 0 _).set_ 1 _) (by decide) 2 _⟩
  clear hb4 hc4 hz4 hm4 hGc m0 m1 m2 g0 g1 g2
  rintro w3 ⟨hb, hc, hz, hm, hG3⟩
  clear HX' Q1 Q2 Q3
  obtain ⟨⟨G, O, P⟩, LL, E⟩ := x
  simp only at hc hm hxk hcase ⊢
  obtain ⟨V3, hC, hR⟩ := hc
  have hHR := Lib.hid hR
  clear hR
  have c1 := show World.cell? w3 ⟨cg, 1, none⟩ = some (.int .i64 E) from hC.cell 1
  have d6 := show World.cell? w3 ⟨rg, 6, none⟩ = some (.bool sm) from hb.cell 6
  have d7 := show World.cell? w3 ⟨rg, 7, none⟩ = some (.int .u64 lg) from hb.cell 7
  have d8 := show World.cell? w3 ⟨rg, 8, none⟩ = some (.int .u64 lo) from hb.cell 8
  have m0 := show World.cell? w3 ⟨wz.heap.size, 0, none⟩ = some (.int .u64 G) from hm.cell 0
  have m1 := show World.cell? w3 ⟨wz.heap.size, 1, none⟩ = some (.int .u64 O) from hm.cell 1
  have g0 : (E == 0) = false := by simpa using hcase
  clear hcase
  have Cc1 := Cls.cells c1 (World.block_lt_of_cell? _ _ c1)
  have Cd6 := Cls.cells d6 (World.block_lt_of_cell? _ _ d6)
  have Cd7 := Cls.cells d7 (World.block_lt_of_cell? _ _ d7)
  have Cd8 := Cls.cells d8 (World.block_lt_of_cell? _ _ d8)
  have Cm0 := Cls.cells m0 (World.block_lt_of_cell? _ _ m0)
  have Cm1 := Cls.cells m1 (World.block_lt_of_cell? _ _ m1)
  refine wp_region_cls (by kernel_rfl) (by kernel_rfl) ?_
  repeat (go_big_quiet_step ((first | (go_at_call 44; with_reducible exact Cls.call (Nat.le_refl _) (wless_any _ _ _ _ _)))))
  refine wpQuiet_nil ?_
  intro w4 hb4
  have c1 := keepB_cell c1 w4 hb4
  have d6 := keepB_cell d6 w4 hb4
  have d7 := keepB_cell d7 w4 hb4
  have d8 := keepB_cell d8 w4 hb4
  have m0 := keepB_cell m0 w4 hb4
  have m1 := keepB_cell m1 w4 hb4
  clear Cc1 Cd6 Cd7 Cd8 Cm0 Cm1
  have hz4 := hz.same hb4
  have hm4 := hm.same hb4
  have hC4 := hC.same hb4
  have hR4 := hHR.out.below hb4
  have hG4 := grown_trans hG3 (grown_below hb4 _)
  go_wp2_with fail
  refine wp_world (fun wv => Blk wv w.heap.size 29 #[.int .u64 0, .int .u64 0, .int .u8 0, .bool false, .slice none 0 0] ∧ Blk wv wz.heap.size 29 #[.int .u64 G, .int .u64 O, .int .u8 P, .bool false, .slice none 0 0] ∧ Blk wv cg 74 #[V3, .int .i64 E] ∧ RdT wv (V3) LL ∧ RdT wv (.slice none 0 0) [] ∧ w.grownBy wv (some cg)) ⟨hz4, hm4, hC4, hR4, RdT.nil _, hG4⟩ ?_
  rintro w9 ⟨hz9, hm9, hC9, hR9, hD9, hG9⟩
  clear hz hm hC hb d6 d7 d8 m0 m1 c1
  have m0 : w9.cell? ⟨wz.heap.size, 0, none⟩ = some (.int .u64 G) := hm9.cell 0
  have m1 : w9.cell? ⟨wz.heap.size, 1, none⟩ = some (.int .u64 O) := hm9.cell 1
  have m2 : w9.cell? ⟨wz.heap.size, 2, none⟩ = some (.int .u8 P) := hm9.cell 2
  have m3 : w9.cell? ⟨wz.heap.size, 3, none⟩ = some (.bool false) := hm9.cell 3
  have m4 : w9.cell? ⟨wz.heap.size, 4, none⟩ = some (.slice none 0 0) := hm9.cell 4
  have z0 := hz9.frozen 0
  have z1 := hz9.frozen 1
  have z2 := hz9.frozen 2
  have z3 := hz9.frozen 3
  have z4 := hz9.frozen 4
  have y0 : w9.cell? ⟨w.heap.size, 0, none⟩ = some (.int .u64 0) := hz9.cell 0
  have y1 : w9.cell? ⟨w.heap.size, 1, none⟩ = some (.int .u64 0) := hz9.cell 1
  have y2 : w9.cell? ⟨w.heap.size, 2, none⟩ = some (.int .u8 0) := hz9.cell 2
  have y3 : w9.cell? ⟨w.heap.size, 3, none⟩ = some (.bool false) := hz9.cell 3
  have y4 : w9.cell? ⟨w.heap.size, 4, none⟩ = some (.slice none 0 0) := hz9.cell 4
  have c1 : w9.cell? ⟨cg, 1, none⟩ = some (.int .i64 E) := hC9.cell 1
  have hlt4 : w.heap.size < w9.heap.size := hz9.lt
  have hlt5 : wz.heap.size < w9.heap.size := hm9.lt
  have hlt6 : cg < w9.heap.size := hC9.lt
  go_region
  all_goals
    go_wp2_with fail
    refine bodyPost_ret (v := .tuple #[.agg #[.int .u64 G, .int .u64 O, .int .u8 P, .bool false, .slice none 0 0], .bool false]) (by simp [results, Try.results37, go_sem, y0, y1, y2, y3, y4]) rfl ⟨_, by first | rw [HT.out, ← HCC.out] | rfl, ?_, ?_, ?_⟩
    · first | rw [HT.out, ← HTT.out, ← HCC.out] | rw [HT.out, ← HTT.out] | rw [HT.out, ← HCC.out] | skip
      exact five_rdt hD9 hz9 (by decide) _ _ _ _ _
    · first | rw [HT.out, ← HTT.out, ← HCC.out] | rw [HT.out, ← HTT.out] | rw [HT.out, ← HCC.out] | skip
      exact five_cut ⟨V3, hC9, hR9⟩ hz9 (by decide) (Ne.symm hzc) _ _ _ _ _
    · exact five_grown hG9 (Nat.le_refl _) _ _ _ _ _

set_option maxHeartbeats 2000000 in
set_option maxRecDepth 100000 in
theorem obj_f_late (rg cg : Nat) (Vr : Value) (id hg hp : Int) (bg : Bool) (lg lo : Int) (ov : Bool) (s : List Int × Int) (w : World) (hb : Blk w rg 81 (rdrV Vr (true, id, hg, hp) bg true lg lo ov)) (hc : CutT w cg s.1 s.2) (hs : StOk s) (hcase : (rdS true hg hp s).2.2 = 0 ∧ lessP lg lo (rdS true hg hp s).1.1 (rdS true hg hp s).1.2.1 = false) :
    Calls Try.prog 37 #[.pointer (some ⟨rg, 0, none⟩), .pointer (some ⟨cg, 0, none⟩)] w fun e w' => ∃ V, e = .returned (.tuple #[.agg #[.int .u64 (rdS true hg hp s).1.1, .int .u64 (rdS true hg hp s).1.2.1, .int .u8 (rdS true hg hp s).1.2.2, .bool false, V], .bool false]) ∧ RdT w' V [] ∧ CutT w' cg (((rdS true hg hp s).2.1, (4 : Int))).1 (((rdS true hg hp s).2.1, (4 : Int))).2 ∧ w.grownBy w' (some cg) := by
  have hxk := rdS_ok (f := true) (hg := hg) (hp := hp) hs
  obtain ⟨x, hx⟩ : ∃ x, x = rdS true hg hp s := ⟨_, rfl⟩
  rw [← hx] at hxk hcase ⊢
  have hne := hc.blk_ne hb (by decide)
  have d1 := show World.cell? w ⟨rg, 1, none⟩ = some (.bool true) from hb.cell 1
  have d3 := show World.cell? w ⟨rg, 3, none⟩ = some (.int .u64 hg) from hb.cell 3
  have d4 := show World.cell? w ⟨rg, 4, none⟩ = some (.int .u8 hp) from hb.cell 4
  have d6 := show World.cell? w ⟨rg, 6, none⟩ = some (.bool true) from hb.cell 6
  go_enter Try.func37, Try.ntmps37
  go_wp2_with fail
  refine wp_world (fun wz => Blk wz rg 81 (rdrV Vr (true, id, hg, hp) bg true lg lo ov) ∧ CutT wz cg s.1 s.2 ∧ Blk wz w.heap.size 29 #[.int .u64 0, .int .u64 0, .int .u8 0, .bool false, .slice none 0 0] ∧ w.grownBy wz (some cg)) ⟨hb.alloc _, hc.alloc _, Blk.new w _ _, grown_alloc (grown_refl _ _) _⟩ ?_
  clear d1 d3 d4 d6 hc
  have hlt0 := hb.lt
  clear hb
  rintro wz ⟨hb, hc, hz, hG⟩
  have d1 := show World.cell? wz ⟨rg, 1, none⟩ = some (.bool true) from hb.cell 1
  have d3 := show World.cell? wz ⟨rg, 3, none⟩ = some (.int .u64 hg) from hb.cell 3
  have d4 := show World.cell? wz ⟨rg, 4, none⟩ = some (.int .u8 hp) from hb.cell 4
  have d6 := show World.cell? wz ⟨rg, 6, none⟩ = some (.bool true) from hb.cell 6
  have hlt1 := hb.lt
  obtain ⟨n1, q1⟩ : ∃ n, n = numS s := ⟨_, rfl⟩
  have hk1 := (numS_ok hs).1
  rw [← q1] at hk1
  obtain ⟨n2, q2⟩ : ∃ n, n = numS n1.2 := ⟨_, rfl⟩
  have hk2 := (numS_ok hk1).1
  rw [← q2] at hk2
  obtain ⟨n3, q3⟩ : ∃ n, n = oneS n2.2 := ⟨_, rfl⟩
  have hk3 := (oneS_ok hk2).1
  rw [← q3] at hk3
  have hx' : x = ((n1.1, n2.1, n3.1), n3.2) := by rw [hx]; unfold rdS; rw [if_pos rfl, q3, q2, q1]
  have Q2 := Lib.hid q2
  have Q3 := Lib.hid q3
  clear q2 q3
  have HX' := Lib.hid hx'
  have Q1 := Lib.hid q1
  clear q1 hx hx'
  have hzc := hc.blk_ne hz (by decide)
  have hcl := hc.lt
  have hrl := hb.lt
  have hzl := hz.lt
  clear hlt1
  go_region
  go_wp2_with fail
  refine (cnum_anyT cg s _ (hc.alloc _).drew hs).mono ?_
  rintro e w2 ⟨rfl, hc2, hg2⟩
  rw [← Q1.out] at hc2 ⊢
  have hb2 := Blk.grown (hb.alloc (.cells #[.int .u64 hg, .int .u64 0, .int .u8 hp, .bool false, .slice none 0 0] 29)).drew hg2 (by simpa using hne)
  have hz2 := Blk.grown (hz.alloc (.cells #[.int .u64 hg, .int .u64 0, .int .u8 hp, .bool false, .slice none 0 0] 29)).drew hg2 (by simpa using hzc)
  have hm2 := Blk.grown (Blk.new wz 29 #[.int .u64 hg, .int .u64 0, .int .u8 hp, .bool false, .slice none 0 0]).drew hg2 (by simp; omega)
  have hGa := grown_trans (grown_drew (grown_alloc hG (.cells #[.int .u64 hg, .int .u64 0, .int .u8 hp, .bool false, .slice none 0 0] 29))) hg2
  clear hb hz hc d1 d3 d4 d6 hg2
  go_wp2_with fail
  refine (cnum_anyT cg n1.2 _ hc2 hk1).mono ?_
  rintro e w3 ⟨rfl, hc3, hg3⟩
  rw [← Q2.out] at hc3 ⊢
  have hb3 := hb2.grown hg3 (by simpa using hne)
  have hz3 := hz2.grown hg3 (by simpa using hzc)
  have hm3 := hm2.grown hg3 (by simp; omega)
  have hGb := grown_trans hGa hg3
  clear hb2 hz2 hc2 hm2 hg3 hGa
  go_wp2_with fail
  refine (cone_anyT cg n2.2 _ hc3 hk2).mono ?_
  rintro e w4 ⟨rfl, hc4, hg4⟩
  rw [← Q3.out] at hc4 ⊢
  have hb4 := hb3.grown hg4 (by simpa using hne)
  have hz4 := hz3.grown hg4 (by simpa using hzc)
  have hm4 := hm3.grown hg4 (by simp; omega)
  have hGc := grown_trans hGb hg4
  clear hb3 hz3 hc3 hm3 hg4 hGb
  have m0 := show World.cell? w4 ⟨wz.heap.size, 0, none⟩ = some (.int .u64 hg) from hm4.cell 0
  have m1 := show World.cell? w4 ⟨wz.heap.size, 1, none⟩ = some (.int .u64 0) from hm4.cell 1
  have m2 := show World.cell? w4 ⟨wz.heap.size, 2, none⟩ = some (.int .u8 hp) from hm4.cell 2
  have g0 := hm4.frozen 0
  have g1 := hm4.frozen 1
  have g2 := hm4.frozen 2
  go_wp2_with fail
  refine wp_world (fun wy => Blk wy rg 81 (rdrV Vr (true, id, hg, hp) bg true lg lo ov) ∧ CutT wy cg x.2.1 x.2.2 ∧ Blk wy w.heap.size 29 #[.int .u64 0, .int .u64 0, .int .u8 0, .bool false, .slice none 0 0] ∧ Blk wy wz.heap.size 29 #[.int .u64 x.1.1, .int .u64 x.1.2.1, .int .u8 x.1.2.2, .bool false, .slice none 0 0] ∧ w.grownBy wy (some cg)) ?_ ?_
  · rw [HX'.out]
    refine ⟨(((hb4.far (by simp; omega) _).far (by simp; omega) _).far (by simp; omega) _), ?_, (((hz4.far (by simp; omega) _).far (by simp; omega) _).far (by simp; omega) _), ((hm4.set_ 0 _).set_ 1 _).set_ 2 _, grown_set_new (grown_set_new (grown_set_new hGc (by simp; exact hG.size) _) (by simp; exact hG.size) _) (by simp; exact hG.size) _⟩
    · obtain ⟨V2, hC2, hR2⟩ := hc4
      exact ⟨V2, (((hC2.far (by simp; omega) _).far (by simp; omega) _).far (by simp; omega) _), rdt_set (rdt_set (rdt_set hR2 hm4 (by decide) 0 _) (hm4.set_ 0 _) (by decide) 1 _) ((hm4.set_ 0 _).set_ 1 _) (by decide) 2 _⟩
  clear hb4 hc4 hz4 hm4 hGc m0 m1 m2 g0 g1 g2
  rintro w3 ⟨hb, hc, hz, hm, hG3⟩
  clear HX' Q1 Q2 Q3
  obtain ⟨⟨G, O, P⟩, LL, E⟩ := x
  simp only at hc hm hxk hcase ⊢
  obtain ⟨V3, hC, hR⟩ := hc
  have hHR := Lib.hid hR
  clear hR
  have c1 := show World.cell? w3 ⟨cg, 1, none⟩ = some (.int .i64 E) from hC.cell 1
  have d6 := show World.cell? w3 ⟨rg, 6, none⟩ = some (.bool true) from hb.cell 6
  have d7 := show World.cell? w3 ⟨rg, 7, none⟩ = some (.int .u64 lg) from hb.cell 7
  have d8 := show World.cell? w3 ⟨rg, 8, none⟩ = some (.int .u64 lo) from hb.cell 8
  have m0 := show World.cell? w3 ⟨wz.heap.size, 0, none⟩ = some (.int .u64 G) from hm.cell 0
  have m1 := show World.cell? w3 ⟨wz.heap.size, 1, none⟩ = some (.int .u64 O) from hm.cell 1
  obtain ⟨rfl, hl⟩ := hcase
  have Cc1 := Cls.cells c1 (World.block_lt_of_cell? _ _ c1)
  have Cd6 := Cls.cells d6 (World.block_lt_of_cell? _ _ d6)
  have Cd7 := Cls.cells d7 (World.block_lt_of_cell? _ _ d7)
  have Cd8 := Cls.cells d8 (World.block_lt_of_cell? _ _ d8)
  have Cm0 := Cls.cells m0 (World.block_lt_of_cell? _ _ m0)
  have Cm1 := Cls.cells m1 (World.block_lt_of_cell? _ _ m1)
  refine wp_region_cls (by kernel_rfl) (by kernel_rfl) ?_
  repeat (go_big_quiet_step ((first | (go_at_call 44; with_reducible exact Cls.call (Nat.le_refl _) (wless_is _ _ _ _ _ hl _)))))
  refine wpQuiet_nil ?_
  intro w4 hb4
  have c1 := keepB_cell c1 w4 hb4
  have d6 := keepB_cell d6 w4 hb4
  have d7 := keepB_cell d7 w4 hb4
  have d8 := keepB_cell d8 w4 hb4
  have m0 := keepB_cell m0 w4 hb4
  have m1 := keepB_cell m1 w4 hb4
  clear Cc1 Cd6 Cd7 Cd8 Cm0 Cm1
  have hz4 := hz.same hb4
  have hm4 := hm.same hb4
  have hC4 := hC.same hb4
  have hR4 := hHR.out.below hb4
  have hG4 := grown_trans hG3 (grown_below hb4 _)
  have f1 := hC4.frozen 1
  go_wp2_with fail
  refine wp_world (fun wv => Blk wv w.heap.size 29 #[.int .u64 0, .int .u64 0, .int .u8 0, .bool false, .slice none 0 0] ∧ Blk wv wz.heap.size 29 #[.int .u64 G, .int .u64 O, .int .u8 P, .bool false, .slice none 0 0] ∧ Blk wv cg 74 #[V3, .int .i64 4] ∧ RdT wv (V3) LL ∧ RdT wv (.slice none 0 0) [] ∧ w.grownBy wv (some cg)) ⟨hz4.far (by simp; omega) _, hm4.far (by simp; omega) _, hC4.set_ 1 _, rdt_set hR4 hC4 (by decide) 1 _, RdT.nil _, grown_set hG4 _ _⟩ ?_
  rintro w9 ⟨hz9, hm9, hC9, hR9, hD9, hG9⟩
  clear hz hm hC hb d6 d7 d8 m0 m1 c1
  have m0 : w9.cell? ⟨wz.heap.size, 0, none⟩ = some (.int .u64 G) := hm9.cell 0
  have m1 : w9.cell? ⟨wz.heap.size, 1, none⟩ = some (.int .u64 O) := hm9.cell 1
  have m2 : w9.cell? ⟨wz.heap.size, 2, none⟩ = some (.int .u8 P) := hm9.cell 2
  have m3 : w9.cell? ⟨wz.heap.size, 3, none⟩ = some (.bool false) := hm9.cell 3
  have m4 : w9.cell? ⟨wz.heap.size, 4, none⟩ = some (.slice none 0 0) := hm9.cell 4
  have z0 := hz9.frozen 0
  have z1 := hz9.frozen 1
  have z2 := hz9.frozen 2
  have z3 := hz9.frozen 3
  have z4 := hz9.frozen 4
  have y0 : w9.cell? ⟨w.heap.size, 0, none⟩ = some (.int .u64 0) := hz9.cell 0
  have y1 : w9.cell? ⟨w.heap.size, 1, none⟩ = some (.int .u64 0) := hz9.cell 1
  have y2 : w9.cell? ⟨w.heap.size, 2, none⟩ = some (.int .u8 0) := hz9.cell 2
  have y3 : w9.cell? ⟨w.heap.size, 3, none⟩ = some (.bool false) := hz9.cell 3
  have y4 : w9.cell? ⟨w.heap.size, 4, none⟩ = some (.slice none 0 0) := hz9.cell 4
  have c1 : w9.cell? ⟨cg, 1, none⟩ = some (.int .i64 4) := hC9.cell 1
  have hlt4 : w.heap.size < w9.heap.size := hz9.lt
  have hlt5 : wz.heap.size < w9.heap.size := hm9.lt
  have hlt6 : cg < w9.heap.size := hC9.lt
  go_region
  all_goals
    go_wp2_with fail
    refine bodyPost_ret (v := .tuple #[.agg #[.int .u64 G, .int .u64 O, .int .u8 P, .bool false, .slice none 0 0], .bool false]) (by simp [results, Try.results37, go_sem, y0, y1, y2, y3, y4]) rfl ⟨_, by first | rw [HT.out, ← HCC.out] | rfl, ?_, ?_, ?_⟩
    · first | rw [HT.out, ← HTT.out, ← HCC.out] | rw [HT.out, ← HTT.out] | rw [HT.out, ← HCC.out] | skip
      exact five_rdt hD9 hz9 (by decide) _ _ _ _ _
    · first | rw [HT.out, ← HTT.out, ← HCC.out] | rw [HT.out, ← HTT.out] | rw [HT.out, ← HCC.out] | skip
      exact five_cut ⟨V3, hC9, hR9⟩ hz9 (by decide) (Ne.symm hzc) _ _ _ _ _
    · exact five_grown hG9 (Nat.le_refl _) _ _ _ _ _

set_option maxHeartbeats 2000000 in
set_option maxRecDepth 100000 in
theorem obj_f_okn (rg cg : Nat) (Vr : Value) (id hg hp : Int) (bg : Bool) (lg lo : Int) (ov : Bool) (s : List Int × Int) (w : World) (hb : Blk w rg 81 (rdrV Vr (true, id, hg, hp) bg false lg lo ov)) (hc : CutT w cg s.1 s.2) (hs : StOk s) (hcase : (rdS true hg hp s).2.2 = 0) :
    Calls Try.prog 37 #[.pointer (some ⟨rg, 0, none⟩), .pointer (some ⟨cg, 0, none⟩)] w fun e w' => ∃ V, e = .returned (.tuple #[.agg #[.int .u64 (rdS true hg hp s).1.1, .int .u64 (rdS true hg hp s).1.2.1, .int .u8 (rdS true hg hp s).1.2.2, .bool false, V], .bool ((textS (rdS true hg hp s).2).2.2 == 0)]) ∧ RdT w' V (textS (rdS true hg hp s).2).1 ∧ CutT w' cg ((textS (rdS true hg hp s).2).2).1 ((textS (rdS true hg hp s).2).2).2 ∧ w.grownBy w' (some cg) := by
  have hxk := rdS_ok (f := true) (hg := hg) (hp := hp) hs
  obtain ⟨x, hx⟩ : ∃ x, x = rdS true hg hp s := ⟨_, rfl⟩
  rw [← hx] at hxk hcase ⊢
  have hne := hc.blk_ne hb (by decide)
  have d1 := show World.cell? w ⟨rg, 1, none⟩ = some (.bool true) from hb.cell 1
  have d3 := show World.cell? w ⟨rg, 3, none⟩ = some (.int .u64 hg) from hb.cell 3
  have d4 := show World.cell? w ⟨rg, 4, none⟩ = some (.int .u8 hp) from hb.cell 4
  have d6 := show World.cell? w ⟨rg, 6, none⟩ = some (.bool false) from hb.cell 6
  go_enter Try.func37, Try.ntmps37
  go_wp2_with fail
  refine wp_world (fun wz => Blk wz rg 81 (rdrV Vr (true, id, hg, hp) bg false lg lo ov) ∧ CutT wz cg s.1 s.2 ∧ Blk wz w.heap.size 29 #[.int .u64 0, .int .u64 0, .int .u8 0, .bool false, .slice none 0 0] ∧ w.grownBy wz (some cg)) ⟨hb.alloc _, hc.alloc _, Blk.new w _ _, grown_alloc (grown_refl _ _) _⟩ ?_
  clear d1 d3 d4 d6 hc
  have hlt0 := hb.lt
  clear hb
  rintro wz ⟨hb, hc, hz, hG⟩
  have d1 := show World.cell? wz ⟨rg, 1, none⟩ = some (.bool true) from hb.cell 1
  have d3 := show World.cell? wz ⟨rg, 3, none⟩ = some (.int .u64 hg) from hb.cell 3
  have d4 := show World.cell? wz ⟨rg, 4, none⟩ = some (.int .u8 hp) from hb.cell 4
  have d6 := show World.cell? wz ⟨rg, 6, none⟩ = some (.bool false) from hb.cell 6
  have hlt1 := hb.lt
  obtain ⟨n1, q1⟩ : ∃ n, n = numS s := ⟨_, rfl⟩
  have hk1 := (numS_ok hs).1
  rw [← q1] at hk1
  obtain ⟨n2, q2⟩ : ∃ n, n = numS n1.2 := ⟨_, rfl⟩
  have hk2 := (numS_ok hk1).1
  rw [← q2] at hk2
  obtain ⟨n3, q3⟩ : ∃ n, n = oneS n2.2 := ⟨_, rfl⟩
  have hk3 := (oneS_ok hk2).1
  rw [← q3] at hk3
  have hx' : x = ((n1.1, n2.1, n3.1), n3.2) := by rw [hx]; unfold rdS; rw [if_pos rfl, q3, q2, q1]
  have Q2 := Lib.hid q2
  have Q3 := Lib.hid q3
  clear q2 q3
  have HX' := Lib.hid hx'
  have Q1 := Lib.hid q1
  clear q1 hx hx'
  have hzc := hc.blk_ne hz (by decide)
  have hcl := hc.lt
  have hrl := hb.lt
  have hzl := hz.lt
  clear hlt1
  go_region
  go_wp2_with fail
  refine (cnum_anyT cg s _ (hc.alloc _).drew hs).mono ?_
  rintro e w2 ⟨rfl, hc2, hg2⟩
  rw [← Q1.out] at hc2 ⊢
  have hb2 := Blk.grown (hb.alloc (.cells #[.int .u64 hg, .int .u64 0, .int .u8 hp, .bool false, .slice none 0 0] 29)).drew hg2 (by simpa using hne)
  have hz2 := Blk.grown (hz.alloc (.cells #[.int .u64 hg, .int .u64 0, .int .u8 hp, .bool false, .slice none 0 0] 29)).drew hg2 (by simpa using hzc)
  have hm2 := Blk.grown (Blk.new wz 29 #[.int .u64 hg, .int .u64 0, .int .u8 hp, .bool false, .slice none 0 0]).drew hg2 (by simp; omega)
  have hGa := grown_trans (grown_drew (grown_alloc hG (.cells #[.int .u64 hg, .int .u64 0, .int .u8 hp, .bool false, .slice none 0 0] 29))) hg2
  clear hb hz hc d1 d3 d4 d6 hg2
  go_wp2_with fail
  refine (cnum_anyT cg n1.2 _ hc2 hk1).mono ?_
  rintro e w3 ⟨rfl, hc3, hg3⟩
  rw [← Q2.out] at hc3 ⊢
  have hb3 := hb2.grown hg3 (by simpa using hne)
  have hz3 := hz2.grown hg3 (by simpa using hzc)
  have hm3 := hm2.grown hg3 (by simp; omega)
  have hGb := grown_trans hGa hg3
  clear hb2 hz2 hc2 hm2 hg3 hGa
  go_wp2_with fail
  refine (cone_anyT cg n2.2 _ hc3 hk2).mono ?_
  rintro e w4 ⟨rfl, hc4, hg4⟩
  rw [← Q3.out] at hc4 ⊢
  have hb4 := hb3.grown hg4 (by simpa using hne)
  have hz4 := hz3.grown hg4 (by simpa using hzc)
  have hm4 := hm3.grown hg4 (by simp; omega)
  have hGc := grown_trans hGb hg4
  clear hb3 hz3 hc3 hm3 hg4 hGb
  have m0 := show World.cell? w4 ⟨wz.heap.size, 0, none⟩ = some (.int .u64 hg) from hm4.cell 0
  have m1 := show World.cell? w4 ⟨wz.heap.size, 1, none⟩ = some (.int .u64 0) from hm4.cell 1
  have m2 := show World.cell? w4 ⟨wz.heap.size, 2, none⟩ = some (.int .u8 hp) from hm4.cell 2
  have g0 := hm4.frozen 0
  have g1 := hm4.frozen 1
  have g2 := hm4.frozen 2
  go_wp2_with fail
  refine wp_world (fun wy => Blk wy rg 81 (rdrV Vr (true, id, hg, hp) bg false lg lo ov) ∧ CutT wy cg x.2.1 x.2.2 ∧ Blk wy w.heap.size 29 #[.int .u64 0, .int .u64 0, .int .u8 0, .bool false, .slice none 0 0] ∧ Blk wy wz.heap.size 29 #[.int .u64 x.1.1, .int .u64 x.1.2.1, .int .u8 x.1.2.2, .bool false, .slice none 0 0] ∧ w.grownBy wy (some cg)) ?_ ?_
  · rw [HX'.out]
    refine ⟨(((hb4.far (by simp; omega) _).far (by simp; omega) _).far (by simp; omega) _), ?_, (((hz4.far (by simp; omega) _).far (by simp; omega) _).far (by simp; omega) _), ((hm4.set_ 0 _).set_ 1 _).set_ 2 _, grown_set_new (grown_set_new (grown_set_new hGc (by simp; exact hG.size) _) (by simp; exact hG.size) _) (by simp; exact hG.size) _⟩
    · obtain ⟨V2, hC2, hR2⟩ := hc4
      exact ⟨V2, (((hC2.far (by simp; omega) _).far (by simp; omega) _).far (by simp; omega) _), rdt_set (rdt_set (rdt_set hR2 hm4 (by decide) 0 _) (hm4.set_ 0 _) (by decide) 1 _) ((hm4.set_ 0 _).set_ 1 _) (by decide) 2 _⟩
  clear hb4 hc4 hz4 hm4 hGc m0 m1 m2 g0 g1 g2
  rintro w3 ⟨hb, hc, hz, hm, hG3⟩
  clear HX' Q1 Q2 Q3
  obtain ⟨⟨G, O, P⟩, LL, E⟩ := x
  simp only at hc hm hxk hcase ⊢
  obtain ⟨V3, hC, hR⟩ := hc
  have hHR := Lib.hid hR
  clear hR
  have c1 := show World.cell? w3 ⟨cg, 1, none⟩ = some (.int .i64 E) from hC.cell 1
  have d6 := show World.cell? w3 ⟨rg, 6, none⟩ = some (.bool false) from hb.cell 6
  have d7 := show World.cell? w3 ⟨rg, 7, none⟩ = some (.int .u64 lg) from hb.cell 7
  have d8 := show World.cell? w3 ⟨rg, 8, none⟩ = some (.int .u64 lo) from hb.cell 8
  have m0 := show World.cell? w3 ⟨wz.heap.size, 0, none⟩ = some (.int .u64 G) from hm.cell 0
  have m1 := show World.cell? w3 ⟨wz.heap.size, 1, none⟩ = some (.int .u64 O) from hm.cell 1
  obtain rfl := hcase
  have Cc1 := Cls.cells c1 (World.block_lt_of_cell? _ _ c1)
  have Cd6 := Cls.cells d6 (World.block_lt_of_cell? _ _ d6)
  have Cd7 := Cls.cells d7 (World.block_lt_of_cell? _ _ d7)
  have Cd8 := Cls.cells d8 (World.block_lt_of_cell? _ _ d8)
  have Cm0 := Cls.cells m0 (World.block_lt_of_cell? _ _ m0)
  have Cm1 := Cls.cells m1 (World.block_lt_of_cell? _ _ m1)
  refine wp_region_cls (by kernel_rfl) (by kernel_rfl) ?_
  repeat (go_big_quiet_step ((first | (go_at_call 44; with_reducible exact Cls.call (Nat.le_refl _) (wless_any _ _ _ _ _)))))
  refine wpQuiet_nil ?_
  intro w4 hb4
  have c1 := keepB_cell c1 w4 hb4
  have d6 := keepB_cell d6 w4 hb4
  have d7 := keepB_cell d7 w4 hb4
  have d8 := keepB_cell d8 w4 hb4
  have m0 := keepB_cell m0 w4 hb4
  have m1 := keepB_cell m1 w4 hb4
  clear Cc1 Cd6 Cd7 Cd8 Cm0 Cm1
  have hz4 := hz.same hb4
  have hm4 := hm.same hb4
  have hC4 := hC.same hb4
  have hR4 := hHR.out.below hb4
  have hG4 := grown_trans hG3 (grown_below hb4 _)
  have hT : textS (LL, (0 : Int)) = ((vtext LL 2048).1, (vtext LL 2048).2) := by unfold textS; rw [if_pos rfl]
  have HT := Lib.hid hT
  clear hT
  go_wp2_with fail
  refine (ctext_okT cg LL w4 ⟨V3, hC4, hR4⟩ hxk.1 hxk.2).mono ?_
  rintro e w5 ⟨V5, rfl, r5, hc5, hg5⟩
  obtain ⟨T, hT⟩ : ∃ T, T = (vtext LL 2048).1 := ⟨_, rfl⟩
  obtain ⟨C, hCC⟩ : ∃ C, C = (vtext LL 2048).2 := ⟨_, rfl⟩
  rw [← hT] at r5
  rw [← hCC] at hc5
  have HTT := Lib.hid hT
  have HCC := Lib.hid hCC
  clear hT hCC
  obtain ⟨V6, hC5, hR5⟩ := hc5
  obtain ⟨A5, k5, rfl⟩ := r5.form
  have hmc := hC4.ne_ hm4 (by decide)
  have hz5 := hz4.grown hg5 (by simpa using hzc)
  have hm5 := hm4.grown hg5 (by simpa using Ne.symm hmc)
  have hG5 := grown_trans hG4 hg5
  clear c1
  have c1 := show World.cell? w5 ⟨cg, 1, none⟩ = some (.int .i64 C.2) from hC5.cell 1
  have k4 := show World.cell? w5 ⟨wz.heap.size, 4, none⟩ = some (.slice none 0 0) from hm5.cell 4
  have f4 := hm5.frozen 4
  go_wp2_with fail
  refine wp_world (fun wv => Blk wv w.heap.size 29 #[.int .u64 0, .int .u64 0, .int .u8 0, .bool false, .slice none 0 0] ∧ Blk wv wz.heap.size 29 #[.int .u64 G, .int .u64 O, .int .u8 P, .bool false, (.slice A5 T.length k5)] ∧ Blk wv cg 74 #[V6, .int .i64 C.2] ∧ RdT wv (V6) C.1 ∧ RdT wv ((.slice A5 T.length k5)) T ∧ w.grownBy wv (some cg)) ⟨hz5.far (by simp; omega) _, hm5.set_ 4 _, hC5.far hmc _, rdt_set hR5 hm5 (by decide) 4 _, rdt_set r5 hm5 (by decide) 4 _, grown_set_new hG5 (by simp; omega) _⟩ ?_
  rintro w9 ⟨hz9, hm9, hC9, hR9, hD9, hG9⟩
  clear hz hm hC hb d6 d7 d8 m0 m1 c1
  have m0 : w9.cell? ⟨wz.heap.size, 0, none⟩ = some (.int .u64 G) := hm9.cell 0
  have m1 : w9.cell? ⟨wz.heap.size, 1, none⟩ = some (.int .u64 O) := hm9.cell 1
  have m2 : w9.cell? ⟨wz.heap.size, 2, none⟩ = some (.int .u8 P) := hm9.cell 2
  have m3 : w9.cell? ⟨wz.heap.size, 3, none⟩ = some (.bool false) := hm9.cell 3
  have m4 : w9.cell? ⟨wz.heap.size, 4, none⟩ = some ((.slice A5 T.length k5)) := hm9.cell 4
  have z0 := hz9.frozen 0
  have z1 := hz9.frozen 1
  have z2 := hz9.frozen 2
  have z3 := hz9.frozen 3
  have z4 := hz9.frozen 4
  have y0 : w9.cell? ⟨w.heap.size, 0, none⟩ = some (.int .u64 0) := hz9.cell 0
  have y1 : w9.cell? ⟨w.heap.size, 1, none⟩ = some (.int .u64 0) := hz9.cell 1
  have y2 : w9.cell? ⟨w.heap.size, 2, none⟩ = some (.int .u8 0) := hz9.cell 2
  have y3 : w9.cell? ⟨w.heap.size, 3, none⟩ = some (.bool false) := hz9.cell 3
  have y4 : w9.cell? ⟨w.heap.size, 4, none⟩ = some (.slice none 0 0) := hz9.cell 4
  have c1 : w9.cell? ⟨cg, 1, none⟩ = some (.int .i64 C.2) := hC9.cell 1
  have hlt4 : w.heap.size < w9.heap.size := hz9.lt
  have hlt5 : wz.heap.size < w9.heap.size := hm9.lt
  have hlt6 : cg < w9.heap.size := hC9.lt
  go_region
  all_goals
    go_wp2_with fail
    refine bodyPost_ret (v := .tuple #[.agg #[.int .u64 G, .int .u64 O, .int .u8 P, .bool false, (.slice A5 T.length k5)], .bool (C.2 == 0)]) (by simp [results, Try.results37, go_sem, y0, y1, y2, y3, y4]) rfl ⟨_, by first | rw [HT.out, ← HCC.out] | rfl, ?_, ?_, ?_⟩
    · first | rw [HT.out, ← HTT.out, ← HCC.out] | rw [HT.out, ← HTT.out] | rw [HT.out, ← HCC.out] | skip
      exact five_rdt hD9 hz9 (by decide) _ _ _ _ _
    · first | rw [HT.out, ← HTT.out, ← HCC.out] | rw [HT.out, ← HTT.out] | rw [HT.out, ← HCC.out] | skip
      exact five_cut ⟨V6, hC9, hR9⟩ hz9 (by decide) (Ne.symm hzc) _ _ _ _ _
    · exact five_grown hG9 (Nat.le_refl _) _ _ _ _ _

set_option maxHeartbeats 2000000 in
set_option maxRecDepth 100000 in
theorem obj_f_oky (rg cg : Nat) (Vr : Value) (id hg hp : Int) (bg : Bool) (lg lo : Int) (ov : Bool) (s : List Int × Int) (w : World) (hb : Blk w rg 81 (rdrV Vr (true, id, hg, hp) bg true lg lo ov)) (hc : CutT w cg s.1 s.2) (hs : StOk s) (hcase : (rdS true hg hp s).2.2 = 0 ∧ lessP lg lo (rdS true hg hp s).1.1 (rdS true hg hp s).1.2.1 = true) :
    Calls Try.prog 37 #[.pointer (some ⟨rg, 0, none⟩), .pointer (some ⟨cg, 0, none⟩)] w fun e w' => ∃ V, e = .returned (.tuple #[.agg #[.int .u64 (rdS true hg hp s).1.1, .int .u64 (rdS true hg hp s).1.2.1, .int .u8 (rdS true hg hp s).1.2.2, .bool false, V], .bool ((textS (rdS true hg hp s).2).2.2 == 0)]) ∧ RdT w' V (textS (rdS true hg hp s).2).1 ∧ CutT w' cg ((textS (rdS true hg hp s).2).2).1 ((textS (rdS true hg hp s).2).2).2 ∧ w.grownBy w' (some cg) := by
  have hxk := rdS_ok (f := true) (hg := hg) (hp := hp) hs
  obtain ⟨x, hx⟩ : ∃ x, x = rdS true hg hp s := ⟨_, rfl⟩
  rw [← hx] at hxk hcase ⊢
  have hne := hc.blk_ne hb (by decide)
  have d1 := show World.cell? w ⟨rg, 1, none⟩ = some (.bool true) from hb.cell 1
  have d3 := show World.cell? w ⟨rg, 3, none⟩ = some (.int .u64 hg) from hb.cell 3
  have d4 := show World.cell? w ⟨rg, 4, none⟩ = some (.int .u8 hp) from hb.cell 4
  have d6 := show World.cell? w ⟨rg, 6, none⟩ = some (.bool true) from hb.cell 6
  go_enter Try.func37, Try.ntmps37
  go_wp2_with fail
  refine wp_world (fun wz => Blk wz rg 81 (rdrV Vr (true, id, hg, hp) bg true lg lo ov) ∧ CutT wz cg s.1 s.2 ∧ Blk wz w.heap.size 29 #[.int .u64 0, .int .u64 0, .int .u8 0, .bool false, .slice none 0 0] ∧ w.grownBy wz (some cg)) ⟨hb.alloc _, hc.alloc _, Blk.new w _ _, grown_alloc (grown_refl _ _) _⟩ ?_
  clear d1 d3 d4 d6 hc
  have hlt0 := hb.lt
  clear hb
  rintro wz ⟨hb, hc, hz, hG⟩
  have d1 := show World.cell? wz ⟨rg, 1, none⟩ = some (.bool true) from hb.cell 1
  have d3 := show World.cell? wz ⟨rg, 3, none⟩ = some (.int .u64 hg) from hb.cell 3
  have d4 := show World.cell? wz ⟨rg, 4, none⟩ = some (.int .u8 hp) from hb.cell 4
  have d6 := show World.cell? wz ⟨rg, 6, none⟩ = some (.bool true) from hb.cell 6
  have hlt1 := hb.lt
  obtain ⟨n1, q1⟩ : ∃ n, n = numS s := ⟨_, rfl⟩
  have hk1 := (numS_ok hs).1
  rw [← q1] at hk1
  obtain ⟨n2, q2⟩ : ∃ n, n = numS n1.2 := ⟨_, rfl⟩
  have hk2 := (numS_ok hk1).1
  rw [← q2] at hk2
  obtain ⟨n3, q3⟩ : ∃ n, n = oneS n2.2 := ⟨_, rfl⟩
  have hk3 := (oneS_ok hk2).1
  rw [← q3] at hk3
  have hx' : x = ((n1.1, n2.1, n3.1), n3.2) := by rw [hx]; unfold rdS; rw [if_pos rfl, q3, q2, q1]
  have Q2 := Lib.hid q2
  have Q3 := Lib.hid q3
  clear q2 q3
  have HX' := Lib.hid hx'
  have Q1 := Lib.hid q1
  clear q1 hx hx'
  have hzc := hc.blk_ne hz (by decide)
  have hcl := hc.lt
  have hrl := hb.lt
  have hzl := hz.lt
  clear hlt1
  go_region
  go_wp2_with fail
  refine (cnum_anyT cg s _ (hc.alloc _).drew hs).mono ?_
  rintro e w2 ⟨rfl, hc2, hg2⟩
  rw [← Q1.out] at hc2 ⊢
  have hb2 := Blk.grown (hb.alloc (.cells #[.int .u64 hg, .int .u64 0, .int .u8 hp, .bool false, .slice none 0 0] 29)).drew hg2 (by simpa using hne)
  have hz2 := Blk.grown (hz.alloc (.cells #[.int .u64 hg, .int .u64 0, .int .u8 hp, .bool false, .slice none 0 0] 29)).drew hg2 (by simpa using hzc)
  have hm2 := Blk.grown (Blk.new wz 29 #[.int .u64 hg, .int .u64 0, .int .u8 hp, .bool false, .slice none 0 0]).drew hg2 (by simp; omega)
  have hGa := grown_trans (grown_drew (grown_alloc hG (.cells #[.int .u64 hg, .int .u64 0, .int .u8 hp, .bool false, .slice none 0 0] 29))) hg2
  clear hb hz hc d1 d3 d4 d6 hg2
  go_wp2_with fail
  refine (cnum_anyT cg n1.2 _ hc2 hk1).mono ?_
  rintro e w3 ⟨rfl, hc3, hg3⟩
  rw [← Q2.out] at hc3 ⊢
  have hb3 := hb2.grown hg3 (by simpa using hne)
  have hz3 := hz2.grown hg3 (by simpa using hzc)
  have hm3 := hm2.grown hg3 (by simp; omega)
  have hGb := grown_trans hGa hg3
  clear hb2 hz2 hc2 hm2 hg3 hGa
  go_wp2_with fail
  refine (cone_anyT cg n2.2 _ hc3 hk2).mono ?_
  rintro e w4 ⟨rfl, hc4, hg4⟩
  rw [← Q3.out] at hc4 ⊢
  have hb4 := hb3.grown hg4 (by simpa using hne)
  have hz4 := hz3.grown hg4 (by simpa using hzc)
  have hm4 := hm3.grown hg4 (by simp; omega)
  have hGc := grown_trans hGb hg4
  clear hb3 hz3 hc3 hm3 hg4 hGb
  have m0 := show World.cell? w4 ⟨wz.heap.size, 0, none⟩ = some (.int .u64 hg) from hm4.cell 0
  have m1 := show World.cell? w4 ⟨wz.heap.size, 1, none⟩ = some (.int .u64 0) from hm4.cell 1
  have m2 := show World.cell? w4 ⟨wz.heap.size, 2, none⟩ = some (.int .u8 hp) from hm4.cell 2
  have g0 := hm4.frozen 0
  have g1 := hm4.frozen 1
  have g2 := hm4.frozen 2
  go_wp2_with fail
  refine wp_world (fun wy => Blk wy rg 81 (rdrV Vr (true, id, hg, hp) bg true lg lo ov) ∧ CutT wy cg x.2.1 x.2.2 ∧ Blk wy w.heap.size 29 #[.int .u64 0, .int .u64 0, .int .u8 0, .bool false, .slice none 0 0] ∧ Blk wy wz.heap.size 29 #[.int .u64 x.1.1, .int .u64 x.1.2.1, .int .u8 x.1.2.2, .bool false, .slice none 0 0] ∧ w.grownBy wy (some cg)) ?_ ?_
  · rw [HX'.out]
    refine ⟨(((hb4.far (by simp; omega) _).far (by simp; omega) _).far (by simp; omega) _), ?_, (((hz4.far (by simp; omega) _).far (by simp; omega) _).far (by simp; omega) _), ((hm4.set_ 0 _).set_ 1 _).set_ 2 _, grown_set_new (grown_set_new (grown_set_new hGc (by simp; exact hG.size) _) (by simp; exact hG.size) _) (by simp; exact hG.size) _⟩
    · obtain ⟨V2, hC2, hR2⟩ := hc4
      exact ⟨V2, (((hC2.far (by simp; omega) _).far (by simp; omega) _).far (by simp; omega) _), rdt_set (rdt_set (rdt_set hR2 hm4 (by decide) 0 _) (hm4.set_ 0 _) (by decide) 1 _) ((hm4.set_ 0 _).set_ 1 _) (by decide) 2 _⟩
  clear hb4 hc4 hz4 hm4 hGc m0 m1 m2 g0 g1 g2
  rintro w3 ⟨hb, hc, hz, hm, hG3⟩
  clear HX' Q1 Q2 Q3
  obtain ⟨⟨G, O, P⟩, LL, E⟩ := x
  simp only at hc hm hxk hcase ⊢
  obtain ⟨V3, hC, hR⟩ := hc
  have hHR := Lib.hid hR
  clear hR
  have c1 := show World.cell? w3 ⟨cg, 1, none⟩ = some (.int .i64 E) from hC.cell 1
  have d6 := show World.cell? w3 ⟨rg, 6, none⟩ = some (.bool true) from hb.cell 6
  have d7 := show World.cell? w3 ⟨rg, 7, none⟩ = some (.int .u64 lg) from hb.cell 7
  have d8 := show World.cell? w3 ⟨rg, 8, none⟩ = some (.int .u64 lo) from hb.cell 8
  have m0 := show World.cell? w3 ⟨wz.heap.size, 0, none⟩ = some (.int .u64 G) from hm.cell 0
  have m1 := show World.cell? w3 ⟨wz.heap.size, 1, none⟩ = some (.int .u64 O) from hm.cell 1
  obtain ⟨rfl, hl⟩ := hcase
  have Cc1 := Cls.cells c1 (World.block_lt_of_cell? _ _ c1)
  have Cd6 := Cls.cells d6 (World.block_lt_of_cell? _ _ d6)
  have Cd7 := Cls.cells d7 (World.block_lt_of_cell? _ _ d7)
  have Cd8 := Cls.cells d8 (World.block_lt_of_cell? _ _ d8)
  have Cm0 := Cls.cells m0 (World.block_lt_of_cell? _ _ m0)
  have Cm1 := Cls.cells m1 (World.block_lt_of_cell? _ _ m1)
  refine wp_region_cls (by kernel_rfl) (by kernel_rfl) ?_
  repeat (go_big_quiet_step ((first | (go_at_call 44; with_reducible exact Cls.call (Nat.le_refl _) (wless_is _ _ _ _ _ hl _)))))
  refine wpQuiet_nil ?_
  intro w4 hb4
  have c1 := keepB_cell c1 w4 hb4
  have d6 := keepB_cell d6 w4 hb4
  have d7 := keepB_cell d7 w4 hb4
  have d8 := keepB_cell d8 w4 hb4
  have m0 := keepB_cell m0 w4 hb4
  have m1 := keepB_cell m1 w4 hb4
  clear Cc1 Cd6 Cd7 Cd8 Cm0 Cm1
  have hz4 := hz.same hb4
  have hm4 := hm.same hb4
  have hC4 := hC.same hb4
  have hR4 := hHR.out.below hb4
  have hG4 := grown_trans hG3 (grown_below hb4 _)
  have hT : textS (LL, (0 : Int)) = ((vtext LL 2048).1, (vtext LL 2048).2) := by unfold textS; rw [if_pos rfl]
  have HT := Lib.hid hT
  clear hT
  go_wp2_with fail
  refine (ctext_okT cg LL w4 ⟨V3, hC4, hR4⟩ hxk.1 hxk.2).mono ?_
  rintro e w5 ⟨V5, rfl, r5, hc5, hg5⟩
  obtain ⟨T, hT⟩ : ∃ T, T = (vtext LL 2048).1 := ⟨_, rfl⟩
  obtain ⟨C, hCC⟩ : ∃ C, C = (vtext LL 2048).2 := ⟨_, rfl⟩
  rw [← hT] at r5
  rw [← hCC] at hc5
  have HTT := Lib.hid hT
  have HCC := Lib.hid hCC
  clear hT hCC
  obtain ⟨V6, hC5, hR5⟩ := hc5
  obtain ⟨A5, k5, rfl⟩ := r5.form
  have hmc := hC4.ne_ hm4 (by decide)
  have hz5 := hz4.grown hg5 (by simpa using hzc)
  have hm5 := hm4.grown hg5 (by simpa using Ne.symm hmc)
  have hG5 := grown_trans hG4 hg5
  clear c1
  have c1 := show World.cell? w5 ⟨cg, 1, none⟩ = some (.int .i64 C.2) from hC5.cell 1
  have k4 := show World.cell? w5 ⟨wz.heap.size, 4, none⟩ = some (.slice none 0 0) from hm5.cell 4
  have f4 := hm5.frozen 4
  go_wp2_with fail
  refine wp_world (fun wv => Blk wv w.heap.size 29 #[.int .u64 0, .int .u64 0, .int .u8 0, .bool false, .slice none 0 0] ∧ Blk wv wz.heap.size 29 #[.int .u64 G, .int .u64 O, .int .u8 P, .bool false, (.slice A5 T.length k5)] ∧ Blk wv cg 74 #[V6, .int .i64 C.2] ∧ RdT wv (V6) C.1 ∧ RdT wv ((.slice A5 T.length k5)) T ∧ w.grownBy wv (some cg)) ⟨hz5.far (by simp; omega) _, hm5.set_ 4 _, hC5.far hmc _, rdt_set hR5 hm5 (by decide) 4 _, rdt_set r5 hm5 (by decide) 4 _, grown_set_new hG5 (by simp; omega) _⟩ ?_
  rintro w9 ⟨hz9, hm9, hC9, hR9, hD9, hG9⟩
  clear hz hm hC hb d6 d7 d8 m0 m1 c1
  have m0 : w9.cell? ⟨wz.heap.size, 0, none⟩ = some (.int .u64 G) := hm9.cell 0
  have m1 : w9.cell? ⟨wz.heap.size, 1, none⟩ = some (.int .u64 O) := hm9.cell 1
  have m2 : w9.cell? ⟨wz.heap.size, 2, none⟩ = some (.int .u8 P) := hm9.cell 2
  have m3 : w9.cell? ⟨wz.heap.size, 3, none⟩ = some (.bool false) := hm9.cell 3
  have m4 : w9.cell? ⟨wz.heap.size, 4, none⟩ = some ((.slice A5 T.length k5)) := hm9.cell 4
  have z0 := hz9.frozen 0
  have z1 := hz9.frozen 1
  have z2 := hz9.frozen 2
  have z3 := hz9.frozen 3
  have z4 := hz9.frozen 4
  have y0 : w9.cell? ⟨w.heap.size, 0, none⟩ = some (.int .u64 0) := hz9.cell 0
  have y1 : w9.cell? ⟨w.heap.size, 1, none⟩ = some (.int .u64 0) := hz9.cell 1
  have y2 : w9.cell? ⟨w.heap.size, 2, none⟩ = some (.int .u8 0) := hz9.cell 2
  have y3 : w9.cell? ⟨w.heap.size, 3, none⟩ = some (.bool false) := hz9.cell 3
  have y4 : w9.cell? ⟨w.heap.size, 4, none⟩ = some (.slice none 0 0) := hz9.cell 4
  have c1 : w9.cell? ⟨cg, 1, none⟩ = some (.int .i64 C.2) := hC9.cell 1
  have hlt4 : w.heap.size < w9.heap.size := hz9.lt
  have hlt5 : wz.heap.size < w9.heap.size := hm9.lt
  have hlt6 : cg < w9.heap.size := hC9.lt
  go_region
  all_goals
    go_wp2_with fail
    refine bodyPost_ret (v := .tuple #[.agg #[.int .u64 G, .int .u64 O, .int .u8 P, .bool false, (.slice A5 T.length k5)], .bool (C.2 == 0)]) (by simp [results, Try.results37, go_sem, y0, y1, y2, y3, y4]) rfl ⟨_, by first | rw [HT.out, ← HCC.out] | rfl, ?_, ?_, ?_⟩
    · first | rw [HT.out, ← HTT.out, ← HCC.out] | rw [HT.out, ← HTT.out] | rw [HT.out, ← HCC.out] | skip
      exact five_rdt hD9 hz9 (by decide) _ _ _ _ _
    · first | rw [HT.out, ← HTT.out, ← HCC.out] | rw [HT.out, ← HTT.out] | rw [HT.out, ← HCC.out] | skip
      exact five_cut ⟨V6, hC9, hR9⟩ hz9 (by decide) (Ne.symm hzc) _ _ _ _ _
    · exact five_grown hG9 (Nat.le_refl _) _ _ _ _ _

theorem object_any (rg cg : Nat) (Vr : Value) (f : Bool) (id hg hp : Int) (bg sm : Bool) (lg lo : Int) (ov : Bool) (s : List Int × Int) (w : World) (hb : Blk w rg 81 (rdrV Vr (f, id, hg, hp) bg sm lg lo ov)) (hc : CutT w cg s.1 s.2) (hs : StOk s) :
    Calls Try.prog 37 #[.pointer (some ⟨rg, 0, none⟩), .pointer (some ⟨cg, 0, none⟩)] w fun e w' => ∃ V, e = .returned (.tuple #[.agg #[.int .u64 (objS f hg hp sm lg lo s).1.1, .int .u64 (objS f hg hp sm lg lo s).1.2.1, .int .u8 (objS f hg hp sm lg lo s).1.2.2, .bool false, V], .bool ((objS f hg hp sm lg lo s).2.2.2 == 0)]) ∧
      RdT w' V (objS f hg hp sm lg lo s).2.1 ∧ CutT w' cg (objS f hg hp sm lg lo s).2.2.1 (objS f hg hp sm lg lo s).2.2.2 ∧ w.grownBy w' (some cg) := by
  unfold objS
  by_cases h0 : (rdS f hg hp s).2.2 = 0
  · rw [if_neg (by simpa using h0)]
    cases sm
    · rw [if_neg (by simp)]
      cases f
      · exact obj_g_okn rg cg Vr id hg hp bg lg lo ov s w hb hc hs h0
      · exact obj_f_okn rg cg Vr id hg hp bg lg lo ov s w hb hc hs h0
    · cases hl : lessP lg lo (rdS f hg hp s).1.1 (rdS f hg hp s).1.2.1
      · rw [if_pos (by simp)]
        cases f
        · exact obj_g_late rg cg Vr id hg hp bg lg lo ov s w hb hc hs ⟨h0, hl⟩
        · exact obj_f_late rg cg Vr id hg hp bg lg lo ov s w hb hc hs ⟨h0, hl⟩
      · rw [if_neg (by simp)]
        cases f
        · exact obj_g_oky rg cg Vr id hg hp bg lg lo ov s w hb hc hs ⟨h0, hl⟩
        · exact obj_f_oky rg cg Vr id hg hp bg lg lo ov s w hb hc hs ⟨h0, hl⟩
  · rw [if_pos h0]
    have h1 : ((rdS f hg hp s).2.2 == 0) = false := by simpa using h0
    rw [h1]
    cases f
    · exact obj_g_bad rg cg Vr id hg hp bg sm lg lo ov s w hb hc hs h0
    · exact obj_f_bad rg cg Vr id hg hp bg sm lg lo ov s w hb hc hs h0

end Go.Proofs.Ythmdbkefbbjfmaa
