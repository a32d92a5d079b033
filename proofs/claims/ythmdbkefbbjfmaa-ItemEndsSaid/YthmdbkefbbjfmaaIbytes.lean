/-
  ItemBytes: every front, object and datagram has its bytes, or is refused; they come back untouched. For every input; no condition.
-/
import Derived.Test.YthmdbkefbbjfmaaIawake
namespace Go.Proofs.Ythmdbkefbbjfmaa
open Go.RowKit
set_option linter.unusedVariables false
set_option linter.unusedSimpArgs false


theorem next_any (f : Bool) (id hg hp G O pr : Int) (gr : Bool) (V : Value) (l : List Int) (w : World) (hv : Rd w .u8 V l) (hl : l.length ≤ 1000000) (ho : ObOk G O pr) :
    Calls Try.prog 13 #[.agg #[.bool f, .int .u64 id, .int .u64 hg, .int .u8 hp], .agg #[.int .u64 G, .int .u64 O, .int .u8 pr, .bool gr, V]] w fun e w' => ∃ v, e = .returned (.tuple #[v, .int .i64 (nextR f hg hp G O pr gr l).2]) ∧ w'.ownsRow w.heap.size 5 1 v (nextR f hg hp G O pr gr l).1.length ((nextR f hg hp G O pr gr l).1.map (Value.int .u8)) ∧ Below w.heap.size w w' := by
  by_cases h : 2048 < l.length
  · exact next_long f id hg hp G O pr gr V l _ w hv hl ho h rfl
  · cases f with
    | true => exact next_t id hg hp G O pr gr V l _ w hv hl ho (by omega) rfl
    | false => exact next_f id hg hp G O pr gr V l _ w hv hl ho (by omega) rfl

theorem rnext_any (f : Bool) (id hg hp G O pr : Int) (gr : Bool) (V : Value) (l : List Int) (w : World) (hv : Rd w .u8 V l) (hl : l.length ≤ 1000000) (ho : ObOk G O pr) :
    Calls Try.prog 14 #[.agg #[.bool f, .int .u64 id, .int .u64 hg, .int .u8 hp], .agg #[.int .u64 G, .int .u64 O, .int .u8 pr, .bool gr, V]] w fun e w' => ∃ v, e = .returned (.tuple #[v, .int .i64 (nextR f hg hp G O pr gr l).2]) ∧ w'.ownsRow w.heap.size 5 1 v (nextR f hg hp G O pr gr l).1.length ((nextR f hg hp G O pr gr l).1.map (Value.int .u8)) ∧ Below w.heap.size w w' := by
  by_cases h : 2048 < l.length
  · exact rnext_long f id hg hp G O pr gr V l _ w hv hl ho h rfl
  · cases f with
    | true => exact rnext_t id hg hp G O pr gr V l _ w hv hl ho (by omega) rfl
    | false => exact rnext_f id hg hp G O pr gr V l _ w hv hl ho (by omega) rfl

set_option maxHeartbeats 4000000 in
set_option maxRecDepth 100000 in
theorem bytes_walk (f : Bool) (id hg hp al G O pr : Int) (gr : Bool) (V : Value) (l : List Int) (w : World) (hv : Rd w .u8 V l) (hid : 0 ≤ id ∧ id ≤ 18446744073709551615) (hhg : 0 ≤ hg ∧ hg ≤ 18446744073709551615) (hhp : 0 ≤ hp ∧ hp ≤ 255) (hal : 0 ≤ al ∧ al ≤ 18446744073709551615) (hob : ObOk G O pr) :
    Calls Try.prog 3 #[.agg #[.bool f, .int .u64 id, .int .u64 hg, .int .u8 hp], .int .u64 al, .agg #[.int .u64 G, .int .u64 O, .int .u8 pr, .bool gr, V]] w fun e w' => e = .returned (.bool true) ∧ Below w.heap.size w w' := by
  obtain ⟨Ad, cd, rfl⟩ := hv.form
  have hH := (Blk.new w 24 #[.bool f, .int .u64 id, .int .u64 hg, .int .u8 hp]).alloc (.cells #[.int .u64 G, .int .u64 O, .int .u8 pr, .bool gr, (.slice Ad l.length cd)] 29)
  have hO := Blk.new (w.alloc (.cells #[.bool f, .int .u64 id, .int .u64 hg, .int .u8 hp] 24)) 29 #[.int .u64 G, .int .u64 O, .int .u8 pr, .bool gr, (.slice Ad l.length cd)]
  rw [World.size_alloc] at hO
  have hB := ((Below.refl w.heap.size w).alloc (Nat.le_refl _) (.cells #[.bool f, .int .u64 id, .int .u64 hg, .int .u8 hp] 24)).alloc (by simp) (.cells #[.int .u64 G, .int .u64 O, .int .u8 pr, .bool gr, (.slice Ad l.length cd)] 29)
  have HV := Lib.hid hv
  clear hv
  go_enter Try.func3, Try.ntmps3
  go_wp2_with fail
  refine (awake_any _).mono ?_
  rintro e w1 ⟨rfl, hb⟩
  have hH := hH.same hb
  have hO := hO.same hb
  have hB := hB.trans (hb.mono hB.size)
  have hs1 := hb.size
  simp only [World.size_alloc] at hs1
  clear hb
  have o0 : w1.cell? ⟨w.heap.size + 1, 0, none⟩ = some (.int .u64 G) := hO.cell 0
  have o1 : w1.cell? ⟨w.heap.size + 1, 1, none⟩ = some (.int .u64 O) := hO.cell 1
  have o2 : w1.cell? ⟨w.heap.size + 1, 2, none⟩ = some (.int .u8 pr) := hO.cell 2
  have o3 : w1.cell? ⟨w.heap.size + 1, 3, none⟩ = some (.bool gr) := hO.cell 3
  have o4 : w1.cell? ⟨w.heap.size + 1, 4, none⟩ = some (.slice Ad l.length cd) := hO.cell 4
  go_wp2_with fail
  refine (few_any G O pr gr _ l _ (HV.out.below hB)).mono ?_
  rintro e w2 ⟨V2, rfl, ho, hb⟩
  have hH := hH.same hb
  have hO := hO.same hb
  have hs2 := hb.size
  have hB := hB.trans (hb.mono hB.size)
  clear hb o0 o1 o2 o3 o4
  obtain ⟨A2, k2, rfl⟩ := (rd_of_own (k := .u8) ho).form
  obtain ⟨L, hL⟩ : ∃ L, L = l.take 2100 := ⟨_, rfl⟩
  rw [← hL] at ho ⊢
  have hLl : L.length ≤ 2100 := by rw [hL]; simp; omega
  clear hL
  have hfar : (Value.slice A2 L.length k2).ownBlock ≠ some (w.heap.size + 1) := fun he => by have := (ho.lt _ he).1; omega
  have o0 : w2.cell? ⟨w.heap.size + 1, 0, none⟩ = some (.int .u64 G) := hO.cell 0
  have o1 : w2.cell? ⟨w.heap.size + 1, 1, none⟩ = some (.int .u64 O) := hO.cell 1
  have o2 : w2.cell? ⟨w.heap.size + 1, 2, none⟩ = some (.int .u8 pr) := hO.cell 2
  have o3 : w2.cell? ⟨w.heap.size + 1, 3, none⟩ = some (.bool gr) := hO.cell 3
  have o4 : w2.cell? ⟨w.heap.size + 1, 4, none⟩ = some (.slice Ad l.length cd) := hO.cell 4
  have f0 := hO.frozen 0
  have f1 := hO.frozen 1
  have f2 := hO.frozen 2
  have f3 := hO.frozen 3
  have f4 := hO.frozen 4
  go_upto_region 4 with (fail)
  refine wp_world (fun wz => Blk wz w.heap.size 24 #[.bool f, .int .u64 id, .int .u64 hg, .int .u8 hp] ∧ Blk wz (w.heap.size + 1) 29 #[.int .u64 G, .int .u64 O, .int .u8 pr, .bool gr, (.slice A2 L.length k2)] ∧ Rd wz .u8 (.slice A2 L.length k2) L ∧ Below w.heap.size w wz) ⟨((((hH.far (by simp) _).far (by simp) _).far (by simp) _).far (by simp) _).far (by simp) _, ((((hO.set_ 0 _).set_ 1 _).set_ 2 _).set_ 3 _).set_ 4 _, rd_of_own (own_far (own_far (own_far (own_far (own_far ho hfar _) hfar _) hfar _) hfar _) hfar _), ((((hB.setCell (by simp) _).setCell (by simp) _).setCell (by simp) _).setCell (by simp) _).setCell (by simp) _⟩ ?_
  clear o0 o1 o2 o3 o4 f0 f1 f2 f3 f4 hH hO ho hB hfar hs2
  rintro w3 ⟨hH, hO, r2, hB⟩
  have o0 : w3.cell? ⟨w.heap.size + 1, 0, none⟩ = some (.int .u64 G) := hO.cell 0
  have o1 : w3.cell? ⟨w.heap.size + 1, 1, none⟩ = some (.int .u64 O) := hO.cell 1
  have o2 : w3.cell? ⟨w.heap.size + 1, 2, none⟩ = some (.int .u8 pr) := hO.cell 2
  have o3 : w3.cell? ⟨w.heap.size + 1, 3, none⟩ = some (.bool gr) := hO.cell 3
  have o4 : w3.cell? ⟨w.heap.size + 1, 4, none⟩ = some (.slice A2 L.length k2) := hO.cell 4
  go_wp2_with fail
  refine (few_any G O pr gr _ L _ r2).mono ?_
  rintro e w4 ⟨V3, rfl, ho, hb⟩
  have hH := hH.same hb
  have hO := hO.same hb
  have hB := hB.trans (hb.mono hB.size)
  have r2 := r2.below hb
  clear hb o0 o1 o2 o3 o4
  have hLt : L.take 2100 = L := List.take_of_length_le (by omega)
  rw [hLt] at ho
  clear hLt
  have r3 := rd_of_own (k := .u8) (l := L) ho
  obtain ⟨A3, k3, rfl⟩ := r3.form
  clear ho
  have hM := Blk.new w4 29 #[.int .u64 G, .int .u64 O, .int .u8 pr, .bool gr, (.slice A3 L.length k3)]
  have hH := hH.alloc (.cells #[.int .u64 G, .int .u64 O, .int .u8 pr, .bool gr, (.slice A3 L.length k3)] 29)
  have hO := hO.alloc (.cells #[.int .u64 G, .int .u64 O, .int .u8 pr, .bool gr, (.slice A3 L.length k3)] 29)
  have hB := hB.alloc hB.size (.cells #[.int .u64 G, .int .u64 O, .int .u8 pr, .bool gr, (.slice A3 L.length k3)] 29)
  have r2 := r2.alloc (.cells #[.int .u64 G, .int .u64 O, .int .u8 pr, .bool gr, (.slice A3 L.length k3)] 29)
  have r3 := r3.alloc (.cells #[.int .u64 G, .int .u64 O, .int .u8 pr, .bool gr, (.slice A3 L.length k3)] 29)
  have d0 := show World.cell? _ ⟨w.heap.size, 0, none⟩ = some (.bool f) from hH.cell 0
  have d1 := show World.cell? _ ⟨w.heap.size, 1, none⟩ = some (.int .u64 id) from hH.cell 1
  have d2 := show World.cell? _ ⟨w.heap.size, 2, none⟩ = some (.int .u64 hg) from hH.cell 2
  have d3 := show World.cell? _ ⟨w.heap.size, 3, none⟩ = some (.int .u8 hp) from hH.cell 3
  have o0 := show World.cell? _ ⟨w.heap.size + 1, 0, none⟩ = some (.int .u64 G) from hO.cell 0
  have o1 := show World.cell? _ ⟨w.heap.size + 1, 1, none⟩ = some (.int .u64 O) from hO.cell 1
  have o2 := show World.cell? _ ⟨w.heap.size + 1, 2, none⟩ = some (.int .u8 pr) from hO.cell 2
  have o3 := show World.cell? _ ⟨w.heap.size + 1, 3, none⟩ = some (.bool gr) from hO.cell 3
  have o4 := show World.cell? _ ⟨w.heap.size + 1, 4, none⟩ = some (.slice A2 L.length k2) from hO.cell 4
  have m0 := show World.cell? _ ⟨w4.heap.size, 0, none⟩ = some (.int .u64 G) from hM.cell 0
  have m1 := show World.cell? _ ⟨w4.heap.size, 1, none⟩ = some (.int .u64 O) from hM.cell 1
  have m2 := show World.cell? _ ⟨w4.heap.size, 2, none⟩ = some (.int .u8 pr) from hM.cell 2
  have m3 := show World.cell? _ ⟨w4.heap.size, 3, none⟩ = some (.bool gr) from hM.cell 3
  have m4 := show World.cell? _ ⟨w4.heap.size, 4, none⟩ = some (.slice A3 L.length k3) from hM.cell 4
  go_wp2_with fail
  refine (begin_any f id hg hp _ hid hhg hhp).mono ?_
  rintro e w5 ⟨v5, rfl, ho, hb⟩
  have r5 := rd_of_own (k := .u8) (l := (beginR f id hg hp).1) ho
  obtain ⟨A5, k5, rfl⟩ := r5.form
  have r2 := r2.below hb
  have r3 := r3.below hb
  have hH := hH.same hb
  have hO := hO.same hb
  have hM := hM.same hb
  have hB := hB.trans (hb.mono hB.size)
  clear ho hb
  clear d0 d1 d2 d3 o0 o1 o2 o3 o4 m0 m1 m2 m3 m4
  have d0 : w5.cell? ⟨w.heap.size, 0, none⟩ = some (.bool f) := hH.cell 0
  have d1 : w5.cell? ⟨w.heap.size, 1, none⟩ = some (.int .u64 id) := hH.cell 1
  have d2 : w5.cell? ⟨w.heap.size, 2, none⟩ = some (.int .u64 hg) := hH.cell 2
  have d3 : w5.cell? ⟨w.heap.size, 3, none⟩ = some (.int .u8 hp) := hH.cell 3
  have o0 : w5.cell? ⟨w.heap.size + 1, 0, none⟩ = some (.int .u64 G) := hO.cell 0
  have o1 : w5.cell? ⟨w.heap.size + 1, 1, none⟩ = some (.int .u64 O) := hO.cell 1
  have o2 : w5.cell? ⟨w.heap.size + 1, 2, none⟩ = some (.int .u8 pr) := hO.cell 2
  have o3 : w5.cell? ⟨w.heap.size + 1, 3, none⟩ = some (.bool gr) := hO.cell 3
  have o4 : w5.cell? ⟨w.heap.size + 1, 4, none⟩ = some (.slice A2 L.length k2) := hO.cell 4
  have m0 : w5.cell? ⟨w4.heap.size, 0, none⟩ = some (.int .u64 G) := hM.cell 0
  have m1 : w5.cell? ⟨w4.heap.size, 1, none⟩ = some (.int .u64 O) := hM.cell 1
  have m2 : w5.cell? ⟨w4.heap.size, 2, none⟩ = some (.int .u8 pr) := hM.cell 2
  have m3 : w5.cell? ⟨w4.heap.size, 3, none⟩ = some (.bool gr) := hM.cell 3
  have m4 : w5.cell? ⟨w4.heap.size, 4, none⟩ = some (.slice A3 L.length k3) := hM.cell 4
  go_wp2_with fail
  refine (rbegin_any f id hg hp _ hid hhg hhp).mono ?_
  rintro e w6 ⟨v6, rfl, ho, hb⟩
  have r6 := rd_of_own (k := .u8) (l := (beginR f id hg hp).1) ho
  obtain ⟨A6, k6, rfl⟩ := r6.form
  have r2 := r2.below hb
  have r3 := r3.below hb
  have r5 := r5.below hb
  have hH := hH.same hb
  have hO := hO.same hb
  have hM := hM.same hb
  have hB := hB.trans (hb.mono hB.size)
  clear ho hb
  clear d0 d1 d2 d3 o0 o1 o2 o3 o4 m0 m1 m2 m3 m4
  have d0 : w6.cell? ⟨w.heap.size, 0, none⟩ = some (.bool f) := hH.cell 0
  have d1 : w6.cell? ⟨w.heap.size, 1, none⟩ = some (.int .u64 id) := hH.cell 1
  have d2 : w6.cell? ⟨w.heap.size, 2, none⟩ = some (.int .u64 hg) := hH.cell 2
  have d3 : w6.cell? ⟨w.heap.size, 3, none⟩ = some (.int .u8 hp) := hH.cell 3
  have o0 : w6.cell? ⟨w.heap.size + 1, 0, none⟩ = some (.int .u64 G) := hO.cell 0
  have o1 : w6.cell? ⟨w.heap.size + 1, 1, none⟩ = some (.int .u64 O) := hO.cell 1
  have o2 : w6.cell? ⟨w.heap.size + 1, 2, none⟩ = some (.int .u8 pr) := hO.cell 2
  have o3 : w6.cell? ⟨w.heap.size + 1, 3, none⟩ = some (.bool gr) := hO.cell 3
  have o4 : w6.cell? ⟨w.heap.size + 1, 4, none⟩ = some (.slice A2 L.length k2) := hO.cell 4
  have m0 : w6.cell? ⟨w4.heap.size, 0, none⟩ = some (.int .u64 G) := hM.cell 0
  have m1 : w6.cell? ⟨w4.heap.size, 1, none⟩ = some (.int .u64 O) := hM.cell 1
  have m2 : w6.cell? ⟨w4.heap.size, 2, none⟩ = some (.int .u8 pr) := hM.cell 2
  have m3 : w6.cell? ⟨w4.heap.size, 3, none⟩ = some (.bool gr) := hM.cell 3
  have m4 : w6.cell? ⟨w4.heap.size, 4, none⟩ = some (.slice A3 L.length k3) := hM.cell 4
  go_wp2_with fail
  refine (next_any f id hg hp G O pr gr _ L _ r3 (by omega) hob).mono ?_
  rintro e w7 ⟨v7, rfl, ho, hb⟩
  have r7 := rd_of_own (k := .u8) (l := (nextR f hg hp G O pr gr L).1) ho
  obtain ⟨A7, k7, rfl⟩ := r7.form
  have r2 := r2.below hb
  have r3 := r3.below hb
  have r5 := r5.below hb
  have r6 := r6.below hb
  have hH := hH.same hb
  have hO := hO.same hb
  have hM := hM.same hb
  have hB := hB.trans (hb.mono hB.size)
  clear ho hb
  clear d0 d1 d2 d3 o0 o1 o2 o3 o4 m0 m1 m2 m3 m4
  have d0 : w7.cell? ⟨w.heap.size, 0, none⟩ = some (.bool f) := hH.cell 0
  have d1 : w7.cell? ⟨w.heap.size, 1, none⟩ = some (.int .u64 id) := hH.cell 1
  have d2 : w7.cell? ⟨w.heap.size, 2, none⟩ = some (.int .u64 hg) := hH.cell 2
  have d3 : w7.cell? ⟨w.heap.size, 3, none⟩ = some (.int .u8 hp) := hH.cell 3
  have o0 : w7.cell? ⟨w.heap.size + 1, 0, none⟩ = some (.int .u64 G) := hO.cell 0
  have o1 : w7.cell? ⟨w.heap.size + 1, 1, none⟩ = some (.int .u64 O) := hO.cell 1
  have o2 : w7.cell? ⟨w.heap.size + 1, 2, none⟩ = some (.int .u8 pr) := hO.cell 2
  have o3 : w7.cell? ⟨w.heap.size + 1, 3, none⟩ = some (.bool gr) := hO.cell 3
  have o4 : w7.cell? ⟨w.heap.size + 1, 4, none⟩ = some (.slice A2 L.length k2) := hO.cell 4
  have m0 : w7.cell? ⟨w4.heap.size, 0, none⟩ = some (.int .u64 G) := hM.cell 0
  have m1 : w7.cell? ⟨w4.heap.size, 1, none⟩ = some (.int .u64 O) := hM.cell 1
  have m2 : w7.cell? ⟨w4.heap.size, 2, none⟩ = some (.int .u8 pr) := hM.cell 2
  have m3 : w7.cell? ⟨w4.heap.size, 3, none⟩ = some (.bool gr) := hM.cell 3
  have m4 : w7.cell? ⟨w4.heap.size, 4, none⟩ = some (.slice A3 L.length k3) := hM.cell 4
  go_wp2_with fail
  refine (rnext_any f id hg hp G O pr gr _ L _ r2 (by omega) hob).mono ?_
  rintro e w8 ⟨v8, rfl, ho, hb⟩
  have r8 := rd_of_own (k := .u8) (l := (nextR f hg hp G O pr gr L).1) ho
  obtain ⟨A8, k8, rfl⟩ := r8.form
  have r2 := r2.below hb
  have r3 := r3.below hb
  have r5 := r5.below hb
  have r6 := r6.below hb
  have r7 := r7.below hb
  have hH := hH.same hb
  have hO := hO.same hb
  have hM := hM.same hb
  have hB := hB.trans (hb.mono hB.size)
  clear ho hb
  clear d0 d1 d2 d3 o0 o1 o2 o3 o4 m0 m1 m2 m3 m4
  have d0 : w8.cell? ⟨w.heap.size, 0, none⟩ = some (.bool f) := hH.cell 0
  have d1 : w8.cell? ⟨w.heap.size, 1, none⟩ = some (.int .u64 id) := hH.cell 1
  have d2 : w8.cell? ⟨w.heap.size, 2, none⟩ = some (.int .u64 hg) := hH.cell 2
  have d3 : w8.cell? ⟨w.heap.size, 3, none⟩ = some (.int .u8 hp) := hH.cell 3
  have o0 : w8.cell? ⟨w.heap.size + 1, 0, none⟩ = some (.int .u64 G) := hO.cell 0
  have o1 : w8.cell? ⟨w.heap.size + 1, 1, none⟩ = some (.int .u64 O) := hO.cell 1
  have o2 : w8.cell? ⟨w.heap.size + 1, 2, none⟩ = some (.int .u8 pr) := hO.cell 2
  have o3 : w8.cell? ⟨w.heap.size + 1, 3, none⟩ = some (.bool gr) := hO.cell 3
  have o4 : w8.cell? ⟨w.heap.size + 1, 4, none⟩ = some (.slice A2 L.length k2) := hO.cell 4
  have m0 : w8.cell? ⟨w4.heap.size, 0, none⟩ = some (.int .u64 G) := hM.cell 0
  have m1 : w8.cell? ⟨w4.heap.size, 1, none⟩ = some (.int .u64 O) := hM.cell 1
  have m2 : w8.cell? ⟨w4.heap.size, 2, none⟩ = some (.int .u8 pr) := hM.cell 2
  have m3 : w8.cell? ⟨w4.heap.size, 3, none⟩ = some (.bool gr) := hM.cell 3
  have m4 : w8.cell? ⟨w4.heap.size, 4, none⟩ = some (.slice A3 L.length k3) := hM.cell 4
  go_wp2_with fail
  refine (gram al G O pr gr _ L _ _ r3 (by omega) hal hob rfl).mono ?_
  rintro e w9 ⟨v9, rfl, ho, hb⟩
  have r9 := rd_of_own (k := .u8) (l := (gramR al G O pr gr L).1) ho
  obtain ⟨A9, k9, rfl⟩ := r9.form
  have r2 := r2.below hb
  have r3 := r3.below hb
  have r5 := r5.below hb
  have r6 := r6.below hb
  have r7 := r7.below hb
  have r8 := r8.below hb
  have hH := hH.same hb
  have hO := hO.same hb
  have hM := hM.same hb
  have hB := hB.trans (hb.mono hB.size)
  clear ho hb
  clear d0 d1 d2 d3 o0 o1 o2 o3 o4 m0 m1 m2 m3 m4
  have d0 : w9.cell? ⟨w.heap.size, 0, none⟩ = some (.bool f) := hH.cell 0
  have d1 : w9.cell? ⟨w.heap.size, 1, none⟩ = some (.int .u64 id) := hH.cell 1
  have d2 : w9.cell? ⟨w.heap.size, 2, none⟩ = some (.int .u64 hg) := hH.cell 2
  have d3 : w9.cell? ⟨w.heap.size, 3, none⟩ = some (.int .u8 hp) := hH.cell 3
  have o0 : w9.cell? ⟨w.heap.size + 1, 0, none⟩ = some (.int .u64 G) := hO.cell 0
  have o1 : w9.cell? ⟨w.heap.size + 1, 1, none⟩ = some (.int .u64 O) := hO.cell 1
  have o2 : w9.cell? ⟨w.heap.size + 1, 2, none⟩ = some (.int .u8 pr) := hO.cell 2
  have o3 : w9.cell? ⟨w.heap.size + 1, 3, none⟩ = some (.bool gr) := hO.cell 3
  have o4 : w9.cell? ⟨w.heap.size + 1, 4, none⟩ = some (.slice A2 L.length k2) := hO.cell 4
  have m0 : w9.cell? ⟨w4.heap.size, 0, none⟩ = some (.int .u64 G) := hM.cell 0
  have m1 : w9.cell? ⟨w4.heap.size, 1, none⟩ = some (.int .u64 O) := hM.cell 1
  have m2 : w9.cell? ⟨w4.heap.size, 2, none⟩ = some (.int .u8 pr) := hM.cell 2
  have m3 : w9.cell? ⟨w4.heap.size, 3, none⟩ = some (.bool gr) := hM.cell 3
  have m4 : w9.cell? ⟨w4.heap.size, 4, none⟩ = some (.slice A3 L.length k3) := hM.cell 4
  go_wp2_with fail
  refine (rgram al G O pr gr _ L _ _ r2 (by omega) hal hob rfl).mono ?_
  rintro e w10 ⟨v10, rfl, ho, hb⟩
  have r10 := rd_of_own (k := .u8) (l := (gramR al G O pr gr L).1) ho
  obtain ⟨A10, k10, rfl⟩ := r10.form
  have r2 := r2.below hb
  have r3 := r3.below hb
  have r5 := r5.below hb
  have r6 := r6.below hb
  have r7 := r7.below hb
  have r8 := r8.below hb
  have r9 := r9.below hb
  have hH := hH.same hb
  have hO := hO.same hb
  have hM := hM.same hb
  have hB := hB.trans (hb.mono hB.size)
  clear ho hb
  clear d0 d1 d2 d3 o0 o1 o2 o3 o4 m0 m1 m2 m3 m4
  have d0 : w10.cell? ⟨w.heap.size, 0, none⟩ = some (.bool f) := hH.cell 0
  have d1 : w10.cell? ⟨w.heap.size, 1, none⟩ = some (.int .u64 id) := hH.cell 1
  have d2 : w10.cell? ⟨w.heap.size, 2, none⟩ = some (.int .u64 hg) := hH.cell 2
  have d3 : w10.cell? ⟨w.heap.size, 3, none⟩ = some (.int .u8 hp) := hH.cell 3
  have o0 : w10.cell? ⟨w.heap.size + 1, 0, none⟩ = some (.int .u64 G) := hO.cell 0
  have o1 : w10.cell? ⟨w.heap.size + 1, 1, none⟩ = some (.int .u64 O) := hO.cell 1
  have o2 : w10.cell? ⟨w.heap.size + 1, 2, none⟩ = some (.int .u8 pr) := hO.cell 2
  have o3 : w10.cell? ⟨w.heap.size + 1, 3, none⟩ = some (.bool gr) := hO.cell 3
  have o4 : w10.cell? ⟨w.heap.size + 1, 4, none⟩ = some (.slice A2 L.length k2) := hO.cell 4
  have m0 : w10.cell? ⟨w4.heap.size, 0, none⟩ = some (.int .u64 G) := hM.cell 0
  have m1 : w10.cell? ⟨w4.heap.size, 1, none⟩ = some (.int .u64 O) := hM.cell 1
  have m2 : w10.cell? ⟨w4.heap.size, 2, none⟩ = some (.int .u8 pr) := hM.cell 2
  have m3 : w10.cell? ⟨w4.heap.size, 3, none⟩ = some (.bool gr) := hM.cell 3
  have m4 : w10.cell? ⟨w4.heap.size, 4, none⟩ = some (.slice A3 L.length k3) := hM.cell 4
  go_wp2_with fail
  refine (same_yes _ _ _ _ r5 r6).mono ?_
  rintro e w11 ⟨rfl, rfl⟩
  go_wp2_with fail
  refine (same_yes _ _ _ _ r7 r8).mono ?_
  rintro e w11 ⟨rfl, rfl⟩
  go_wp2_with fail
  refine (same_yes _ _ _ _ r9 r10).mono ?_
  rintro e w11 ⟨rfl, rfl⟩
  have hOb := hO.alloc (.cells #[.int .u64 G, .int .u64 O, .int .u8 pr, .bool gr, (.slice A3 L.length k3)] 29)
  have u0 := show World.cell? _ ⟨w.heap.size + 1, 0, none⟩ = some (.int .u64 G) from hOb.cell 0
  have u1 := show World.cell? _ ⟨w.heap.size + 1, 1, none⟩ = some (.int .u64 O) from hOb.cell 1
  have u2 := show World.cell? _ ⟨w.heap.size + 1, 2, none⟩ = some (.int .u8 pr) from hOb.cell 2
  have u3 := show World.cell? _ ⟨w.heap.size + 1, 3, none⟩ = some (.bool gr) from hOb.cell 3
  have u4 := show World.cell? _ ⟨w.heap.size + 1, 4, none⟩ = some (.slice A2 L.length k2) from hOb.cell 4
  have q1 := (Blk.new w10 29 #[.int .u64 G, .int .u64 O, .int .u8 pr, .bool gr, (.slice A3 L.length k3)]).alloc (.cells #[.int .u64 G, .int .u64 O, .int .u8 pr, .bool gr, (.slice A2 L.length k2)] 29)
  have q2 := Blk.new (w10.alloc (.cells #[.int .u64 G, .int .u64 O, .int .u8 pr, .bool gr, (.slice A3 L.length k3)] 29)) 29 #[.int .u64 G, .int .u64 O, .int .u8 pr, .bool gr, (.slice A2 L.length k2)]
  rw [World.size_alloc] at q2
  have r2 := (r2.alloc (.cells #[.int .u64 G, .int .u64 O, .int .u8 pr, .bool gr, (.slice A3 L.length k3)] 29)).alloc (.cells #[.int .u64 G, .int .u64 O, .int .u8 pr, .bool gr, (.slice A2 L.length k2)] 29)
  have r3 := (r3.alloc (.cells #[.int .u64 G, .int .u64 O, .int .u8 pr, .bool gr, (.slice A3 L.length k3)] 29)).alloc (.cells #[.int .u64 G, .int .u64 O, .int .u8 pr, .bool gr, (.slice A2 L.length k2)] 29)
  have hB := (hB.alloc hB.size (.cells #[.int .u64 G, .int .u64 O, .int .u8 pr, .bool gr, (.slice A3 L.length k3)] 29)).alloc (by simp; have := hB.size; omega) (.cells #[.int .u64 G, .int .u64 O, .int .u8 pr, .bool gr, (.slice A2 L.length k2)] 29)
  go_wp2_with fail
  refine (same1 _ _ G O pr gr _ _ L _ q1 q2 r3 r2).mono ?_
  rintro e w12 ⟨rfl, n12, rfl⟩
  go_wp2_with fail
  go_ret
  exact ⟨by simp, below_drewN hB n12⟩

end Go.Proofs.Ythmdbkefbbjfmaa
