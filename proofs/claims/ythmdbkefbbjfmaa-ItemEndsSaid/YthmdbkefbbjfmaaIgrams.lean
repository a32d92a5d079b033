/-
  ItemGrams: a datagram is read again; any bytes are one, or aren't; they come back untouched. For every input; no condition.
-/
import Derived.Test.YthmdbkefbbjfmaaIgramlaw
import Derived.Test.YthmdbkefbbjfmaaIopen
namespace Go.Proofs.Ythmdbkefbbjfmaa
open Go.RowKit
set_option linter.unusedVariables false
set_option linter.unusedSimpArgs false


def gramV : Option (Int × Int × Int × Int × List Int) → Int × Int × Int × Int × Bool × Int × List Int
  | none => (0, 0, 0, 0, false, 4, [])
  | some (al, G, O, pr, r) => (al, G, O, pr, true, 0, r)

theorem rdgram_all (V : Value) (l : List Int) (al G O pr : Int) (gr : Bool) (er : Int) (r : List Int) (w : World) (hr : Rd w .u8 V l) (hk : BytesOk l) (hl : l.length ≤ 1000000) (hg : gramV (gramS l) = (al, G, O, pr, gr, er, r)) :
    Calls Try.prog 21 #[V] w fun e w' => ∃ V', e = .returned (.tuple #[.int .u64 al, .agg #[.int .u64 G, .int .u64 O, .int .u8 pr, .bool gr, V'], .int .i64 er]) ∧ Rd w' .u8 V' r ∧ Below w.heap.size w w' := by
  rcases hs : gramS l with _ | ⟨al', G', O', pr', r'⟩
  · rw [hs] at hg
    simp only [gramV, Prod.mk.injEq] at hg
    obtain ⟨rfl, rfl, rfl, rfl, rfl, rfl, rfl⟩ := hg
    exact (rdgram_no V l w hr hk hl (by exact hs)).mono fun e w' ⟨he, hB⟩ => ⟨_, he, Rd.nil _ _, hB⟩
  · rw [hs] at hg
    simp only [gramV, Prod.mk.injEq] at hg
    obtain ⟨rfl, rfl, rfl, rfl, rfl, rfl, rfl⟩ := hg
    exact rdgram_yes V l _ _ _ _ _ w hr hk hl hs

theorem rrdgram_all (V : Value) (l : List Int) (al G O pr : Int) (gr : Bool) (er : Int) (r : List Int) (w : World) (hr : Rd w .u8 V l) (hk : BytesOk l) (hl : l.length ≤ 1000000) (hg : gramV (gramS l) = (al, G, O, pr, gr, er, r)) :
    Calls Try.prog 22 #[V] w fun e w' => ∃ V', e = .returned (.tuple #[.int .u64 al, .agg #[.int .u64 G, .int .u64 O, .int .u8 pr, .bool gr, V'], .int .i64 er]) ∧ Rd w' .u8 V' r ∧ Below w.heap.size w w' := by
  rcases hs : gramS l with _ | ⟨al', G', O', pr', r'⟩
  · rw [hs] at hg
    simp only [gramV, Prod.mk.injEq] at hg
    obtain ⟨rfl, rfl, rfl, rfl, rfl, rfl, rfl⟩ := hg
    exact (rrdgram_no V l w hr hk hl (by rw [← gram_same]; exact hs)).mono fun e w' ⟨he, hB⟩ => ⟨_, he, Rd.nil _ _, hB⟩
  · rw [hs] at hg
    simp only [gramV, Prod.mk.injEq] at hg
    obtain ⟨rfl, rfl, rfl, rfl, rfl, rfl, rfl⟩ := hg
    rw [gram_same] at hs
    obtain ⟨h1, h2⟩ := rgram_some hs
    exact rrdgram_yes V l _ _ _ _ _ w hr hk hl h1 h2

theorem gramR_zero {al G O pr : Int} {gr : Bool} {l b : List Int} (h : gramR al G O pr gr l = (b, 0)) : fitB [1, al, G, O] = true ∧ gr = true ∧ l.length ≤ 2048 ∧ b = joinN [1, al, G, O] ++ [pr] ++ l := by
  unfold gramR at h
  by_cases h1 : 2048 < l.length
  · rw [if_pos h1] at h; simp at h
  · rw [if_neg h1] at h
    by_cases h2 : fitB [1, al, G, O] = true ∧ gr = true
    · rw [if_pos h2] at h
      simp only [Prod.mk.injEq, and_true] at h
      exact ⟨h2.1, h2.2, by omega, h.symm⟩
    · rw [if_neg h2] at h; simp at h

theorem own_cap {w : World} {base : Nat} {e : TypeId} {size g n cap : Nat} {xs : List Value} (h : w.ownsRow base e size (.slice (some ⟨g, 0, none⟩) n cap) n xs) : n ≤ cap ∧ cap ≤ 9223372036854775807 := by
  rcases h.2 with ⟨h, _⟩ | ⟨g', c', cur, h, _, _, h1, h2, _⟩
  · cases h
  · simp only [Value.slice.injEq] at h
    obtain ⟨_, _, rfl⟩ := h
    exact ⟨h1, by unfold maxLen at h2; omega⟩

set_option maxHeartbeats 4000000 in
set_option maxRecDepth 100000 in
theorem grams_walk (al G O pr : Int) (gr : Bool) (V P : Value) (l lp : List Int) (w : World) (hv : Rd w .u8 V l) (hvk : BytesOk l) (hp : Rd w .u8 P lp) (hpk : BytesOk lp) (hal : 0 ≤ al ∧ al ≤ 18446744073709551615) (hob : ObOk G O pr) :
    Calls Try.prog 4 #[.int .u64 al, .agg #[.int .u64 G, .int .u64 O, .int .u8 pr, .bool gr, V], P] w fun e w' => e = .returned (.bool true) ∧ Below w.heap.size w w' := by
  obtain ⟨i0, hi0, hz0, hz1, hz2⟩ := info_parts infoB
  obtain ⟨Ad, cd, rfl⟩ := hv.form
  obtain ⟨Ap, cp, rfl⟩ := hp.form
  have hO := Blk.new w 29 #[.int .u64 G, .int .u64 O, .int .u8 pr, .bool gr, (.slice Ad l.length cd)]
  have hB := (Below.refl w.heap.size w).alloc (Nat.le_refl _) (.cells #[.int .u64 G, .int .u64 O, .int .u8 pr, .bool gr, (.slice Ad l.length cd)] 29)
  have HV := Lib.hid hv
  have HP := Lib.hid hp
  clear hv hp
  go_enter Try.func4, Try.ntmps4
  go_wp2_with fail
  refine (awake_any _).mono ?_
  rintro e w1 ⟨rfl, hb⟩
  have hO := hO.same hb
  have hB := hB.trans (hb.mono hB.size)
  have hs1 := hb.size
  simp only [World.size_alloc] at hs1
  clear hb
  have o0 := show World.cell? _ ⟨w.heap.size, 0, none⟩ = some (.int .u64 G) from hO.cell 0
  have o1 := show World.cell? _ ⟨w.heap.size, 1, none⟩ = some (.int .u64 O) from hO.cell 1
  have o2 := show World.cell? _ ⟨w.heap.size, 2, none⟩ = some (.int .u8 pr) from hO.cell 2
  have o3 := show World.cell? _ ⟨w.heap.size, 3, none⟩ = some (.bool gr) from hO.cell 3
  have o4 := show World.cell? _ ⟨w.heap.size, 4, none⟩ = some (.slice Ad l.length cd) from hO.cell 4
  go_wp2_with fail
  refine (few_any G O pr gr _ l _ (HV.out.below hB)).mono ?_
  rintro e w2 ⟨V2, rfl, ho, hb⟩
  have hO := hO.same hb
  have hs2 := hb.size
  have hB := hB.trans (hb.mono hB.size)
  clear hb o0 o1 o2 o3 o4
  obtain ⟨A2, k2, rfl⟩ := (rd_of_own (k := .u8) ho).form
  obtain ⟨L, hL⟩ : ∃ L, L = l.take 2100 := ⟨_, rfl⟩
  rw [← hL] at ho ⊢
  have hLl : L.length ≤ 2100 := by rw [hL]; simp; omega
  have hLk : BytesOk L := by rw [hL]; exact hvk.take _
  clear hL hvk
  go_wp2_with fail
  refine (show Calls Try.prog 19 #[_, .int .i64 300] _ _ from cut_any (.slice Ap lp.length cp) lp 300 _ (HP.out.below hB) (by omega)).mono ?_
  rintro e w3 ⟨P3, rfl, hq, hb⟩
  have hO := hO.same hb
  have ho := own_same ho hb
  have hs3 := hb.size
  have hB := hB.trans (hb.mono hB.size)
  clear hb
  obtain ⟨A3, k3, rfl⟩ := (rd_of_own (k := .u8) hq).form
  obtain ⟨Q, hQ⟩ : ∃ Q, Q = lp.take 300 := ⟨_, rfl⟩
  rw [← hQ] at hq ⊢
  have hQl : Q.length ≤ 300 := by rw [hQ]; simp; omega
  have hQk : BytesOk Q := by rw [hQ]; exact hpk.take _
  clear hQ hpk
  have hfar : (Value.slice A2 L.length k2).ownBlock ≠ some (w.heap.size) := fun he => by have := (ho.lt _ he).1; omega
  have hfar3 : (Value.slice A3 Q.length k3).ownBlock ≠ some (w.heap.size) := fun he => by have := (hq.lt _ he).1; omega
  have o0 := show World.cell? _ ⟨w.heap.size, 0, none⟩ = some (.int .u64 G) from hO.cell 0
  have o1 := show World.cell? _ ⟨w.heap.size, 1, none⟩ = some (.int .u64 O) from hO.cell 1
  have o2 := show World.cell? _ ⟨w.heap.size, 2, none⟩ = some (.int .u8 pr) from hO.cell 2
  have o3 := show World.cell? _ ⟨w.heap.size, 3, none⟩ = some (.bool gr) from hO.cell 3
  have o4 := show World.cell? _ ⟨w.heap.size, 4, none⟩ = some (.slice Ad l.length cd) from hO.cell 4
  have f0 := hO.frozen 0
  have f1 := hO.frozen 1
  have f2 := hO.frozen 2
  have f3 := hO.frozen 3
  have f4 := hO.frozen 4
  go_upto_region 4 with (fail)
  refine wp_world (fun wz => Blk wz w.heap.size 29 #[.int .u64 G, .int .u64 O, .int .u8 pr, .bool gr, (.slice A2 L.length k2)] ∧ Rd wz .u8 (.slice A2 L.length k2) L ∧ Rd wz .u8 (.slice A3 Q.length k3) Q ∧ Below w.heap.size w wz) ⟨((((hO.set_ 0 _).set_ 1 _).set_ 2 _).set_ 3 _).set_ 4 _, rd_of_own (own_far (own_far (own_far (own_far (own_far ho hfar _) hfar _) hfar _) hfar _) hfar _), rd_of_own (own_far (own_far (own_far (own_far (own_far hq hfar3 _) hfar3 _) hfar3 _) hfar3 _) hfar3 _), ((((hB.setCell (Nat.le_refl _) _).setCell (Nat.le_refl _) _).setCell (Nat.le_refl _) _).setCell (Nat.le_refl _) _).setCell (Nat.le_refl _) _⟩ ?_
  clear o0 o1 o2 o3 o4 f0 f1 f2 f3 f4 hO ho hq hB hfar hfar3 hs2 hs3
  rintro w4 ⟨hO, r2, r3, hB⟩
  go_wp2_with fail
  refine (copy_any _ Q _ r3 (by omega)).mono ?_
  rintro e w5 ⟨v5, rfl, ho5, hb⟩
  have hwall := hb.alloc hb.size (.cells #[.int .u8 165] 5)
  go_wp2_with (at_builtin; refine wpList_append_lies _ rfl _ _ 27 rfl w4.heap.size 5 i0 _ 1 1 Try.underlying27 hi0 hz0 hz1 hz2 rfl (by decide) v5 Q.length (Q.map (Value.int .u8)) rfl (ho5.alloc _) ⟨w5.heap.size, 0, none⟩ 1 1 [.int .u8 165] rfl rfl (World.news_of_block (cs := #[.int .u8 165]) (t := 5) (fr := (0, 0)) (heap_alloc_new w5 _)) (by simp [Value.oneCell']) (by decide) (by unfold maxLen; omega) (by omega) (by simp; have := hb.size; omega) (w5.heap.size + 1) (by simp) ?_; intro g cq w6 ho6 hgrow hat hlt; have hcq := own_cap ho6; have z1 : (Q.length : Int) ≤ (cq : Int) := (by omega); have z2 : ((Q.length : Int) + 1) ≤ (cq : Int) := (by omega); have z3 : (Q.length : Int) < (Q.length : Int) + 1 := (by omega))
  have hb46 := hwall.grown hgrow (by simp; have := hb.size; omega) (fun b hb => (ho5.lt b hb).1)
  have hO := hO.same hb46
  have r2 := r2.below hb46
  have r3 := r3.below hb46
  have hB := hB.trans (hb46.mono hB.size)
  have rq0 : Rd w6 .u8 (.slice (some ⟨g, 0, none⟩) (Q.length + 1) cq) (Q ++ [165]) := rd_of_own (k := .u8) (by rw [List.map_append]; exact ho6)
  have rq : Rd w6 .u8 (.slice (some ⟨g, 0, none⟩) Q.length cq) Q := by have h := rq0.pre (m := Q.length) (by simp); rwa [List.take_left' rfl] at h
  clear rq0 hb46 hwall hgrow ho5 hat hlt hb hcq
  obtain ⟨xa, xG, xO, xp, xg, xe, xr, hx⟩ : ∃ xa xG xO xp xg xe xr, gramV (gramS Q) = (xa, xG, xO, xp, xg, xe, xr) := ⟨_, _, _, _, _, _, _, rfl⟩
  have HX := Lib.hid hx
  clear hx
  refine (rdgram_all _ Q xa xG xO xp xg xe xr _ rq hQk (by omega) HX.out).mono ?_
  rintro e w7 ⟨V7, rfl, r7, hb⟩
  have r2 := r2.below hb
  have r3 := r3.below hb
  have rq := rq.below hb
  have hO := hO.same hb
  have ho6 := own_same ho6 hb
  have hB := hB.trans (hb.mono hB.size)
  have hb_ := hb
  clear hb
  obtain ⟨A7, k7, rfl⟩ := r7.form
  have hM := Blk.new w7 29 #[.int .u64 xG, .int .u64 xO, .int .u8 xp, .bool xg, (.slice A7 xr.length k7)]
  have r2 := r2.alloc (.cells #[.int .u64 xG, .int .u64 xO, .int .u8 xp, .bool xg, (.slice A7 xr.length k7)] 29)
  have r3 := r3.alloc (.cells #[.int .u64 xG, .int .u64 xO, .int .u8 xp, .bool xg, (.slice A7 xr.length k7)] 29)
  have rq := rq.alloc (.cells #[.int .u64 xG, .int .u64 xO, .int .u8 xp, .bool xg, (.slice A7 xr.length k7)] 29)
  have hO := hO.alloc (.cells #[.int .u64 xG, .int .u64 xO, .int .u8 xp, .bool xg, (.slice A7 xr.length k7)] 29)
  have ho6 := ho6.alloc (.cells #[.int .u64 xG, .int .u64 xO, .int .u8 xp, .bool xg, (.slice A7 xr.length k7)] 29)
  have r7 := r7.alloc (.cells #[.int .u64 xG, .int .u64 xO, .int .u8 xp, .bool xg, (.slice A7 xr.length k7)] 29)
  have hB := hB.alloc hB.size (.cells #[.int .u64 xG, .int .u64 xO, .int .u8 xp, .bool xg, (.slice A7 xr.length k7)] 29)
  go_wp2_with fail
  refine (rrdgram_all _ Q xa xG xO xp xg xe xr _ r3 hQk (by omega) HX.out).mono ?_
  rintro e w8 ⟨V8, rfl, r8, hb⟩
  have r2 := r2.below hb
  have r3 := r3.below hb
  have rq := rq.below hb
  have r7 := r7.below hb
  have hO := hO.same hb
  have ho6 := own_same ho6 hb
  have hB := hB.trans (hb.mono hB.size)
  have hb_ := hb
  clear hb
  have hM := hM.same hb_
  clear hb_
  obtain ⟨A8, k8, rfl⟩ := r8.form
  have hN := Blk.new w8 29 #[.int .u64 xG, .int .u64 xO, .int .u8 xp, .bool xg, (.slice A8 xr.length k8)]
  have r2 := r2.alloc (.cells #[.int .u64 xG, .int .u64 xO, .int .u8 xp, .bool xg, (.slice A8 xr.length k8)] 29)
  have r3 := r3.alloc (.cells #[.int .u64 xG, .int .u64 xO, .int .u8 xp, .bool xg, (.slice A8 xr.length k8)] 29)
  have rq := rq.alloc (.cells #[.int .u64 xG, .int .u64 xO, .int .u8 xp, .bool xg, (.slice A8 xr.length k8)] 29)
  have hO := hO.alloc (.cells #[.int .u64 xG, .int .u64 xO, .int .u8 xp, .bool xg, (.slice A8 xr.length k8)] 29)
  have ho6 := ho6.alloc (.cells #[.int .u64 xG, .int .u64 xO, .int .u8 xp, .bool xg, (.slice A8 xr.length k8)] 29)
  have r7 := r7.alloc (.cells #[.int .u64 xG, .int .u64 xO, .int .u8 xp, .bool xg, (.slice A8 xr.length k8)] 29)
  have r8 := r8.alloc (.cells #[.int .u64 xG, .int .u64 xO, .int .u8 xp, .bool xg, (.slice A8 xr.length k8)] 29)
  have hM := hM.alloc (.cells #[.int .u64 xG, .int .u64 xO, .int .u8 xp, .bool xg, (.slice A8 xr.length k8)] 29)
  have hB := hB.alloc hB.size (.cells #[.int .u64 xG, .int .u64 xO, .int .u8 xp, .bool xg, (.slice A8 xr.length k8)] 29)
  have m0 := show World.cell? _ ⟨w7.heap.size, 0, none⟩ = some (.int .u64 xG) from hM.cell 0
  have m1 := show World.cell? _ ⟨w7.heap.size, 1, none⟩ = some (.int .u64 xO) from hM.cell 1
  have m2 := show World.cell? _ ⟨w7.heap.size, 2, none⟩ = some (.int .u8 xp) from hM.cell 2
  have m3 := show World.cell? _ ⟨w7.heap.size, 3, none⟩ = some (.bool xg) from hM.cell 3
  have m4 := show World.cell? _ ⟨w7.heap.size, 4, none⟩ = some (.slice A7 xr.length k7) from hM.cell 4
  have hNb := hN.alloc (.cells #[.int .u64 xG, .int .u64 xO, .int .u8 xp, .bool xg, (.slice A7 xr.length k7)] 29)
  have n0 := show World.cell? _ ⟨w8.heap.size, 0, none⟩ = some (.int .u64 xG) from hNb.cell 0
  have n1 := show World.cell? _ ⟨w8.heap.size, 1, none⟩ = some (.int .u64 xO) from hNb.cell 1
  have n2 := show World.cell? _ ⟨w8.heap.size, 2, none⟩ = some (.int .u8 xp) from hNb.cell 2
  have n3 := show World.cell? _ ⟨w8.heap.size, 3, none⟩ = some (.bool xg) from hNb.cell 3
  have n4 := show World.cell? _ ⟨w8.heap.size, 4, none⟩ = some (.slice A8 xr.length k8) from hNb.cell 4
  have hS1 := (Blk.new (w8.alloc (.cells #[.int .u64 xG, .int .u64 xO, .int .u8 xp, .bool xg, (.slice A8 xr.length k8)] 29)) 29 #[.int .u64 xG, .int .u64 xO, .int .u8 xp, .bool xg, (.slice A7 xr.length k7)]).alloc (.cells #[.int .u64 xG, .int .u64 xO, .int .u8 xp, .bool xg, (.slice A8 xr.length k8)] 29)
  have hS2 := Blk.new ((w8.alloc (.cells #[.int .u64 xG, .int .u64 xO, .int .u8 xp, .bool xg, (.slice A8 xr.length k8)] 29)).alloc (.cells #[.int .u64 xG, .int .u64 xO, .int .u8 xp, .bool xg, (.slice A7 xr.length k7)] 29)) 29 #[.int .u64 xG, .int .u64 xO, .int .u8 xp, .bool xg, (.slice A8 xr.length k8)]
  simp only [World.size_alloc] at hS1 hS2
  have r2 := (r2.alloc (.cells #[.int .u64 xG, .int .u64 xO, .int .u8 xp, .bool xg, (.slice A7 xr.length k7)] 29)).alloc (.cells #[.int .u64 xG, .int .u64 xO, .int .u8 xp, .bool xg, (.slice A8 xr.length k8)] 29)
  have r3 := (r3.alloc (.cells #[.int .u64 xG, .int .u64 xO, .int .u8 xp, .bool xg, (.slice A7 xr.length k7)] 29)).alloc (.cells #[.int .u64 xG, .int .u64 xO, .int .u8 xp, .bool xg, (.slice A8 xr.length k8)] 29)
  have rq := (rq.alloc (.cells #[.int .u64 xG, .int .u64 xO, .int .u8 xp, .bool xg, (.slice A7 xr.length k7)] 29)).alloc (.cells #[.int .u64 xG, .int .u64 xO, .int .u8 xp, .bool xg, (.slice A8 xr.length k8)] 29)
  have r7 := (r7.alloc (.cells #[.int .u64 xG, .int .u64 xO, .int .u8 xp, .bool xg, (.slice A7 xr.length k7)] 29)).alloc (.cells #[.int .u64 xG, .int .u64 xO, .int .u8 xp, .bool xg, (.slice A8 xr.length k8)] 29)
  have r8 := (r8.alloc (.cells #[.int .u64 xG, .int .u64 xO, .int .u8 xp, .bool xg, (.slice A7 xr.length k7)] 29)).alloc (.cells #[.int .u64 xG, .int .u64 xO, .int .u8 xp, .bool xg, (.slice A8 xr.length k8)] 29)
  have hO := (hO.alloc (.cells #[.int .u64 xG, .int .u64 xO, .int .u8 xp, .bool xg, (.slice A7 xr.length k7)] 29)).alloc (.cells #[.int .u64 xG, .int .u64 xO, .int .u8 xp, .bool xg, (.slice A8 xr.length k8)] 29)
  have ho6 := (ho6.alloc (.cells #[.int .u64 xG, .int .u64 xO, .int .u8 xp, .bool xg, (.slice A7 xr.length k7)] 29)).alloc (.cells #[.int .u64 xG, .int .u64 xO, .int .u8 xp, .bool xg, (.slice A8 xr.length k8)] 29)
  have hB := (hB.alloc hB.size (.cells #[.int .u64 xG, .int .u64 xO, .int .u8 xp, .bool xg, (.slice A7 xr.length k7)] 29)).alloc (by simp; have := hB.size; simp at this; omega) (.cells #[.int .u64 xG, .int .u64 xO, .int .u8 xp, .bool xg, (.slice A8 xr.length k8)] 29)
  go_wp2_with fail
  refine (same1 _ _ xG xO xp xg _ _ xr _ hS1 hS2 r7 r8).mono ?_
  rintro e w9 ⟨rfl, n9, rfl⟩
  have c165 := ho6.cellAt Q.length (by omega)
  rw [List.getElem?_append_right (by simp)] at c165
  simp only [List.length_map, Nat.sub_self, List.getElem?_cons_zero] at c165
  have hBx := below_drewN hB n9
  go_wp2_with fail
  refine (same_yes _ _ Q _ (by exact rq) (by exact r3)).mono ?_
  rintro e w10 ⟨rfl, rfl⟩
  have hW : ∃ W : World, W = (((w8.alloc (.cells #[.int .u64 xG, .int .u64 xO, .int .u8 xp, .bool xg, (.slice A8 xr.length k8)] 29)).alloc (.cells #[.int .u64 xG, .int .u64 xO, .int .u8 xp, .bool xg, (.slice A7 xr.length k7)] 29)).alloc (.cells #[.int .u64 xG, .int .u64 xO, .int .u8 xp, .bool xg, (.slice A8 xr.length k8)] 29)).drewN n9 := ⟨_, rfl⟩
  clear hM hN hNb hS1 hS2 r7 r8 m0 m1 m2 m3 m4 n0 n1 n2 n3 n4 hB ho6 r3 rq
  obtain ⟨W, hW⟩ := hW
  have hOW : Blk W w.heap.size 29 #[.int .u64 G, .int .u64 O, .int .u8 pr, .bool gr, (.slice A2 L.length k2)] := by rw [hW]; exact hO
  have r2W : Rd W .u8 (.slice A2 L.length k2) L := by rw [hW]; exact r2
  have hBW : Below w.heap.size w W := by rw [hW]; exact hBx
  have c165 : W.cell? ⟨g, Q.length, none⟩ = some (.int .u8 165) := by rw [hW]; exact c165
  rw [← hW]
  clear hW hBx
  have o0 := show World.cell? _ ⟨w.heap.size, 0, none⟩ = some (.int .u64 G) from hOW.cell 0
  have o1 := show World.cell? _ ⟨w.heap.size, 1, none⟩ = some (.int .u64 O) from hOW.cell 1
  have o2 := show World.cell? _ ⟨w.heap.size, 2, none⟩ = some (.int .u8 pr) from hOW.cell 2
  have o3 := show World.cell? _ ⟨w.heap.size, 3, none⟩ = some (.bool gr) from hOW.cell 3
  have o4 := show World.cell? _ ⟨w.heap.size, 4, none⟩ = some (.slice A2 L.length k2) from hOW.cell 4
  obtain ⟨Rb, Re, hRR⟩ : ∃ Rb Re, gramR al G O pr gr L = (Rb, Re) := ⟨_, _, rfl⟩
  by_cases hre : Re = 0
  · subst hre
    obtain ⟨f1, rfl, f3, f4⟩ := gramR_zero hRR
    have hO := hOW
    have r2 := r2W
    have hB := hBW
    clear hOW r2W hBW
    have hx2 : gramV (gramS Rb) = (al, G, O, pr, true, 0, L) := by rw [f4, gram_same, gram_back al G O pr L f1 hal.1 hob.g.1 hob.o.1 f3]; rfl
    have hbk : BytesOk Rb := by
      rw [f4]
      refine ((joinN_ok _ (fitB_yes f1) (by have h1 := hob.g; have h2 := hob.o; intro x hx; simp at hx; omega)).append (fun x hx => ?_)).append hLk
      simp at hx; subst hx; exact hob.p
    have hbl : Rb.length ≤ 1000000 := by have := joinN_len [1, al, G, O] (fitB_yes f1); rw [f4]; simp at this ⊢; omega
    have HX2 := Lib.hid hx2
    have HRR := Lib.hid hRR
    clear hx2 hRR f1 f3 f4
    go_wp2_with fail
    refine (gram al G O pr true _ L _ _ r2 (by omega) hal hob HRR.out).mono ?_
    rintro e w11 ⟨v11, rfl, ho, hb⟩
    have r11 := rd_of_own (k := .u8) (l := Rb) ho
    obtain ⟨A11, k11, rfl⟩ := r11.form
    have hO := hO.same hb
    have r2 := r2.below hb
    have hB := hB.trans (hb.mono hB.size)
    clear ho hb o0 o1 o2 o3 o4 c165
    go_wp2_with fail
    refine (rdgram_all _ Rb al G O pr true 0 L _ r11 hbk hbl HX2.out).mono ?_
    rintro e w12 ⟨V12, rfl, r12, hb⟩
    have hO := hO.same hb
    have r2 := r2.below hb
    have hB := hB.trans (hb.mono hB.size)
    clear hb r11
    obtain ⟨A12, k12, rfl⟩ := r12.form
    have hM := Blk.new w12 29 #[.int .u64 G, .int .u64 O, .int .u8 pr, .bool true, (.slice A12 L.length k12)]
    have r2 := r2.alloc (.cells #[.int .u64 G, .int .u64 O, .int .u8 pr, .bool true, (.slice A12 L.length k12)] 29)
    have r12 := r12.alloc (.cells #[.int .u64 G, .int .u64 O, .int .u8 pr, .bool true, (.slice A12 L.length k12)] 29)
    have hO := hO.alloc (.cells #[.int .u64 G, .int .u64 O, .int .u8 pr, .bool true, (.slice A12 L.length k12)] 29)
    have hB := hB.alloc hB.size (.cells #[.int .u64 G, .int .u64 O, .int .u8 pr, .bool true, (.slice A12 L.length k12)] 29)
    have m0 := show World.cell? _ ⟨w12.heap.size, 0, none⟩ = some (.int .u64 G) from hM.cell 0
    have m1 := show World.cell? _ ⟨w12.heap.size, 1, none⟩ = some (.int .u64 O) from hM.cell 1
    have m2 := show World.cell? _ ⟨w12.heap.size, 2, none⟩ = some (.int .u8 pr) from hM.cell 2
    have m3 := show World.cell? _ ⟨w12.heap.size, 3, none⟩ = some (.bool true) from hM.cell 3
    have m4 := show World.cell? _ ⟨w12.heap.size, 4, none⟩ = some (.slice A12 L.length k12) from hM.cell 4
    have hOb := hO.alloc (.cells #[.int .u64 G, .int .u64 O, .int .u8 pr, .bool true, (.slice A12 L.length k12)] 29)
    have o0 := show World.cell? _ ⟨w.heap.size, 0, none⟩ = some (.int .u64 G) from hOb.cell 0
    have o1 := show World.cell? _ ⟨w.heap.size, 1, none⟩ = some (.int .u64 O) from hOb.cell 1
    have o2 := show World.cell? _ ⟨w.heap.size, 2, none⟩ = some (.int .u8 pr) from hOb.cell 2
    have o3 := show World.cell? _ ⟨w.heap.size, 3, none⟩ = some (.bool true) from hOb.cell 3
    have o4 := show World.cell? _ ⟨w.heap.size, 4, none⟩ = some (.slice A2 L.length k2) from hOb.cell 4
    have hS1 := (Blk.new (w12.alloc (.cells #[.int .u64 G, .int .u64 O, .int .u8 pr, .bool true, (.slice A12 L.length k12)] 29)) 29 #[.int .u64 G, .int .u64 O, .int .u8 pr, .bool true, (.slice A12 L.length k12)]).alloc (.cells #[.int .u64 G, .int .u64 O, .int .u8 pr, .bool true, (.slice A2 L.length k2)] 29)
    have hS2 := Blk.new ((w12.alloc (.cells #[.int .u64 G, .int .u64 O, .int .u8 pr, .bool true, (.slice A12 L.length k12)] 29)).alloc (.cells #[.int .u64 G, .int .u64 O, .int .u8 pr, .bool true, (.slice A12 L.length k12)] 29)) 29 #[.int .u64 G, .int .u64 O, .int .u8 pr, .bool true, (.slice A2 L.length k2)]
    simp only [World.size_alloc] at hS1 hS2
    have r2 := (r2.alloc (.cells #[.int .u64 G, .int .u64 O, .int .u8 pr, .bool true, (.slice A12 L.length k12)] 29)).alloc (.cells #[.int .u64 G, .int .u64 O, .int .u8 pr, .bool true, (.slice A2 L.length k2)] 29)
    have r12 := (r12.alloc (.cells #[.int .u64 G, .int .u64 O, .int .u8 pr, .bool true, (.slice A12 L.length k12)] 29)).alloc (.cells #[.int .u64 G, .int .u64 O, .int .u8 pr, .bool true, (.slice A2 L.length k2)] 29)
    have hB := (hB.alloc hB.size (.cells #[.int .u64 G, .int .u64 O, .int .u8 pr, .bool true, (.slice A12 L.length k12)] 29)).alloc (by simp; have := hB.size; simp at this; omega) (.cells #[.int .u64 G, .int .u64 O, .int .u8 pr, .bool true, (.slice A2 L.length k2)] 29)
    go_wp2_with fail
    refine (same1 _ _ G O pr true _ _ L _ hS1 hS2 r12 r2).mono ?_
    rintro e w13 ⟨rfl, n13, rfl⟩
    go_wp2_with fail
    go_ret
    exact ⟨by simp, below_drewN hB n13⟩
  · have hre' : (Re != 0) = true := by simpa using hre
    have HRR := Lib.hid hRR
    clear hRR hre
    have hO := hOW
    have r2 := r2W
    have hB := hBW
    clear hOW r2W hBW
    go_wp2_with fail
    refine (gram al G O pr gr _ L _ _ r2 (by omega) hal hob HRR.out).mono ?_
    rintro e w11 ⟨v11, rfl, ho, hb⟩
    obtain ⟨A11, k11, rfl⟩ := (rd_of_own (k := .u8) (l := Rb) ho).form
    go_wp2_with fail
    go_ret
    exact ⟨by simp, hB.trans (hb.mono hB.size)⟩

open Go.ChangeShapes Go.WideShapes Go.ChangeAt
set_option maxRecDepth 100000 in
theorem grams_lifted (os : Os) (started : os.Started) (H : Type) (enc : TypeId × Value → H) :
    ReturnsInHanded {} Try.checked os 4 .any (Rows.itemGramsSpec.pre6 enc Try.prog Try.f4 Rows.itemGramsRow.domain false) (Rows.itemGramsSpec.post enc Try.prog Try.f4 false true false false) := by
  refine returnsInHanded_of_change (C := Try.checked) own started (by kernel_rfl) Try.func4
    (ChangeSpec.witness6 (enc := enc) (C := Try.checked) false ⟨#[], #[.int .u64 0, .agg #[.int .u64 0, .int .u64 0, .int .u8 0, .bool false, .slice none 0 0], .slice none 0 0], []⟩ 8 (by kernel_rfl) (by kernel_rfl) (by kernel_rfl) (by kernel_rfl)) ?_
  intro W base args ds gs before hval0 hW hcnd _
  have hval : ∀ (j : Nat) t v, Try.f4.params[j]? = some t → args[j]? = some v → Value.okWide Try.prog W .any base t v := hval0
  have hW' := hW
  obtain ⟨p, q, hA0, hV, rfl, hfz, hnd⟩ := hW
  have hA : DataW.TrodAll enc Try.prog W 0 (fun _ => true) true Try.f4.params.toList args.toList ds p := hA0
  rw [Try.params4] at hA hval
  obtain ⟨v0, vs0, d0, ds0, p0, q0, hargs, rfl, rfl, h0, r0⟩ := trodAll_cons hA
  obtain ⟨v1, vs1, d1, ds1, p1, q1, rfl, rfl, rfl, h1, r1⟩ := trodAll_cons r0
  obtain ⟨v2, vs2, d2, ds2, p2, q2, rfl, rfl, rfl, h2, r2⟩ := trodAll_cons r1
  obtain ⟨rfl, rfl, rfl⟩ := trodAll_nil r2
  obtain rfl : args = #[v0, v1, v2] := by cases args; simp_all
  obtain ⟨rfl, rfl⟩ := trodVars_none hV
  obtain ⟨a0, rfl, rfl, rfl, w0⟩ := open_int Try.underlying22 (hval 0 22 v0 rfl rfl) h0
  have k1 := h1
  have lt1 : ∀ x ∈ p1, x.block < W.heap.size := by obtain ⟨m, hm⟩ := k1; exact DataW.trod_lt m _ _ _ hm
  obtain ⟨G1, O1, z1, b1, V1, l1, rfl, ho1, hR1, hK1⟩ := obj_of (hval 1 29 v1 rfl rfl) h1
  obtain ⟨A2, len2, cap2, rfl⟩ := okWide_slice Try.underlying27 (hval 2 27 v2 rfl rfl)
  have k2 := h2
  have lt2 : ∀ x ∈ p2, x.block < W.heap.size := by obtain ⟨m, hm⟩ := k2; exact DataW.trod_lt m _ _ _ hm
  obtain ⟨l2, hR2, hK2⟩ := bytes_of h2
  clear hA0 hval0
  refine (grams_walk a0 G1 O1 z1 b1 V1 _ l1 l2 W hR1 hK1 hR2 hK2 (bounds_u64 w0) ho1).mono fun e W' ⟨he, bel⟩ => ?_
  subst he
  exact ⟨_, rfl, _, _, _, [], _, [], hW', trodAll_mk1 (shut_bool Try.underlying4 _), (trodAll_cons_mk (shut_int Try.underlying22 w0) (trodAll_cons_mk (Below.trod laidOut (by kernel_rfl) (of_decide_eq_true (by kernel_rfl)) k1 bel lt1) (trodAll_cons_mk (Below.trod laidOut (by kernel_rfl) (of_decide_eq_true (by kernel_rfl)) k2 bel lt2) trodAll_mk0))), rfl, bel.frame _, fun h => by cases h⟩

theorem grams_holds : Rows.ItemGramsSaid :=
  OpenClaim.holds_of_wide 4 Try.f4 rfl rfl rfl rfl rfl rfl rfl ⟨rfl, rfl, rfl, rfl, rfl⟩ rfl rfl rfl rfl rfl (by kernel_rfl) Try.func4 (by kernel_rfl)
    (of_decide_eq_true (by kernel_rfl)) (by unfold Func.isWrapper; first | (rw [if_pos (by decide +kernel)]; kernel_rfl) | (rw [if_neg (by decide +kernel)]; exact ⟨rfl, rfl⟩))
    (fun os started H enc _ => grams_lifted os started H enc)
#print axioms grams_holds

end Go.Proofs.Ythmdbkefbbjfmaa
