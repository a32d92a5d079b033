/-
  FrameLoose: numbers of a frame that stand in wider forms than they need are read as the same frame (a ResetStream).
-/
import Derived.Test.YtbigbnfllkacoaaDoorFrd4
import Derived.Test.YtbigbnfllkacoaaDoorFsame
namespace Go.Proofs.YtbigbnfllkacoaaDoor
open Go.RowKit
set_option linter.unusedVariables false
set_option linter.unusedSimpArgs false


/-- How wide the number is written. -/
def kk (n s : Int) : Nat := max (vsz n) (2 ^ (s % 4).toNat)
theorem kk_in (n s : Int) (h : vsz n ≠ 0) : (kk n s = 1 ∨ kk n s = 2 ∨ kk n s = 4 ∨ kk n s = 8) ∧ vsz n ≤ kk n s := by
  have h1 := vsz_in n h
  have h2 : (s % 4).toNat = 0 ∨ (s % 4).toNat = 1 ∨ (s % 4).toNat = 2 ∨ (s % 4).toNat = 3 := by omega
  unfold kk
  rcases h2 with h2 | h2 | h2 | h2 <;> rw [h2] <;> omega
theorem pw_eq (s : Int) : wrap64 (2 ^ (s % 4).toNat) = ((2 ^ (s % 4).toNat : Nat) : Int) := by
  have h2 : (s % 4).toNat = 0 ∨ (s % 4).toNat = 1 ∨ (s % 4).toNat = 2 ∨ (s % 4).toNat = 3 := by omega
  rcases h2 with h2 | h2 | h2 | h2 <;> rw [h2] <;> decide +kernel
theorem kk_hi {n s : Int} (h : (vsz n : Int) < wrap64 (2 ^ (s % 4).toNat)) : ((kk n s : Nat) : Int) = wrap64 (2 ^ (s % 4).toNat) := by
  rw [pw_eq] at h ⊢
  unfold kk
  generalize 2 ^ (s % 4).toNat = p at h ⊢
  omega
theorem kk_lo {n s : Int} (h : wrap64 (2 ^ (s % 4).toNat) ≤ (vsz n : Int)) : ((kk n s : Nat) : Int) = (vsz n : Int) := by
  rw [pw_eq] at h
  unfold kk
  generalize 2 ^ (s % 4).toNat = p at h ⊢
  omega
theorem vsz62 {n : Int} (h : n ≤ 4611686018427387903) : vsz n ≠ 0 := vsz_some h
theorem own_base' {w : World} {base base' : Nat} {e : TypeId} {size n : Nat} {v : Value} {xs : List Value} (h : w.ownsRow base e size v n xs) (hb : base' ≤ base) : w.ownsRow base' e size v n xs := own_base h hb
theorem idx0 (a b c : Int) (W : World) : (Instr.index 43 (.agg #[.int .u64 a, .int .u64 b, .int .u64 c]) (.int .i64 0)).run Tryd.prog W = .ok (.int .u64 a) W := by kernel_rfl
theorem idx1 (a b c : Int) (W : World) : (Instr.index 43 (.agg #[.int .u64 a, .int .u64 b, .int .u64 c]) (.int .i64 1)).run Tryd.prog W = .ok (.int .u64 b) W := by kernel_rfl
theorem idx2 (a b c : Int) (W : World) : (Instr.index 43 (.agg #[.int .u64 a, .int .u64 b, .int .u64 c]) (.int .i64 2)).run Tryd.prog W = .ok (.int .u64 c) W := by kernel_rfl

set_option maxHeartbeats 4000000 in
set_option maxRecDepth 100000 in
theorem loose_walk (x0 x1 x2 s0 s1 s2 : Int) (w : World) (h0 : 0 ≤ x0 ∧ x0 ≤ 18446744073709551615) (h1 : 0 ≤ x1 ∧ x1 ≤ 18446744073709551615) (h2 : 0 ≤ x2 ∧ x2 ≤ 18446744073709551615) (k0 : 0 ≤ s0 ∧ s0 ≤ 255) (k1 : 0 ≤ s1 ∧ s1 ≤ 255) (k2 : 0 ≤ s2 ∧ s2 ≤ 255) :
    Calls Tryd.prog 5 #[.int .u64 x0, .int .u64 x1, .int .u64 x2, .agg #[.int .u8 s0, .int .u8 s1, .int .u8 s2]] w fun e w' => e = .returned (.bool true) ∧ Below w.heap.size w w' := by
  obtain ⟨i0, hi0, hz0, hz1, hz2⟩ := info_parts infoB
  obtain ⟨m0, hm0⟩ : ∃ m, m = x0 % 4611686018427387904 := ⟨_, rfl⟩
  have ht0 : x0.tmod 4611686018427387904 = m0 := by rw [Int.tmod_eq_emod_of_nonneg h0.1, hm0]
  have hb0 : 0 ≤ m0 ∧ m0 ≤ 4611686018427387903 := by omega
  have hv0 := vsz62 hb0.2
  have hg0 := kk_in m0 s0 hv0
  have hu0 : s0.tmod 4 = s0 % 4 := Int.tmod_eq_emod_of_nonneg k0.1
  clear hm0
  obtain ⟨m1, hm1⟩ : ∃ m, m = x1 % 4611686018427387904 := ⟨_, rfl⟩
  have ht1 : x1.tmod 4611686018427387904 = m1 := by rw [Int.tmod_eq_emod_of_nonneg h1.1, hm1]
  have hb1 : 0 ≤ m1 ∧ m1 ≤ 4611686018427387903 := by omega
  have hv1 := vsz62 hb1.2
  have hg1 := kk_in m1 s1 hv1
  have hu1 : s1.tmod 4 = s1 % 4 := Int.tmod_eq_emod_of_nonneg k1.1
  clear hm1
  obtain ⟨m2, hm2⟩ : ∃ m, m = x2 % 4611686018427387904 := ⟨_, rfl⟩
  have ht2 : x2.tmod 4611686018427387904 = m2 := by rw [Int.tmod_eq_emod_of_nonneg h2.1, hm2]
  have hb2 : 0 ≤ m2 ∧ m2 ≤ 4611686018427387903 := by omega
  have hv2 := vsz62 hb2.2
  have hg2 := kk_in m2 s2 hv2
  have hu2 : s2.tmod 4 = s2 % 4 := Int.tmod_eq_emod_of_nonneg k2.1
  clear hm2
  obtain ⟨p0, hq0⟩ : ∃ p : List Int, p = [4] := ⟨_, rfl⟩
  have hl0 : p0.length ≤ 1 := by rw [hq0]; simp
  obtain ⟨p1, hq1⟩ : ∃ p, p = p0 ++ vform m0 (kk m0 s0) := ⟨_, rfl⟩
  have hl1 : p1.length ≤ 9 := by rw [hq1, List.length_append, vform_len _ _ hg0.1]; have := hg0.1; omega
  obtain ⟨p2, hq2⟩ : ∃ p, p = p1 ++ vform m1 (kk m1 s1) := ⟨_, rfl⟩
  have hl2 : p2.length ≤ 17 := by rw [hq2, List.length_append, vform_len _ _ hg1.1]; have := hg1.1; omega
  obtain ⟨p3, hq3⟩ : ∃ p, p = p2 ++ vform m2 (kk m2 s2) := ⟨_, rfl⟩
  have hl3 : p3.length ≤ 25 := by rw [hq3, List.length_append, vform_len _ _ hg2.1]; have := hg2.1; omega
  have HQ0 := Lib.hid hq0
  have HQ1 := Lib.hid hq1
  have HQ2 := Lib.hid hq2
  have HQ3 := Lib.hid hq3
  clear hq0 hq1 hq2 hq3
  have hSB := Blk.new w 42 #[.int .u8 s0, .int .u8 s1, .int .u8 s2]
  have hB := (Below.refl w.heap.size w).alloc (Nat.le_refl _) (.cells #[.int .u8 s0, .int .u8 s1, .int .u8 s2] 42)
  have haw := awake_any (w.alloc (.cells #[.int .u8 s0, .int .u8 s1, .int .u8 s2] 42))
  go_enter Tryd.func5, Tryd.ntmps5
  go_wp2_with fail
  (with_reducible refine haw.mono ?_)
  rintro e w1 ⟨rfl, hb⟩
  have hSB1 := hSB.same hb
  have hB1 := hB.trans (hb.mono hB.size)
  have hs1 := hB1.size
  clear haw hSB hB hb
  have hP0 : ((w1.alloc (.cells #[.int .u8 4] 5)).alloc (.cells #[.int .u64 m0, .int .u64 m1, .int .u64 m2] 43)).ownsRow w.heap.size 5 1 (.slice (some ⟨w1.heap.size, 0, none⟩) 1 1) p0.length (p0.map (Value.int .u8)) := by
    rw [HQ0.out]
    exact own_same (own_base' (World.ownsRow_lit (size := 1) (e := 5) w1 #[.int .u8 4] 1 (Nat.le_refl _) (by decide) rfl) hs1) ((Below.refl _ _).alloc (Nat.le_refl _) _)
  have hLB := Blk.new (w1.alloc (.cells #[.int .u8 4] 5)) 43 #[.int .u64 m0, .int .u64 m1, .int .u64 m2]
  rw [World.size_alloc] at hLB
  have hb2 := ((Below.refl w1.heap.size w1).alloc (Nat.le_refl _) (.cells #[.int .u8 4] 5)).alloc (by simp) (.cells #[.int .u64 m0, .int .u64 m1, .int .u64 m2] 43)
  have hSB2 := hSB1.same hb2
  have hB2 := hB1.trans (hb2.mono hs1)
  have hs2 := hB2.size
  have HG0 := Lib.hid hg0
  have HG1 := Lib.hid hg1
  have HG2 := Lib.hid hg2
  clear hb2 hSB1 hB1 hs1 hg0 hg1 hg2
  go_wp2_with fail
  clear ht0 ht1 ht2
  obtain ⟨lb, hlb⟩ : ∃ lb, lb = w1.heap.size + 1 := ⟨_, rfl⟩
  rw [← hlb] at hLB ⊢
  have HLB := Lib.hid hlb
  clear hlb
  go_loopw [9, 30] (fun s9 s30 wr => ∃ (A : Option Addr) (c : Nat), ((s30 = .int .i64 0 ∧ s9 = .slice A p0.length c ∧ wr.ownsRow w.heap.size 5 1 (.slice A p0.length c) p0.length (p0.map (Value.int .u8))) ∨ (s30 = .int .i64 1 ∧ s9 = .slice A p1.length c ∧ wr.ownsRow w.heap.size 5 1 (.slice A p1.length c) p1.length (p1.map (Value.int .u8))) ∨ (s30 = .int .i64 2 ∧ s9 = .slice A p2.length c ∧ wr.ownsRow w.heap.size 5 1 (.slice A p2.length c) p2.length (p2.map (Value.int .u8))) ∨ (s30 = .int .i64 3 ∧ s9 = .slice A p3.length c ∧ wr.ownsRow w.heap.size 5 1 (.slice A p3.length c) p3.length (p3.map (Value.int .u8)))) ∧ Blk wr w.heap.size 42 #[.int .u8 s0, .int .u8 s1, .int .u8 s2] ∧ Blk wr lb 43 #[.int .u64 m0, .int .u64 m1, .int .u64 m2] ∧ Below w.heap.size w wr ∧ w.heap.size ≤ wr.heap.size) (fun _ s30 _ => 3 - (intOf s30).toNat)
  case atStart => exact ⟨some ⟨w1.heap.size, 0, none⟩, 1, .inl ⟨rfl, by rw [HQ0.out]; rfl, by rw [show (Value.slice (some ⟨w1.heap.size, 0, none⟩) p0.length 1) = .slice (some ⟨w1.heap.size, 0, none⟩) 1 1 by rw [HQ0.out]; rfl]; exact hP0⟩, hSB2, hLB, hB2, hs2⟩
  case round =>
    clear hP0 hSB2 hLB hB2 hs2
    obtain ⟨A, c, ⟨rfl, rfl, hP⟩ | ⟨rfl, rfl, hP⟩ | ⟨rfl, rfl, hP⟩ | ⟨rfl, rfl, hP⟩, hSB, hLB, hB, hs⟩ := hrel
    · have hix := idx0 m0 m1 m2
      have z0 : wr.cell? ⟨w.heap.size, 0, none⟩ = some (.int .u8 s0) := hSB.cell 0
      go_wp2_with fail
      go_region_law (go_simp; go_at_call 16; ((with_reducible refine (rsize_any m0 _ hb0.1 (by omega)).mono ?_); rintro e wD ⟨rfl, rfl⟩))
      all_goals go_wp2_with fail
      all_goals have hw := rwide_any m0 (kk m0 s0) wr.drew hb0.1 HG0.out.1 hv0 HG0.out.2
      all_goals first | rw [kk_hi h] at hw | rw [kk_lo h] at hw
      all_goals clear h
      all_goals (with_reducible refine hw.mono ?_)
      all_goals clear hw
      all_goals rintro e w2 ⟨v2, rfl, ho2, hbw⟩
      all_goals have hP2 := own_same (show wr.drew.ownsRow w.heap.size 5 1 (.slice A p0.length c) p0.length (p0.map (Value.int .u8)) from hP) hbw
      all_goals have hSB2 := hSB.drew.same hbw
      all_goals have hLB2 := hLB.drew.same hbw
      all_goals have hB2 : Below w.heap.size w w2 := hB.trans ((below_drewN (Below.refl _ _) 1).trans (hbw.mono hs))
      all_goals have hs2 := hB2.size
      all_goals have hr2 := rd_of_own (k := .u8) ho2
      all_goals obtain ⟨A2, c2, rfl⟩ := hr2.form
      all_goals obtain ⟨-, hA2, -, -, hrv2⟩ := hr2.rdv
      all_goals have hvl : (vform m0 (kk m0 s0)).length ≤ 8 := (by rw [vform_len _ _ HG0.out.1]; have := HG0.out.1; omega)
      all_goals have HVL := Lib.hid hvl
      all_goals clear ho2 hr2 hP hSB hLB hB hbw z0
      all_goals go_wp2_with (first | (at_builtin; refine wpList_append_any _ rfl _ _ 23 rfl w.heap.size 5 i0 _ 1 1 Tryd.underlying23 hi0 hz0 hz1 hz2 rfl (by decide) (.slice A p0.length c) p0.length (p0.map (Value.int .u8)) rfl hP2 A2 (vform m0 (kk m0 s0)).length c2 _ rfl hrv2 (oneInts _ _) (by unfold maxLen; omega) (by omega) hs2 hA2 ?_; intro v9 w9 hown9 hgrow9 hat9; obtain ⟨A9, c9, e9, _⟩ := sl_of_own hown9; subst e9) | fail)
      all_goals have hown10 : w9.ownsRow w.heap.size 5 1 (.slice A9 p1.length c9) p1.length (p1.map (Value.int .u8)) := (by rw [HQ1.out, List.length_append, List.map_append]; exact hown9)
      all_goals have hSB9 := hSB2.grown hgrow9 (fun e => own_blk_ne hP2 hSB2 (by decide) e.symm)
      all_goals have hLB9 := hLB2.grown hgrow9 (fun e => own_blk_ne hP2 hLB2 (by decide) e.symm)
      all_goals have hB9 := hB2.grown hgrow9 hs2 (fun m hm => (hP2.lt m hm).1)
      all_goals have hpl : p0.length + (vform m0 (kk m0 s0)).length = p1.length := (by rw [HQ1.out, List.length_append])
      all_goals rw [hpl]
      all_goals clear hpl hown9
      all_goals go_roundw
      all_goals first
        | exact ⟨A9, c9, .inr (.inl ⟨rfl, rfl, hown10⟩), hSB9, hLB9, hB9, hB9.size⟩
        | decide
    · have hix := idx1 m0 m1 m2
      have z1 : wr.cell? ⟨w.heap.size, 1, none⟩ = some (.int .u8 s1) := hSB.cell 1
      go_wp2_with fail
      go_region_law (go_simp; go_at_call 16; ((with_reducible refine (rsize_any m1 _ hb1.1 (by omega)).mono ?_); rintro e wD ⟨rfl, rfl⟩))
      all_goals go_wp2_with fail
      all_goals have hw := rwide_any m1 (kk m1 s1) wr.drew hb1.1 HG1.out.1 hv1 HG1.out.2
      all_goals first | rw [kk_hi h] at hw | rw [kk_lo h] at hw
      all_goals clear h
      all_goals (with_reducible refine hw.mono ?_)
      all_goals clear hw
      all_goals rintro e w2 ⟨v2, rfl, ho2, hbw⟩
      all_goals have hP2 := own_same (show wr.drew.ownsRow w.heap.size 5 1 (.slice A p1.length c) p1.length (p1.map (Value.int .u8)) from hP) hbw
      all_goals have hSB2 := hSB.drew.same hbw
      all_goals have hLB2 := hLB.drew.same hbw
      all_goals have hB2 : Below w.heap.size w w2 := hB.trans ((below_drewN (Below.refl _ _) 1).trans (hbw.mono hs))
      all_goals have hs2 := hB2.size
      all_goals have hr2 := rd_of_own (k := .u8) ho2
      all_goals obtain ⟨A2, c2, rfl⟩ := hr2.form
      all_goals obtain ⟨-, hA2, -, -, hrv2⟩ := hr2.rdv
      all_goals have hvl : (vform m1 (kk m1 s1)).length ≤ 8 := (by rw [vform_len _ _ HG1.out.1]; have := HG1.out.1; omega)
      all_goals have HVL := Lib.hid hvl
      all_goals clear ho2 hr2 hP hSB hLB hB hbw z1
      all_goals go_wp2_with (first | (at_builtin; refine wpList_append_any _ rfl _ _ 23 rfl w.heap.size 5 i0 _ 1 1 Tryd.underlying23 hi0 hz0 hz1 hz2 rfl (by decide) (.slice A p1.length c) p1.length (p1.map (Value.int .u8)) rfl hP2 A2 (vform m1 (kk m1 s1)).length c2 _ rfl hrv2 (oneInts _ _) (by unfold maxLen; omega) (by omega) hs2 hA2 ?_; intro v9 w9 hown9 hgrow9 hat9; obtain ⟨A9, c9, e9, _⟩ := sl_of_own hown9; subst e9) | fail)
      all_goals have hown10 : w9.ownsRow w.heap.size 5 1 (.slice A9 p2.length c9) p2.length (p2.map (Value.int .u8)) := (by rw [HQ2.out, List.length_append, List.map_append]; exact hown9)
      all_goals have hSB9 := hSB2.grown hgrow9 (fun e => own_blk_ne hP2 hSB2 (by decide) e.symm)
      all_goals have hLB9 := hLB2.grown hgrow9 (fun e => own_blk_ne hP2 hLB2 (by decide) e.symm)
      all_goals have hB9 := hB2.grown hgrow9 hs2 (fun m hm => (hP2.lt m hm).1)
      all_goals have hpl : p1.length + (vform m1 (kk m1 s1)).length = p2.length := (by rw [HQ2.out, List.length_append])
      all_goals rw [hpl]
      all_goals clear hpl hown9
      all_goals go_roundw
      all_goals first
        | exact ⟨A9, c9, .inr (.inr (.inl ⟨rfl, rfl, hown10⟩)), hSB9, hLB9, hB9, hB9.size⟩
        | decide
    · have hix := idx2 m0 m1 m2
      have z2 : wr.cell? ⟨w.heap.size, 2, none⟩ = some (.int .u8 s2) := hSB.cell 2
      go_wp2_with fail
      go_region_law (go_simp; go_at_call 16; ((with_reducible refine (rsize_any m2 _ hb2.1 (by omega)).mono ?_); rintro e wD ⟨rfl, rfl⟩))
      all_goals go_wp2_with fail
      all_goals have hw := rwide_any m2 (kk m2 s2) wr.drew hb2.1 HG2.out.1 hv2 HG2.out.2
      all_goals first | rw [kk_hi h] at hw | rw [kk_lo h] at hw
      all_goals clear h
      all_goals (with_reducible refine hw.mono ?_)
      all_goals clear hw
      all_goals rintro e w2 ⟨v2, rfl, ho2, hbw⟩
      all_goals have hP2 := own_same (show wr.drew.ownsRow w.heap.size 5 1 (.slice A p2.length c) p2.length (p2.map (Value.int .u8)) from hP) hbw
      all_goals have hSB2 := hSB.drew.same hbw
      all_goals have hLB2 := hLB.drew.same hbw
      all_goals have hB2 : Below w.heap.size w w2 := hB.trans ((below_drewN (Below.refl _ _) 1).trans (hbw.mono hs))
      all_goals have hs2 := hB2.size
      all_goals have hr2 := rd_of_own (k := .u8) ho2
      all_goals obtain ⟨A2, c2, rfl⟩ := hr2.form
      all_goals obtain ⟨-, hA2, -, -, hrv2⟩ := hr2.rdv
      all_goals have hvl : (vform m2 (kk m2 s2)).length ≤ 8 := (by rw [vform_len _ _ HG2.out.1]; have := HG2.out.1; omega)
      all_goals have HVL := Lib.hid hvl
      all_goals clear ho2 hr2 hP hSB hLB hB hbw z2
      all_goals go_wp2_with (first | (at_builtin; refine wpList_append_any _ rfl _ _ 23 rfl w.heap.size 5 i0 _ 1 1 Tryd.underlying23 hi0 hz0 hz1 hz2 rfl (by decide) (.slice A p2.length c) p2.length (p2.map (Value.int .u8)) rfl hP2 A2 (vform m2 (kk m2 s2)).length c2 _ rfl hrv2 (oneInts _ _) (by unfold maxLen; omega) (by omega) hs2 hA2 ?_; intro v9 w9 hown9 hgrow9 hat9; obtain ⟨A9, c9, e9, _⟩ := sl_of_own hown9; subst e9) | fail)
      all_goals have hown10 : w9.ownsRow w.heap.size 5 1 (.slice A9 p3.length c9) p3.length (p3.map (Value.int .u8)) := (by rw [HQ3.out, List.length_append, List.map_append]; exact hown9)
      all_goals have hSB9 := hSB2.grown hgrow9 (fun e => own_blk_ne hP2 hSB2 (by decide) e.symm)
      all_goals have hLB9 := hLB2.grown hgrow9 (fun e => own_blk_ne hP2 hLB2 (by decide) e.symm)
      all_goals have hB9 := hB2.grown hgrow9 hs2 (fun m hm => (hP2.lt m hm).1)
      all_goals have hpl : p2.length + (vform m2 (kk m2 s2)).length = p3.length := (by rw [HQ3.out, List.length_append])
      all_goals rw [hpl]
      all_goals clear hpl hown9
      all_goals go_roundw
      all_goals first
        | exact ⟨A9, c9, .inr (.inr (.inr (⟨rfl, rfl, hown10⟩))), hSB9, hLB9, hB9, hB9.size⟩
        | decide
    · have hRT := rdt_of_own hP
      have hf0 := vform_len m0 (kk m0 s0) HG0.out.1
      have hf1 := vform_len m1 (kk m1 s1) HG1.out.1
      have hf2 := vform_len m2 (kk m2 s2) HG2.out.1
      obtain ⟨f0, hf0e⟩ : ∃ f, f = vform m0 (kk m0 s0) := ⟨_, rfl⟩
      obtain ⟨f1, hf1e⟩ : ∃ f, f = vform m1 (kk m1 s1) := ⟨_, rfl⟩
      obtain ⟨f2, hf2e⟩ : ∃ f, f = vform m2 (kk m2 s2) := ⟨_, rfl⟩
      have hk0' : BytesOk f0 := by rw [hf0e]; exact vform_ok _ _ hb0.1 HG0.out.1 hv0 HG0.out.2
      have hk1' : BytesOk f1 := by rw [hf1e]; exact vform_ok _ _ hb1.1 HG1.out.1 hv1 HG1.out.2
      have hk2' : BytesOk f2 := by rw [hf2e]; exact vform_ok _ _ hb2.1 HG2.out.1 hv2 HG2.out.2
      have ht1 : vtake (f0 ++ (f1 ++ f2)) = some (m0, f1 ++ f2) := by rw [hf0e]; exact vtake_form _ _ _ hb0.1 HG0.out.1 hv0 HG0.out.2
      have ht2 : vtake (f1 ++ f2) = some (m1, f2) := by rw [hf1e]; exact vtake_form _ _ _ hb1.1 HG1.out.1 hv1 HG1.out.2
      have ht3 : vtake f2 = some (m2, []) := by
        have := vtake_form m2 (kk m2 s2) [] hb2.1 HG2.out.1 hv2 HG2.out.2
        rw [List.append_nil, ← hf2e] at this
        exact this
      have hp3 : p3 = 4 :: (f0 ++ (f1 ++ f2)) := by rw [HQ3.out, HQ2.out, HQ1.out, HQ0.out, ← hf0e, ← hf1e, ← hf2e]; simp
      have ht0 : vtake (4 :: (f0 ++ (f1 ++ f2))) = some (4, f0 ++ (f1 ++ f2)) := vtake_form 4 1 _ (by decide) (.inl rfl) (by decide) (by decide)
      have hkk : BytesOk (4 :: (f0 ++ (f1 ++ f2))) := fun x hx => by
        rcases List.mem_cons.1 hx with h | h
        · subst h; decide
        · exact (hk0'.append (hk1'.append hk2')) x h
      have hg0 := HG0.out.1
      have hg1 := HG1.out.1
      have hg2 := HG2.out.1
      rw [← hf0e] at hf0
      rw [← hf1e] at hf1
      rw [← hf2e] at hf2
      have hrd := read4 (.slice A p3.length c) (f0 ++ (f1 ++ f2)) (f1 ++ f2) f2 m0 m1 m2 wr (by rw [← hp3]; exact hRT) hkk (hk0'.append (hk1'.append hk2')) (hk1'.append hk2') hk2' (by rw [List.length_append, List.length_append]; omega) (by rw [List.length_append]; omega) (by omega) ht0 ht1 ht2 ht3 hb0 hb1 hb2
      clear hRT hf0 hf1 hf2 hf0e hf1e hf2e hk0' hk1' hk2' ht0 ht1 ht2 ht3 hp3 hkk hg0 hg1 hg2 hP hSB
      go_wp2_with fail
      (with_reducible refine hrd.mono ?_)
      rintro e w5 ⟨rv, rfl, hrv, hb5⟩
      obtain ⟨Arv, crv, rfl⟩ := hrv.form
      have hba : Below w5.heap.size w5 (w5.alloc (.cells #[.int .u64 4, .int .u64 m0, .int .u64 m2, .int .u64 0, .int .u64 m1, .bool false, .slice none 0 0, .slice none 0 0, .slice none 0 0] 26)) := (Below.refl _ _).alloc (Nat.le_refl _) _
      have hL5 := (hLB.same hb5).same hba
      have z0 := hL5.cell 0
      have z1 := hL5.cell 1
      have z2 := hL5.cell 2
      have hB5 := hB.trans (hb5.mono hs)
      have hB6 := hB5.trans (hba.mono hB5.size)
      have hsm := sameF_yes 4 m0 m2 0 m1 false (.slice none 0 0) (.slice none 0 0) (.slice none 0 0) (.slice none 0 0) (.slice none 0 0) (.slice none 0 0) [] [] [] _ (Rd.nil (w5.alloc (.cells #[.int .u64 4, .int .u64 m0, .int .u64 m2, .int .u64 0, .int .u64 m1, .bool false, .slice none 0 0, .slice none 0 0, .slice none 0 0] 26)) .u8) (Rd.nil _ _) (RdP.nil _) (Rd.nil _ _) (Rd.nil _ _) (RdP.nil _)
      clear hrd hrv hb5 hba hLB hL5 hB hs hB5
      go_wp2_with fail
      (with_reducible refine hsm.mono ?_)
      rintro e w7 ⟨rfl, hb7⟩
      go_wp2_with fail
      go_ret
      exact ⟨rfl, hB6.trans (hb7.mono hB6.size)⟩

end Go.Proofs.YtbigbnfllkacoaaDoor
