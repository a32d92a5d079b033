/-
  PaceMeters: every script of what is sent, acknowledged, lost and gone has the document's answers, and what may be under way; a nil meter's, too. For every input; no condition.
-/
import Derived.Test.YtlnenndlenckjaaPstep
namespace Go.Proofs.Ytlnenndlenckjaa
open Go.RowKit
set_option linter.unusedVariables false
set_option linter.unusedSimpArgs false


set_option maxHeartbeats 4000000 in
set_option maxRecDepth 100000 in
theorem meters_nil (A : Option Addr) (N cap : Nat) (w : World) (hp : Ops w A N) (hnc : N ≤ cap) (hcm : cap ≤ maxLen) :
    Calls Try.prog 6 #[.bool true, .slice A N cap] w fun e w' => e = .returned (.bool true) ∧ Below w.heap.size w w' := by
  have hcm' : cap ≤ 9223372036854775807 := by unfold maxLen at hcm; omega
  clear hcm
  have HP := Lib.hid hp
  clear hp
  go_enter Try.func6, Try.ntmps6
  go_wp2_with fail
  refine (awake_any _).mono ?_
  rintro e w1 ⟨rfl, hB⟩
  go_wp2_with fail
  refine (newMeter_any _).mono ?_
  rintro e w2 ⟨g, rfl, hm, hg, hb⟩
  have hg : w.heap.size ≤ g := Nat.le_trans hB.size hg
  have hB := hB.trans (hb.mono hB.size)
  clear hb
  go_wp2_with fail
  refine (rnew_any _).mono ?_
  rintro e w3 ⟨q, rfl, hx, hq, hb⟩
  have hm : Mtr w3 g mt0 := Blk.same hm hb
  have hq : w.heap.size ≤ q := Nat.le_trans hB.size hq
  have hB := hB.trans (hb.mono hB.size)
  clear hb
  go_wp2_with fail
  go_loopw [20] (fun i wr => ∃ (k : Nat), k ≤ N ∧ i = .int .i64 k ∧ Below w.heap.size w wr) (fun i _ => N - (intOf i).toNat)
  case atStart => exact ⟨0, Nat.zero_le _, rfl, hB⟩
  case round =>
    clear hB hm hx
    obtain ⟨k, hkn, rfl, hB⟩ := hrel
    by_cases hlt : k < N
    · obtain ⟨b, off, o, rfl, hb, ho, c0, c1, c2, c3⟩ := (HP.out.below hB) k hlt
      obtain ⟨d, n, sent, now⟩ := o
      obtain ⟨hd, hn, hs, hw⟩ := ho
      simp only at hd hn hs hw c0 c1 c2 c3
      have hO := Blk.new wr 53 #[.int .u8 d, .int .i64 n, .int .u64 sent, .int .u64 now]
      have hB2 := hB.alloc hB.size (.cells #[.int .u8 d, .int .i64 n, .int .u64 sent, .int .u64 now] 53)
      by_cases h60 : 60 ≤ k
      · have h60' : (60 : Int) ≤ (k : Int) := by omega
        go_wp2_with fail
        go_ret
        exact ⟨rfl, hB2⟩
      · have h60' : (k : Int) < (60 : Int) := by omega
        have hd4 : d % 4 = 0 ∨ d % 4 = 1 ∨ d % 4 = 2 ∨ d % 4 = 3 := by omega
        rcases hd4 with hd4 | hd4 | hd4 | hd4
        · go_wp2_with fail
          refine (send_nil n _).mono ?_
          rintro e w4 ⟨rfl, rfl⟩
          go_wp2_with fail
          refine (rdo_nil 0 n sent now _).mono ?_
          rintro e w5 ⟨rfl, rfl⟩
          go_wp2_with fail
          refine (mtold_nil _).mono ?_
          rintro e w6 ⟨rfl, rfl⟩
          go_wp2_with fail
          refine (room_nil _).mono ?_
          rintro e w7 ⟨rfl, rfl⟩
          go_wp2_with fail
          go_roundw
          case rel => exact ⟨k + 1, by omega, by go_num, hB2⟩
          case measure => simp [intOf]; omega
        · go_wp2_with fail
          refine (acked_nil n sent _).mono ?_
          rintro e w4 ⟨rfl, rfl⟩
          go_wp2_with fail
          refine (rdo_nil 1 n sent now _).mono ?_
          rintro e w5 ⟨rfl, rfl⟩
          go_wp2_with fail
          refine (mtold_nil _).mono ?_
          rintro e w6 ⟨rfl, rfl⟩
          go_wp2_with fail
          refine (room_nil _).mono ?_
          rintro e w7 ⟨rfl, rfl⟩
          go_wp2_with fail
          go_roundw
          case rel => exact ⟨k + 1, by omega, by go_num, hB2⟩
          case measure => simp [intOf]; omega
        · go_wp2_with fail
          refine (mlost_nil n sent now _).mono ?_
          rintro e w4 ⟨rfl, rfl⟩
          go_wp2_with fail
          refine (rdo_nil 2 n sent now _).mono ?_
          rintro e w5 ⟨rfl, rfl⟩
          go_wp2_with fail
          refine (mtold_nil _).mono ?_
          rintro e w6 ⟨rfl, rfl⟩
          go_wp2_with fail
          refine (room_nil _).mono ?_
          rintro e w7 ⟨rfl, rfl⟩
          go_wp2_with fail
          go_roundw
          case rel => exact ⟨k + 1, by omega, by go_num, hB2⟩
          case measure => simp [intOf]; omega
        · go_wp2_with fail
          refine (gone_nil n _).mono ?_
          rintro e w4 ⟨rfl, rfl⟩
          go_wp2_with fail
          refine (rdo_nil 3 n sent now _).mono ?_
          rintro e w5 ⟨rfl, rfl⟩
          go_wp2_with fail
          refine (mtold_nil _).mono ?_
          rintro e w6 ⟨rfl, rfl⟩
          go_wp2_with fail
          refine (room_nil _).mono ?_
          rintro e w7 ⟨rfl, rfl⟩
          go_wp2_with fail
          go_roundw
          case rel => exact ⟨k + 1, by omega, by go_num, hB2⟩
          case measure => simp [intOf]; omega
    · go_wp2_with fail
      go_ret
      exact ⟨rfl, hB⟩

theorem mtr_rmt_ne {w : World} {g k : Nat} {m m' : Mt} (h : Mtr w g m) (h' : RMt w k m') : g ≠ k := Blk.ne_ (t := 64) (t' := 58) h h' (by decide)
theorem room_alt (x y : Int) : (if y < x then x - y else 0) = (if x - y < 0 then 0 else x - y) := by split <;> split <;> omega

set_option maxHeartbeats 4000000 in
set_option maxRecDepth 100000 in
theorem meters_some (A : Option Addr) (N cap : Nat) (w : World) (hp : Ops w A N) (hnc : N ≤ cap) (hcm : cap ≤ maxLen) :
    Calls Try.prog 6 #[.bool false, .slice A N cap] w fun e w' => e = .returned (.bool true) ∧ Below w.heap.size w w' := by
  have hcm' : cap ≤ 9223372036854775807 := by unfold maxLen at hcm; omega
  clear hcm
  have HP := Lib.hid hp
  clear hp
  go_enter Try.func6, Try.ntmps6
  go_wp2_with fail
  refine (awake_any _).mono ?_
  rintro e w1 ⟨rfl, hB⟩
  go_wp2_with fail
  refine (newMeter_any _).mono ?_
  rintro e w2 ⟨g, rfl, hm, hg, hb⟩
  have hg : w.heap.size ≤ g := Nat.le_trans hB.size hg
  have hB := hB.trans (hb.mono hB.size)
  clear hb
  go_wp2_with fail
  refine (rnew_any _).mono ?_
  rintro e w3 ⟨q, rfl, hx, hq, hb⟩
  have hm : Mtr w3 g mt0 := Blk.same hm hb
  have hq : w.heap.size ≤ q := Nat.le_trans hB.size hq
  have hB := hB.trans (hb.mono hB.size)
  clear hb
  go_wp2_with fail
  go_loopw [20] (fun i wr => ∃ (k : Nat) (m : Mt), k ≤ N ∧ i = .int .i64 k ∧ Mtr wr g m ∧ RMt wr q m ∧ MtOk m ∧ Below w.heap.size w wr) (fun i _ => N - (intOf i).toNat)
  case atStart => exact ⟨0, mt0, Nat.zero_le _, rfl, hm, hx, mt0_ok, hB⟩
  case round =>
    clear hB hm hx
    obtain ⟨k, m, hkn, rfl, hm, hx, hmo, hB⟩ := hrel
    by_cases hlt : k < N
    · obtain ⟨b, off, o, rfl, hb, ho, c0, c1, c2, c3⟩ := (HP.out.below hB) k hlt
      obtain ⟨d, n, sent, now⟩ := o
      obtain ⟨hd, hn, hs, hw⟩ := ho
      simp only at hd hn hs hw c0 c1 c2 c3
      have hO := Blk.new wr 53 #[.int .u8 d, .int .i64 n, .int .u64 sent, .int .u64 now]
      have hB2 := hB.alloc hB.size (.cells #[.int .u8 d, .int .i64 n, .int .u64 sent, .int .u64 now] 53)
      have hm2 : Mtr (wr.alloc (.cells #[.int .u8 d, .int .i64 n, .int .u64 sent, .int .u64 now] 53)) g m := Blk.alloc hm _
      have hx2 : RMt (wr.alloc (.cells #[.int .u8 d, .int .i64 n, .int .u64 sent, .int .u64 now] 53)) q m := Blk.alloc hx _
      have hgq := mtr_rmt_ne hm hx
      have hgl := Blk.lt hm
      have hql := Blk.lt hx
      by_cases h60 : 60 ≤ k
      · have h60' : (60 : Int) ≤ (k : Int) := by omega
        go_wp2_with fail
        go_ret
        exact ⟨rfl, hB2⟩
      · have h60' : (k : Int) < (60 : Int) := by omega
        have hd4 : d % 4 = 0 ∨ d % 4 = 1 ∨ d % 4 = 2 ∨ d % 4 = 3 := by omega
        rcases hd4 with hd4 | hd4 | hd4 | hd4
        · go_wp2_with fail
          refine (send_step g m n sent now _ hm2 hmo).mono ?_
          rintro e w4 ⟨rfl, hm4, hg4⟩
          have hx4 := hx2.grown hg4 (by simpa using Ne.symm hgq)
          have hO4 := hO.grown hg4 (by simp; omega)
          have hB4 := hB2.grown hg4 hB2.size (fun b hb => by injection hb with hb; omega)
          have o0 : w4.cell? ⟨wr.heap.size, 0, none⟩ = some (.int .u8 d) := hO4.cell 0
          have o1 : w4.cell? ⟨wr.heap.size, 1, none⟩ = some (.int .i64 n) := hO4.cell 1
          have o2 : w4.cell? ⟨wr.heap.size, 2, none⟩ = some (.int .u64 sent) := hO4.cell 2
          have o3 : w4.cell? ⟨wr.heap.size, 3, none⟩ = some (.int .u64 now) := hO4.cell 3
          clear c0 c1 c2 c3 hm hx hm2 hx2 hO hg4
          obtain ⟨E, hE⟩ : ∃ E, E = errM 0 m n := ⟨_, rfl⟩
          rw [← hE]
          have HE := Lib.hid hE
          clear hE
          go_wp2_with fail
          refine (rdo_any q 0 m n sent now _ hx4 hmo (by omega)).mono ?_
          rintro e w5 ⟨rfl, hx5, hg5⟩
          rw [← HE.out]
          have hm5 := hm4.grown hg5 (by simpa using hgq)
          have hB5 := hB4.grown hg5 hB4.size (fun b hb => by injection hb with hb; omega)
          have hmo5 := stepM_ok 0 m hmo n sent now hw.1
          clear hm4 hx4 hO4 hg5 o0 o1 o2 o3
          obtain ⟨m5, hm5e⟩ : ∃ m5, m5 = stepM 0 m n sent now := ⟨_, rfl⟩
          rw [← hm5e] at hm5 hx5 hmo5
          clear hm5e
          obtain ⟨may, lim, away, since, rc⟩ := m5
          have hmo6 := hmo5
          obtain ⟨k0, k1, k2, k3, k4, k5⟩ := hmo5
          simp only at k0 k1 k2 k3 k4 k5
          go_wp2_with fail
          refine (mtold_any g may lim away since rc _ hm5).mono ?_
          rintro e w6 ⟨rfl, n6, rfl⟩
          have hmr : Mtr (w5.drewN n6) g ⟨may, lim, away, since, rc⟩ := hm5
          have hxr : RMt (w5.drewN n6) q ⟨may, lim, away, since, rc⟩ := hx5
          have hBr := below_drewN hB5 n6
          generalize w5.drewN n6 = w7 at *
          have x0 : w7.cell? ⟨q, 0, none⟩ = some (.int .i64 may) := Blk.cell hxr 0
          have x1 : w7.cell? ⟨q, 1, none⟩ = some (.int .u64 lim) := Blk.cell hxr 1
          have x2 : w7.cell? ⟨q, 2, none⟩ = some (.int .i64 away) := Blk.cell hxr 2
          have hra := room_alt may away
          have hro := fun x : Cls w7.heap.size w7 => room_any g may lim away since rc x.w (Cls.blk hmr (Blk.lt hmr) x) hmo6
          obtain ⟨R, hR⟩ : ∃ R, R = (if may - away < 0 then 0 else may - away) := ⟨_, rfl⟩
          rw [← hR] at hra
          rw [← hR] at hro
          clear hR hm5 hx5 hB5
          go_wp2_with fail
          have Cx0 := Cls.cells x0 (World.block_lt_of_cell? _ _ x0)
          have Cx1 := Cls.cells x1 (World.block_lt_of_cell? _ _ x1)
          have Cx2 := Cls.cells x2 (World.block_lt_of_cell? _ _ x2)
          refine wp_region_cls (by kernel_rfl) (by kernel_rfl) ?_
          repeat (go_big_quiet_step ((first | (go_at_call 25; exact Cls.quietN (hro _)))))
          refine wpQuiet_nil ?_
          intro w8 hb8
          have x0 := keepB_cell x0 w8 hb8
          have x1 := keepB_cell x1 w8 hb8
          have x2 := keepB_cell x2 w8 hb8
          clear Cx0 Cx1 Cx2
          have hm8 : Mtr w8 g ⟨may, lim, away, since, rc⟩ := Blk.same hmr hb8
          have hx8 : RMt w8 q ⟨may, lim, away, since, rc⟩ := Blk.same hxr hb8
          have hB8 := hBr.trans (hb8.mono hBr.size)
          clear hra hro x0 x1 x2 hb8
          go_wp2_with fail
          go_roundw
          case rel => exact ⟨k + 1, _, by omega, by go_num, hm8, hx8, hmo6, hB8⟩
          case measure => simp [intOf]; omega
        · go_wp2_with fail
          refine (acked_step g m n sent now _ hm2 hmo).mono ?_
          rintro e w4 ⟨rfl, hm4, hg4⟩
          have hx4 := hx2.grown hg4 (by simpa using Ne.symm hgq)
          have hO4 := hO.grown hg4 (by simp; omega)
          have hB4 := hB2.grown hg4 hB2.size (fun b hb => by injection hb with hb; omega)
          have o0 : w4.cell? ⟨wr.heap.size, 0, none⟩ = some (.int .u8 d) := hO4.cell 0
          have o1 : w4.cell? ⟨wr.heap.size, 1, none⟩ = some (.int .i64 n) := hO4.cell 1
          have o2 : w4.cell? ⟨wr.heap.size, 2, none⟩ = some (.int .u64 sent) := hO4.cell 2
          have o3 : w4.cell? ⟨wr.heap.size, 3, none⟩ = some (.int .u64 now) := hO4.cell 3
          clear c0 c1 c2 c3 hm hx hm2 hx2 hO hg4
          obtain ⟨E, hE⟩ : ∃ E, E = errM 1 m n := ⟨_, rfl⟩
          rw [← hE]
          have HE := Lib.hid hE
          clear hE
          go_wp2_with fail
          refine (rdo_any q 1 m n sent now _ hx4 hmo (by omega)).mono ?_
          rintro e w5 ⟨rfl, hx5, hg5⟩
          rw [← HE.out]
          have hm5 := hm4.grown hg5 (by simpa using hgq)
          have hB5 := hB4.grown hg5 hB4.size (fun b hb => by injection hb with hb; omega)
          have hmo5 := stepM_ok 1 m hmo n sent now hw.1
          clear hm4 hx4 hO4 hg5 o0 o1 o2 o3
          obtain ⟨m5, hm5e⟩ : ∃ m5, m5 = stepM 1 m n sent now := ⟨_, rfl⟩
          rw [← hm5e] at hm5 hx5 hmo5
          clear hm5e
          obtain ⟨may, lim, away, since, rc⟩ := m5
          have hmo6 := hmo5
          obtain ⟨k0, k1, k2, k3, k4, k5⟩ := hmo5
          simp only at k0 k1 k2 k3 k4 k5
          go_wp2_with fail
          refine (mtold_any g may lim away since rc _ hm5).mono ?_
          rintro e w6 ⟨rfl, n6, rfl⟩
          have hmr : Mtr (w5.drewN n6) g ⟨may, lim, away, since, rc⟩ := hm5
          have hxr : RMt (w5.drewN n6) q ⟨may, lim, away, since, rc⟩ := hx5
          have hBr := below_drewN hB5 n6
          generalize w5.drewN n6 = w7 at *
          have x0 : w7.cell? ⟨q, 0, none⟩ = some (.int .i64 may) := Blk.cell hxr 0
          have x1 : w7.cell? ⟨q, 1, none⟩ = some (.int .u64 lim) := Blk.cell hxr 1
          have x2 : w7.cell? ⟨q, 2, none⟩ = some (.int .i64 away) := Blk.cell hxr 2
          have hra := room_alt may away
          have hro := fun x : Cls w7.heap.size w7 => room_any g may lim away since rc x.w (Cls.blk hmr (Blk.lt hmr) x) hmo6
          obtain ⟨R, hR⟩ : ∃ R, R = (if may - away < 0 then 0 else may - away) := ⟨_, rfl⟩
          rw [← hR] at hra
          rw [← hR] at hro
          clear hR hm5 hx5 hB5
          go_wp2_with fail
          have Cx0 := Cls.cells x0 (World.block_lt_of_cell? _ _ x0)
          have Cx1 := Cls.cells x1 (World.block_lt_of_cell? _ _ x1)
          have Cx2 := Cls.cells x2 (World.block_lt_of_cell? _ _ x2)
          refine wp_region_cls (by kernel_rfl) (by kernel_rfl) ?_
          repeat (go_big_quiet_step ((first | (go_at_call 25; exact Cls.quietN (hro _)))))
          refine wpQuiet_nil ?_
          intro w8 hb8
          have x0 := keepB_cell x0 w8 hb8
          have x1 := keepB_cell x1 w8 hb8
          have x2 := keepB_cell x2 w8 hb8
          clear Cx0 Cx1 Cx2
          have hm8 : Mtr w8 g ⟨may, lim, away, since, rc⟩ := Blk.same hmr hb8
          have hx8 : RMt w8 q ⟨may, lim, away, since, rc⟩ := Blk.same hxr hb8
          have hB8 := hBr.trans (hb8.mono hBr.size)
          clear hra hro x0 x1 x2 hb8
          go_wp2_with fail
          go_roundw
          case rel => exact ⟨k + 1, _, by omega, by go_num, hm8, hx8, hmo6, hB8⟩
          case measure => simp [intOf]; omega
        · go_wp2_with fail
          refine (mlost_step g m n sent now _ hm2 hmo).mono ?_
          rintro e w4 ⟨rfl, hm4, hg4⟩
          have hx4 := hx2.grown hg4 (by simpa using Ne.symm hgq)
          have hO4 := hO.grown hg4 (by simp; omega)
          have hB4 := hB2.grown hg4 hB2.size (fun b hb => by injection hb with hb; omega)
          have o0 : w4.cell? ⟨wr.heap.size, 0, none⟩ = some (.int .u8 d) := hO4.cell 0
          have o1 : w4.cell? ⟨wr.heap.size, 1, none⟩ = some (.int .i64 n) := hO4.cell 1
          have o2 : w4.cell? ⟨wr.heap.size, 2, none⟩ = some (.int .u64 sent) := hO4.cell 2
          have o3 : w4.cell? ⟨wr.heap.size, 3, none⟩ = some (.int .u64 now) := hO4.cell 3
          clear c0 c1 c2 c3 hm hx hm2 hx2 hO hg4
          obtain ⟨E, hE⟩ : ∃ E, E = errM 2 m n := ⟨_, rfl⟩
          rw [← hE]
          have HE := Lib.hid hE
          clear hE
          go_wp2_with fail
          refine (rdo_any q 2 m n sent now _ hx4 hmo (by omega)).mono ?_
          rintro e w5 ⟨rfl, hx5, hg5⟩
          rw [← HE.out]
          have hm5 := hm4.grown hg5 (by simpa using hgq)
          have hB5 := hB4.grown hg5 hB4.size (fun b hb => by injection hb with hb; omega)
          have hmo5 := stepM_ok 2 m hmo n sent now hw.1
          clear hm4 hx4 hO4 hg5 o0 o1 o2 o3
          obtain ⟨m5, hm5e⟩ : ∃ m5, m5 = stepM 2 m n sent now := ⟨_, rfl⟩
          rw [← hm5e] at hm5 hx5 hmo5
          clear hm5e
          obtain ⟨may, lim, away, since, rc⟩ := m5
          have hmo6 := hmo5
          obtain ⟨k0, k1, k2, k3, k4, k5⟩ := hmo5
          simp only at k0 k1 k2 k3 k4 k5
          go_wp2_with fail
          refine (mtold_any g may lim away since rc _ hm5).mono ?_
          rintro e w6 ⟨rfl, n6, rfl⟩
          have hmr : Mtr (w5.drewN n6) g ⟨may, lim, away, since, rc⟩ := hm5
          have hxr : RMt (w5.drewN n6) q ⟨may, lim, away, since, rc⟩ := hx5
          have hBr := below_drewN hB5 n6
          generalize w5.drewN n6 = w7 at *
          have x0 : w7.cell? ⟨q, 0, none⟩ = some (.int .i64 may) := Blk.cell hxr 0
          have x1 : w7.cell? ⟨q, 1, none⟩ = some (.int .u64 lim) := Blk.cell hxr 1
          have x2 : w7.cell? ⟨q, 2, none⟩ = some (.int .i64 away) := Blk.cell hxr 2
          have hra := room_alt may away
          have hro := fun x : Cls w7.heap.size w7 => room_any g may lim away since rc x.w (Cls.blk hmr (Blk.lt hmr) x) hmo6
          obtain ⟨R, hR⟩ : ∃ R, R = (if may - away < 0 then 0 else may - away) := ⟨_, rfl⟩
          rw [← hR] at hra
          rw [← hR] at hro
          clear hR hm5 hx5 hB5
          go_wp2_with fail
          have Cx0 := Cls.cells x0 (World.block_lt_of_cell? _ _ x0)
          have Cx1 := Cls.cells x1 (World.block_lt_of_cell? _ _ x1)
          have Cx2 := Cls.cells x2 (World.block_lt_of_cell? _ _ x2)
          refine wp_region_cls (by kernel_rfl) (by kernel_rfl) ?_
          repeat (go_big_quiet_step ((first | (go_at_call 25; exact Cls.quietN (hro _)))))
          refine wpQuiet_nil ?_
          intro w8 hb8
          have x0 := keepB_cell x0 w8 hb8
          have x1 := keepB_cell x1 w8 hb8
          have x2 := keepB_cell x2 w8 hb8
          clear Cx0 Cx1 Cx2
          have hm8 : Mtr w8 g ⟨may, lim, away, since, rc⟩ := Blk.same hmr hb8
          have hx8 : RMt w8 q ⟨may, lim, away, since, rc⟩ := Blk.same hxr hb8
          have hB8 := hBr.trans (hb8.mono hBr.size)
          clear hra hro x0 x1 x2 hb8
          go_wp2_with fail
          go_roundw
          case rel => exact ⟨k + 1, _, by omega, by go_num, hm8, hx8, hmo6, hB8⟩
          case measure => simp [intOf]; omega
        · go_wp2_with fail
          refine (gone_step g m n sent now _ hm2 hmo).mono ?_
          rintro e w4 ⟨rfl, hm4, hg4⟩
          have hx4 := hx2.grown hg4 (by simpa using Ne.symm hgq)
          have hO4 := hO.grown hg4 (by simp; omega)
          have hB4 := hB2.grown hg4 hB2.size (fun b hb => by injection hb with hb; omega)
          have o0 : w4.cell? ⟨wr.heap.size, 0, none⟩ = some (.int .u8 d) := hO4.cell 0
          have o1 : w4.cell? ⟨wr.heap.size, 1, none⟩ = some (.int .i64 n) := hO4.cell 1
          have o2 : w4.cell? ⟨wr.heap.size, 2, none⟩ = some (.int .u64 sent) := hO4.cell 2
          have o3 : w4.cell? ⟨wr.heap.size, 3, none⟩ = some (.int .u64 now) := hO4.cell 3
          clear c0 c1 c2 c3 hm hx hm2 hx2 hO hg4
          obtain ⟨E, hE⟩ : ∃ E, E = errM 3 m n := ⟨_, rfl⟩
          rw [← hE]
          have HE := Lib.hid hE
          clear hE
          go_wp2_with fail
          refine (rdo_any q 3 m n sent now _ hx4 hmo (by omega)).mono ?_
          rintro e w5 ⟨rfl, hx5, hg5⟩
          rw [← HE.out]
          have hm5 := hm4.grown hg5 (by simpa using hgq)
          have hB5 := hB4.grown hg5 hB4.size (fun b hb => by injection hb with hb; omega)
          have hmo5 := stepM_ok 3 m hmo n sent now hw.1
          clear hm4 hx4 hO4 hg5 o0 o1 o2 o3
          obtain ⟨m5, hm5e⟩ : ∃ m5, m5 = stepM 3 m n sent now := ⟨_, rfl⟩
          rw [← hm5e] at hm5 hx5 hmo5
          clear hm5e
          obtain ⟨may, lim, away, since, rc⟩ := m5
          have hmo6 := hmo5
          obtain ⟨k0, k1, k2, k3, k4, k5⟩ := hmo5
          simp only at k0 k1 k2 k3 k4 k5
          go_wp2_with fail
          refine (mtold_any g may lim away since rc _ hm5).mono ?_
          rintro e w6 ⟨rfl, n6, rfl⟩
          have hmr : Mtr (w5.drewN n6) g ⟨may, lim, away, since, rc⟩ := hm5
          have hxr : RMt (w5.drewN n6) q ⟨may, lim, away, since, rc⟩ := hx5
          have hBr := below_drewN hB5 n6
          generalize w5.drewN n6 = w7 at *
          have x0 : w7.cell? ⟨q, 0, none⟩ = some (.int .i64 may) := Blk.cell hxr 0
          have x1 : w7.cell? ⟨q, 1, none⟩ = some (.int .u64 lim) := Blk.cell hxr 1
          have x2 : w7.cell? ⟨q, 2, none⟩ = some (.int .i64 away) := Blk.cell hxr 2
          have hra := room_alt may away
          have hro := fun x : Cls w7.heap.size w7 => room_any g may lim away since rc x.w (Cls.blk hmr (Blk.lt hmr) x) hmo6
          obtain ⟨R, hR⟩ : ∃ R, R = (if may - away < 0 then 0 else may - away) := ⟨_, rfl⟩
          rw [← hR] at hra
          rw [← hR] at hro
          clear hR hm5 hx5 hB5
          go_wp2_with fail
          have Cx0 := Cls.cells x0 (World.block_lt_of_cell? _ _ x0)
          have Cx1 := Cls.cells x1 (World.block_lt_of_cell? _ _ x1)
          have Cx2 := Cls.cells x2 (World.block_lt_of_cell? _ _ x2)
          refine wp_region_cls (by kernel_rfl) (by kernel_rfl) ?_
          repeat (go_big_quiet_step ((first | (go_at_call 25; exact Cls.quietN (hro _)))))
          refine wpQuiet_nil ?_
          intro w8 hb8
          have x0 := keepB_cell x0 w8 hb8
          have x1 := keepB_cell x1 w8 hb8
          have x2 := keepB_cell x2 w8 hb8
          clear Cx0 Cx1 Cx2
          have hm8 : Mtr w8 g ⟨may, lim, away, since, rc⟩ := Blk.same hmr hb8
          have hx8 : RMt w8 q ⟨may, lim, away, since, rc⟩ := Blk.same hxr hb8
          have hB8 := hBr.trans (hb8.mono hBr.size)
          clear hra hro x0 x1 x2 hb8
          go_wp2_with fail
          go_roundw
          case rel => exact ⟨k + 1, _, by omega, by go_num, hm8, hx8, hmo6, hB8⟩
          case measure => simp [intOf]; omega
    · go_wp2_with fail
      go_ret
      exact ⟨rfl, hB⟩

theorem meters_walk (b : Bool) (A : Option Addr) (N cap : Nat) (w : World) (hp : Ops w A N) (hnc : N ≤ cap) (hcm : cap ≤ maxLen) :
    Calls Try.prog 6 #[.bool b, .slice A N cap] w fun e w' => e = .returned (.bool true) ∧ Below w.heap.size w w' := by
  cases b with
  | true => exact meters_nil A N cap w hp hnc hcm
  | false => exact meters_some A N cap w hp hnc hcm
open Go.ChangeShapes Go.WideShapes Go.ChangeAt
set_option maxRecDepth 100000 in
theorem meters_lifted (os : Os) (started : os.Started) (H : Type) (enc : TypeId × Value → H) :
    ReturnsInHanded {} Try.checked os 6 .any (Rows.paceMetersSpec.pre6 enc Try.prog Try.f6 Rows.paceMetersRow.domain false) (Rows.paceMetersSpec.post enc Try.prog Try.f6 false true false false) := by
  refine returnsInHanded_of_change (C := Try.checked) own started (by kernel_rfl) Try.func6
    (ChangeSpec.witness6 (enc := enc) (C := Try.checked) false ⟨#[], #[.bool false, .slice none 0 0], []⟩ 8 (by kernel_rfl) (by kernel_rfl) (by kernel_rfl) (by kernel_rfl)) ?_
  intro W base args ds gs before hval0 hW hcnd _
  have hval : ∀ (j : Nat) t v, Try.f6.params[j]? = some t → args[j]? = some v → Value.okWide Try.prog W .any base t v := hval0
  have hW' := hW
  obtain ⟨p, q, hA0, hV, rfl, hfz, hnd⟩ := hW
  have hA : DataW.TrodAll enc Try.prog W 0 (fun _ => true) true Try.f6.params.toList args.toList ds p := hA0
  rw [Try.params6] at hA hval
  obtain ⟨v0, vs0, d0, ds0, p0, q0, hargs, rfl, rfl, h0, r0⟩ := trodAll_cons hA
  obtain ⟨v1, vs1, d1, ds1, p1, q1, rfl, rfl, rfl, h1, r1⟩ := trodAll_cons r0
  obtain ⟨rfl, rfl, rfl⟩ := trodAll_nil r1
  obtain rfl : args = #[v0, v1] := by cases args; simp_all
  obtain ⟨rfl, rfl⟩ := trodVars_none hV
  obtain ⟨a0, rfl, rfl, rfl⟩ := open_bool Try.underlying4 (hval 0 4 v0 rfl rfl) h0
  obtain ⟨A1, len1, cap1, rfl⟩ := okWide_slice Try.underlying49 (hval 1 49 v1 rfl rfl)
  have k1 := h1
  have lt1 : ∀ x ∈ p1, x.block < W.heap.size := by obtain ⟨m, hm⟩ := k1; exact DataW.trod_lt m _ _ _ hm
  obtain ⟨n1, c1, hR1⟩ := ops_of h1
  clear hA0 hval0
  refine (meters_walk a0 _ _ _ W hR1 n1 c1).mono fun e W' ⟨he, bel⟩ => ?_
  subst he
  exact ⟨_, rfl, _, _, _, [], _, [], hW', trodAll_mk1 (shut_bool Try.underlying4 _), (trodAll_cons_mk (shut_bool Try.underlying4 _) (trodAll_cons_mk (Below.trod laidOut (by kernel_rfl) (of_decide_eq_true (by kernel_rfl)) k1 bel lt1) trodAll_mk0)), rfl, bel.frame _, fun h => by cases h⟩

theorem meters_holds : Rows.PaceMetersSaid :=
  OpenClaim.holds_of_wide 6 Try.f6 rfl rfl rfl rfl rfl rfl rfl ⟨rfl, rfl, rfl, rfl, rfl⟩ rfl rfl rfl rfl rfl (by kernel_rfl) Try.func6 (by kernel_rfl)
    (of_decide_eq_true (by kernel_rfl)) (by unfold Func.isWrapper; first | (rw [if_pos (by decide +kernel)]; kernel_rfl) | (rw [if_neg (by decide +kernel)]; exact ⟨rfl, rfl⟩))
    (fun os started H enc _ => meters_lifted os started H enc)
#print axioms meters_holds

end Go.Proofs.Ytlnenndlenckjaa
