/-
  LossPlays: the script's walk, a nil ledger. No condition.
-/
import Derived.Test.YtohjifbkjfnkfaaLplayp
import Derived.Deep.CutBlock
namespace Go.Proofs.Ytohjifbkjfnkfaa
open Go.RowKit
set_option linter.unusedVariables false
set_option linter.unusedSimpArgs false

set_option maxHeartbeats 16000000 in
set_option maxRecDepth 100000 in
theorem plays_nil (A : Option Addr) (N cap : Nat) (w : World) (hp : Ops w A N) (hnc : N ≤ cap) (hcm : cap ≤ maxLen) :
    Calls Try.prog 7 #[.bool true, .slice A N cap] w fun e w' => e = .returned (.bool true) ∧ Below w.heap.size w w' := by
  have hcm' : cap ≤ 9223372036854775807 := by unfold maxLen at hcm; omega
  clear hcm
  obtain ⟨i0, hi, hz0, hz1, hz2⟩ := info_parts infoR
  obtain ⟨j0, hj, jz0, jz1, jz2⟩ := info_parts infoQ
  have HP := Lib.hid hp
  clear hp
  go_enter Try.func7, Try.ntmps7
  go_wp2_with fail
  refine (awake_any _).mono ?_
  rintro e w1 ⟨rfl, hB⟩
  go_wp2_with fail
  refine (new_any _).mono ?_
  rintro e w2 ⟨g, rfl, hl, hB2⟩
  have hb2 := (Below.refl w2.heap.size w2).alloc (Nat.le_refl _) (.cells #[.slice none 0 0, .int .u64 0, .int .u64 0, .bool false] 57)
  have hB := hB.trans (hB2.mono hB.size)
  have hB := hB.trans (hb2.mono hB.size)
  clear hB2 hb2 hl
  go_wp2_with fail
  go_loopw [38] (fun i wr => ∃ (k : Nat), k ≤ N ∧ i = .int .i64 k ∧ k ≤ 50 ∧ Below w.heap.size w wr) (fun i _ => N - (intOf i).toNat)
  case atStart => exact ⟨0, Nat.zero_le _, rfl, by decide, hB⟩
  case round =>
    clear hB
    obtain ⟨k, hkn, rfl, hk50, hB⟩ := hrel
    by_cases hlt : k < N
    · skip
      obtain ⟨b, off, o, rfl, hb, how, hcw⟩ := HP.out k hlt
      have hc := fun j hj => (hB.cell (p := ⟨b, off + (k * 9 + j), none⟩) hb).trans (hcw j hj)
      have ho := how.below hB
      clear hcw
      obtain ⟨d, ⟨pn, ps, pz, pa⟩, pg, RA, rn, rc, R, now, wait⟩ := o
      have d0 : wr.cell? ⟨b, off + k * 9, none⟩ = some (.int .u8 d) := by simpa [Oq.cells, Nat.add_assoc] using hc 0 (by decide)
      have d1 : wr.cell? ⟨b, off + k * 9 + 1, none⟩ = some (.int .u64 pn) := by simpa [Oq.cells, Nat.add_assoc] using hc 1 (by decide)
      have d2 : wr.cell? ⟨b, off + k * 9 + 2, none⟩ = some (.int .u64 ps) := by simpa [Oq.cells, Nat.add_assoc] using hc 2 (by decide)
      have d3 : wr.cell? ⟨b, off + k * 9 + 3, none⟩ = some (.int .i64 pz) := by simpa [Oq.cells, Nat.add_assoc] using hc 3 (by decide)
      have d4 : wr.cell? ⟨b, off + k * 9 + 4, none⟩ = some (.bool pa) := by simpa [Oq.cells, Nat.add_assoc] using hc 4 (by decide)
      have d5 : wr.cell? ⟨b, off + k * 9 + 5, none⟩ = some (.bool pg) := by simpa [Oq.cells, Nat.add_assoc] using hc 5 (by decide)
      have d6 : wr.cell? ⟨b, off + k * 9 + 6, none⟩ = some (.slice RA rn rc) := by simpa [Oq.cells, Nat.add_assoc] using hc 6 (by decide)
      have d7 : wr.cell? ⟨b, off + k * 9 + 7, none⟩ = some (.int .u64 now) := by simpa [Oq.cells, Nat.add_assoc] using hc 7 (by decide)
      have d8 : wr.cell? ⟨b, off + k * 9 + 8, none⟩ = some (.int .u64 wait) := by simpa [Oq.cells, Nat.add_assoc] using hc 8 (by decide)
      have hd := ho.1
      simp only at hd
      have hO := Blk.new wr 52 #[.int .u8 d, .int .u64 pn, .int .u64 ps, .int .i64 pz, .bool pa, .bool pg, .slice RA rn rc, .int .u64 now, .int .u64 wait]
      have ho2 := ho.below ((Below.refl wr.heap.size wr).alloc (Nat.le_refl _) (.cells #[.int .u8 d, .int .u64 pn, .int .u64 ps, .int .i64 pz, .bool pa, .bool pg, .slice RA rn rc, .int .u64 now, .int .u64 wait] 52))
      obtain ⟨hq1, hq2, ⟨r1, r2, r3, r4, r5⟩, hq4, hq5⟩ := ho2
      simp only at hq1 hq2 r1 r2 r3 r4 r5 hq4 hq5
      clear ho how hc
      have hB2 := hB.alloc hB.size (.cells #[.int .u8 d, .int .u64 pn, .int .u64 ps, .int .i64 pz, .bool pa, .bool pg, .slice RA rn rc, .int .u64 now, .int .u64 wait] 52)
      by_cases h50 : k < 50
      · have h50' : (k : Int) < 50 := by omega
        go_upto_block 2 with (fail)
        go_cut [9, 47] (fun s9 s47 wx => s9 = .bool true ∧ Blk wx wr.heap.size 52 #[.int .u8 d, .int .u64 pn, .int .u64 ps, .int .i64 pz, .bool pa, .bool pg, .slice RA rn rc, .int .u64 now, .int .u64 wait] ∧ Below w.heap.size w wx)
        case first =>
          have o0 : World.cell? (wr.alloc (.cells #[.int .u8 d, .int .u64 pn, .int .u64 ps, .int .i64 pz, .bool pa, .bool pg, .slice RA rn rc, .int .u64 now, .int .u64 wait] 52)) ⟨wr.heap.size, 0, none⟩ = some (.int .u8 d) := hO.cell 0
          have o1 : World.cell? (wr.alloc (.cells #[.int .u8 d, .int .u64 pn, .int .u64 ps, .int .i64 pz, .bool pa, .bool pg, .slice RA rn rc, .int .u64 now, .int .u64 wait] 52)) ⟨wr.heap.size, 1, none⟩ = some (.int .u64 pn) := hO.cell 1
          have o2 : World.cell? (wr.alloc (.cells #[.int .u8 d, .int .u64 pn, .int .u64 ps, .int .i64 pz, .bool pa, .bool pg, .slice RA rn rc, .int .u64 now, .int .u64 wait] 52)) ⟨wr.heap.size, 2, none⟩ = some (.int .u64 ps) := hO.cell 2
          have o3 : World.cell? (wr.alloc (.cells #[.int .u8 d, .int .u64 pn, .int .u64 ps, .int .i64 pz, .bool pa, .bool pg, .slice RA rn rc, .int .u64 now, .int .u64 wait] 52)) ⟨wr.heap.size, 3, none⟩ = some (.int .i64 pz) := hO.cell 3
          have o4 : World.cell? (wr.alloc (.cells #[.int .u8 d, .int .u64 pn, .int .u64 ps, .int .i64 pz, .bool pa, .bool pg, .slice RA rn rc, .int .u64 now, .int .u64 wait] 52)) ⟨wr.heap.size, 4, none⟩ = some (.bool pa) := hO.cell 4
          have o5 : World.cell? (wr.alloc (.cells #[.int .u8 d, .int .u64 pn, .int .u64 ps, .int .i64 pz, .bool pa, .bool pg, .slice RA rn rc, .int .u64 now, .int .u64 wait] 52)) ⟨wr.heap.size, 5, none⟩ = some (.bool pg) := hO.cell 5
          have o6 : World.cell? (wr.alloc (.cells #[.int .u8 d, .int .u64 pn, .int .u64 ps, .int .i64 pz, .bool pa, .bool pg, .slice RA rn rc, .int .u64 now, .int .u64 wait] 52)) ⟨wr.heap.size, 6, none⟩ = some (.slice RA rn rc) := hO.cell 6
          have o7 : World.cell? (wr.alloc (.cells #[.int .u8 d, .int .u64 pn, .int .u64 ps, .int .i64 pz, .bool pa, .bool pg, .slice RA rn rc, .int .u64 now, .int .u64 wait] 52)) ⟨wr.heap.size, 7, none⟩ = some (.int .u64 now) := hO.cell 7
          have o8 : World.cell? (wr.alloc (.cells #[.int .u8 d, .int .u64 pn, .int .u64 ps, .int .i64 pz, .bool pa, .bool pg, .slice RA rn rc, .int .u64 now, .int .u64 wait] 52)) ⟨wr.heap.size, 8, none⟩ = some (.int .u64 wait) := hO.cell 8
          by_cases h3 : d % 7 = 3
          · have h3' : (d % 7 == 3) = true := by simpa using h3
            as_aux_lemma =>
              obtain ⟨m, hm⟩ : ∃ m : Nat, m = if rn < 6 then rn else 6 := ⟨_, rfl⟩
              have hm6 : m ≤ rn ∧ m ≤ 6 := by rw [hm]; split <;> omega
              have hm1 : (if (6 : Int) < (rn : Int) then 6 else (rn : Int)) = (m : Int) := by rw [hm]; split <;> split <;> omega
              have hm2 : (if (rn : Int) < 6 then (rn : Int) else 6) = (m : Int) := by rw [hm]; split <;> split <;> omega
              clear hm
              have hmc : m ≤ rc := by omega
              have hmc' : (m : Int) ≤ (rc : Int) := by omega
              have hpr := Pairs.pre' r4 hm6.1
              have hA0 : RA = none → m = 0 := fun e => by have := (r3 e).1; omega
              have hRm : (R.take m).length = m := hpr.1
              have hRo := r5.pre m
              have hbs := hB.size
              clear r3 r4 r5
              go_wp2_with (at_builtin; refine wpList_append_any _ rfl _ _ 32 rfl w.heap.size 31 i0 _ 2 16 Try.underlying32 hi hz0 hz1 hz2 rfl (by decide) (.slice (some ⟨wr.heap.size + 1, 0, none⟩) 0 0) 0 [] rfl (own_lit31 (X := (wr.alloc (.cells #[.int .u8 d, .int .u64 pn, .int .u64 ps, .int .i64 pz, .bool pa, .bool pg, .slice RA rn rc, .int .u64 now, .int .u64 wait] 52))) (by simp) (Below.refl _ _) (by simp; omega)) RA m rc (prcells (R.take m)) rfl (RdV.alloc' (prs_rdv hpr)) (prcells_one' _) (by unfold maxLen; omega) (by omega) (by simp; omega) hA0 ?_; intro v7 w7 hown7 hgrow7 hat7)
              have hown8 : w7.ownsRow w.heap.size 31 2 v7 m (prcells (R.take m)) := by simpa using hown7
              obtain ⟨A7, c7, rfl, _⟩ := sl_of_own hown8
              have hb7 : Below (wr.alloc (.cells #[.int .u8 d, .int .u64 pn, .int .u64 ps, .int .i64 pz, .bool pa, .bool pg, .slice RA rn rc, .int .u64 now, .int .u64 wait] 52)).heap.size (wr.alloc (.cells #[.int .u8 d, .int .u64 pn, .int .u64 ps, .int .i64 pz, .bool pa, .bool pg, .slice RA rn rc, .int .u64 now, .int .u64 wait] 52)) w7 := lit_grown (by simpa [Value.ownBlock] using hgrow7)
              have hO7 := hO.same hb7
              have hB7 := hB2.trans (hb7.mono hB2.size)
              clear hown7 hgrow7 hat7 hb7 hB2 hO d0 d1 d2 d3 d4 d5 d6 d7 d8 o0 o1 o2 o3 o4 o5 o6 o7 o8 hm1 hm2
              go_wp2_with fail
              refine (ack_nil A7 m c7 _).mono ?_
              rintro e w9 ⟨rfl, hb9⟩
              have hO9 := hO7.same hb9
              have hB9 := hB7.trans (hb9.mono hB7.size)
              clear hb9 hO7 hB7
              go_wp2_with fail
              refine (ackR_nil A7 m c7 _).mono ?_
              rintro e w10 ⟨rfl, hb10⟩
              have hO10 := hO9.same hb10
              have hB10 := hB9.trans (hb10.mono hB9.size)
              clear hb10 hO9 hB9
              go_wp2_with fail
              refine (same_nil _).mono ?_
              rintro e w11 ⟨rfl, hb11⟩
              have hO11 := hO10.same hb11
              have hB11 := hB10.trans (hb11.mono hB10.size)
              clear hb11 hO10 hB10
              go_wp2_with fail
              go_meet
              first | exact ⟨rfl, hO11, hB11⟩ | ((repeat apply Exists.intro); exact ⟨⟨rfl, hO11, hB11⟩, rfl⟩)
          · have h3' : (d % 7 == 3) = false := by simpa using h3
            by_cases h4 : d % 7 = 4
            · have h4' : (d % 7 == 4) = true := by simpa using h4
              as_aux_lemma =>
                obtain ⟨m, hm⟩ : ∃ m : Nat, m = if rn < 6 then rn else 6 := ⟨_, rfl⟩
                have hm6 : m ≤ rn ∧ m ≤ 6 := by rw [hm]; split <;> omega
                have hm1 : (if (6 : Int) < (rn : Int) then 6 else (rn : Int)) = (m : Int) := by rw [hm]; split <;> split <;> omega
                have hm2 : (if (rn : Int) < 6 then (rn : Int) else 6) = (m : Int) := by rw [hm]; split <;> split <;> omega
                clear hm
                have hmc : m ≤ rc := by omega
                have hmc' : (m : Int) ≤ (rc : Int) := by omega
                have hpr := Pairs.pre' r4 hm6.1
                have hA0 : RA = none → m = 0 := fun e => by have := (r3 e).1; omega
                have hRm : (R.take m).length = m := hpr.1
                have hRo := r5.pre m
                have hbs := hB.size
                clear r3 r4 r5
                go_wp2_with (at_builtin; refine wpList_append_any _ rfl _ _ 32 rfl w.heap.size 31 i0 _ 2 16 Try.underlying32 hi hz0 hz1 hz2 rfl (by decide) (.slice (some ⟨wr.heap.size + 1, 0, none⟩) 0 0) 0 [] rfl (own_lit31 (X := (wr.alloc (.cells #[.int .u8 d, .int .u64 pn, .int .u64 ps, .int .i64 pz, .bool pa, .bool pg, .slice RA rn rc, .int .u64 now, .int .u64 wait] 52))) (by simp) (Below.refl _ _) (by simp; omega)) RA m rc (prcells (R.take m)) rfl (RdV.alloc' (prs_rdv hpr)) (prcells_one' _) (by unfold maxLen; omega) (by omega) (by simp; omega) hA0 ?_; intro v7 w7 hown7 hgrow7 hat7)
                have hown8 : w7.ownsRow w.heap.size 31 2 v7 m (prcells (R.take m)) := by simpa using hown7
                obtain ⟨A7, c7, rfl, _⟩ := sl_of_own hown8
                have hb7 : Below (wr.alloc (.cells #[.int .u8 d, .int .u64 pn, .int .u64 ps, .int .i64 pz, .bool pa, .bool pg, .slice RA rn rc, .int .u64 now, .int .u64 wait] 52)).heap.size (wr.alloc (.cells #[.int .u8 d, .int .u64 pn, .int .u64 ps, .int .i64 pz, .bool pa, .bool pg, .slice RA rn rc, .int .u64 now, .int .u64 wait] 52)) w7 := lit_grown (by simpa [Value.ownBlock] using hgrow7)
                have hO7 := hO.same hb7
                have hB7 := hB2.trans (hb7.mono hB2.size)
                clear hown7 hgrow7 hat7 hb7 hB2 hO d0 d1 d2 d3 d4 d5 d6 d7 d8 o0 o1 o2 o3 o4 o5 o6 o7 o8 hm1 hm2
                go_wp2_with fail
                refine (ack_nil A7 m c7 _).mono ?_
                rintro e w9 ⟨rfl, hb9⟩
                have hO9 := hO7.same hb9
                have hB9 := hB7.trans (hb9.mono hB7.size)
                clear hb9 hO7 hB7
                go_wp2_with fail
                refine (ackR_nil A7 m c7 _).mono ?_
                rintro e w10 ⟨rfl, hb10⟩
                have hO10 := hO9.same hb10
                have hB10 := hB9.trans (hb10.mono hB9.size)
                clear hb10 hO9 hB9
                go_wp2_with fail
                refine (same_nil _).mono ?_
                rintro e w11 ⟨rfl, hb11⟩
                have hO11 := hO10.same hb11
                have hB11 := hB10.trans (hb11.mono hB10.size)
                clear hb11 hO10 hB10
                go_wp2_with fail
                go_meet
                first | exact ⟨rfl, hO11, hB11⟩ | ((repeat apply Exists.intro); exact ⟨⟨rfl, hO11, hB11⟩, rfl⟩)
            · have h4' : (d % 7 == 4) = false := by simpa using h4
              by_cases h5 : d % 7 = 5
              · have h5' : (d % 7 == 5) = true := by simpa using h5
                as_aux_lemma =>
                  go_wp2_with fail
                  have H11 : ∀ a b W, Calls Try.prog 11 #[.pointer none, .int .u64 a, .int .u64 b] W fun e w' => e = .returned (.slice none 0 0) ∧ Below W.heap.size W w' := fun a b W => lost_nil a b W
                  have Co7 := Cls.cells o7 (World.block_lt_of_cell? _ _ o7)
                  have Co8 := Cls.cells o8 (World.block_lt_of_cell? _ _ o8)
                  refine wp_region_cls (by kernel_rfl) (by kernel_rfl) ?_
                  repeat (go_big_quiet_step ((first | (go_at_call 11; with_reducible exact Cls.call (Nat.le_refl _) (lost_nil _ _ _)) | (go_at_call 19; with_reducible exact Cls.call (Nat.le_refl _) (lostR_nil _ _ _)) | (go_at_call 18; with_reducible exact Cls.call (Nat.le_refl _) (same_nil _)))))
                  refine wpQuiet_nil ?_
                  intro w11 hb11
                  have o7 := keepB_cell o7 w11 hb11
                  have o8 := keepB_cell o8 w11 hb11
                  clear Co7 Co8
                  have hO11 := hO.same hb11
                  have hB11 := hB2.trans (hb11.mono hB2.size)
                  clear hb11 hO hB2 o7 o8 H11
                  go_wp2_with fail
                  go_meet
                  first | exact ⟨rfl, hO11, hB11⟩ | ((repeat apply Exists.intro); exact ⟨⟨rfl, hO11, hB11⟩, rfl⟩)
              · have h5' : (d % 7 == 5) = false := by simpa using h5
                by_cases h6 : d % 7 = 6
                · have h6' : (d % 7 == 6) = true := by simpa using h6
                  as_aux_lemma =>
                    clear o0 o1 o2 o3 o4 o5 o6 o7 o8 d0 d1 d2 d3 d4 d5 d6 d7 d8
                    go_wp2_with fail
                    refine (clear_nil _).mono ?_
                    rintro e w9 ⟨rfl, hb9⟩
                    have hO9 := hO.same hb9
                    have hB9 := hB2.trans (hb9.mono hB2.size)
                    clear hb9 hO hB2
                    go_wp2_with fail
                    refine (clearR_nil _).mono ?_
                    rintro e w10 ⟨rfl, hb10⟩
                    have hO10 := hO9.same hb10
                    have hB10 := hB9.trans (hb10.mono hB9.size)
                    clear hb10 hO9 hB9
                    go_wp2_with fail
                    refine (same_nil _).mono ?_
                    rintro e w11 ⟨rfl, hb11⟩
                    have hO11 := hO10.same hb11
                    have hB11 := hB10.trans (hb11.mono hB10.size)
                    clear hb11 hO10 hB10
                    go_wp2_with fail
                    go_meet
                    first | exact ⟨rfl, hO11, hB11⟩ | ((repeat apply Exists.intro); exact ⟨⟨rfl, hO11, hB11⟩, rfl⟩)
                · have h6' : (d % 7 == 6) = false := by simpa using h6
                  as_aux_lemma =>
                    go_wp2_with fail
                    obtain ⟨wz, hwz⟩ : ∃ wz, wz = World.alloc (wr.alloc (.cells #[.int .u8 d, .int .u64 pn, .int .u64 ps, .int .i64 pz, .bool pa, .bool pg, .slice RA rn rc, .int .u64 now, .int .u64 wait] 52)) (.cells #[.int .u64 pn, .int .u64 ps, .int .i64 pz, .bool pa, .bool false] 50) := ⟨_, rfl⟩
                    have hPb : Blk wz (wr.heap.size + 1) 50 #[.int .u64 pn, .int .u64 ps, .int .i64 pz, .bool pa, .bool false] := by rw [hwz]; exact blk_new_at (w := (wr.alloc (.cells #[.int .u8 d, .int .u64 pn, .int .u64 ps, .int .i64 pz, .bool pa, .bool pg, .slice RA rn rc, .int .u64 now, .int .u64 wait] 52))) (n := wr.heap.size + 1) (t := 50) (by simp)
                    have hbz : Below (wr.alloc (.cells #[.int .u8 d, .int .u64 pn, .int .u64 ps, .int .i64 pz, .bool pa, .bool pg, .slice RA rn rc, .int .u64 now, .int .u64 wait] 52)).heap.size (wr.alloc (.cells #[.int .u8 d, .int .u64 pn, .int .u64 ps, .int .i64 pz, .bool pa, .bool pg, .slice RA rn rc, .int .u64 now, .int .u64 wait] 52)) wz := by rw [hwz]; exact (Below.refl _ _).alloc (Nat.le_refl _) _
                    have hO3 := hO.same hbz
                    have hB3 := hB2.trans (hbz.mono hB2.size)
                    rw [← hwz]
                    clear hwz
                    clear hbz hO hB2 o0 o1 o2 o3 o4 o5 o6 o7 o8 d0 d1 d2 d3 d4 d5 d6 d7 d8
                    have p0 := hPb.cell 0
                    have p1 := hPb.cell 1
                    have p2 := hPb.cell 2
                    have p3 := hPb.cell 3
                    have p4 := hPb.cell 4
                    simp only [List.getElem?_toArray, List.getElem?_cons_zero, List.getElem?_cons_succ] at p0 p1 p2 p3 p4
                    have A13 : ∀ W, Calls Try.prog 13 #[.pointer none, .agg #[.int .u64 pn, .int .u64 ps, .int .i64 pz, .bool pa]] W fun e w' => e = .returned (.int .i64 6) ∧ Below W.heap.size W w' := fun W => send_nil ⟨pn, ps, pz, pa⟩ W
                    have A21 : ∀ W, Calls Try.prog 21 #[.pointer none, .agg #[.int .u64 pn, .int .u64 ps, .int .i64 pz, .bool pa, .bool false]] W fun e w' => e = .returned (.int .i64 6) ∧ Below W.heap.size W w' := fun W => sendR_nil ⟨pn, ps, pz, pa⟩ W
                    have Cp0 := Cls.cells p0 (World.block_lt_of_cell? _ _ p0)
                    have Cp1 := Cls.cells p1 (World.block_lt_of_cell? _ _ p1)
                    have Cp2 := Cls.cells p2 (World.block_lt_of_cell? _ _ p2)
                    have Cp3 := Cls.cells p3 (World.block_lt_of_cell? _ _ p3)
                    have Cp4 := Cls.cells p4 (World.block_lt_of_cell? _ _ p4)
                    refine wp_region_cls (by kernel_rfl) (by kernel_rfl) ?_
                    repeat (go_big_quiet_step ((first | (go_at_call 13; with_reducible exact Cls.call (Nat.le_refl _) (A13 _)) | (go_at_call 21; with_reducible exact Cls.call (Nat.le_refl _) (A21 _)))))
                    refine wpQuiet_nil ?_
                    intro w11 hb11
                    have p0 := keepB_cell p0 w11 hb11
                    have p1 := keepB_cell p1 w11 hb11
                    have p2 := keepB_cell p2 w11 hb11
                    have p3 := keepB_cell p3 w11 hb11
                    have p4 := keepB_cell p4 w11 hb11
                    clear Cp0 Cp1 Cp2 Cp3 Cp4
                    have hO11 := hO3.same hb11
                    have hB11 := hB3.trans (hb11.mono hB3.size)
                    clear hb11 hO3 hB3 p0 p1 p2 p3 p4 hPb A13 A21
                    go_wp2_with fail
                    go_meet
                    first | exact ⟨rfl, hO11, hB11⟩ | ((repeat apply Exists.intro); exact ⟨⟨rfl, hO11, hB11⟩, rfl⟩)
        case rest =>
          clear hO hB2 d0 d1 d2 d3 d4 d5 d6 d7 d8 r1 r2 r3 r4 r5 hq1 hq2 hq4 hd hB h50
          obtain ⟨rfl, hO, hB⟩ := hcut
          have hw1 : 0 ≤ wait ∧ wait ≤ 18446744073709551615 := hq5
          obtain ⟨ob, hob⟩ : ∃ ob, ob = wr.heap.size := ⟨_, rfl⟩
          rw [← hob] at hO ⊢
          clear hob
          go_wp2_with fail
          refine (openR_nil _).mono ?_
          rintro e w3 ⟨rfl, hb3⟩
          have hO3 := hO.same hb3
          have hB3 := hB.trans (hb3.mono hB.size)
          clear hb3 hO hB
          have o8 : w3.cell? ⟨ob, 8, none⟩ = some (.int .u64 wait) := hO3.cell 8
          go_wp2_with fail
          refine (due_nil wait _).mono ?_
          rintro e w4 ⟨rfl, hb4⟩
          have hO4 := hO3.same hb4
          have hB4 := hB3.trans (hb4.mono hB3.size)
          clear hb4 hO3 hB3
          clear o8
          have o8 : w4.cell? ⟨ob, 8, none⟩ = some (.int .u64 wait) := hO4.cell 8
          go_wp2_with fail
          refine (dueR_nil wait _).mono ?_
          rintro e w5 ⟨rfl, hb5⟩
          have hO5 := hO4.same hb5
          have hB5 := hB4.trans (hb5.mono hB4.size)
          clear hb5 hO4 hB4
          clear o8
          go_wp2_with fail
          refine (open_nil _).mono ?_
          rintro e w6 ⟨rfl, hb6⟩
          have hO6 := hO5.same hb6
          have hB6 := hB5.trans (hb6.mono hB5.size)
          clear hb6 hO5 hB5
          go_wp2_with fail
          refine (same_nil _).mono ?_
          rintro e w7 ⟨rfl, hb7⟩
          have hO7 := hO6.same hb7
          have hB7 := hB6.trans (hb7.mono hB6.size)
          clear hb7 hO6 hB6
          go_wp2_with fail
          go_loopw [21, 157] (fun s21 i wy => s21 = .slice none 0 0 ∧ i = .int .i64 0 ∧ wy = w7) (fun _ _ _ => 0)
          case atStart => exact ⟨rfl, rfl, rfl⟩
          case round =>
            obtain ⟨rfl, rfl, rfl⟩ := hrel
            go_wp2_with fail
            refine (first_nil _).mono ?_
            rintro e w8 ⟨rfl, hb8⟩
            have hB8 := hB7.trans (hb8.mono hB7.size)
            clear hb8 hB7 hO7
            unfold pk0 Pk.agg
            have hB9 := hB8.alloc hB8.size (.cells #[.int .u64 0, .int .u64 0, .int .i64 0, .bool false] 36)
            clear hB8
            go_wp2_with fail
            refine (last_nil _).mono ?_
            rintro e w10 ⟨rfl, hb10⟩
            have hB10 := hB9.trans (hb10.mono hB9.size)
            clear hb10 hB9
            go_wp2_with fail
            go_quiet (fail)
            go_wp2_with fail
            refine (acked_nil _).mono ?_
            rintro e w11 ⟨rfl, hb11⟩
            have hB11 := (below_drewN hB10 nq).trans (hb11.mono (below_drewN hB10 nq).size)
            clear hb11 hB10
            go_wp2_with fail
            refine wp_region_cls (by kernel_rfl) (by kernel_rfl) ?_
            repeat (go_big_quiet_step ((first | (go_at_call 27; with_reducible exact Cls.call (Nat.le_refl _) (next_nil _)))))
            refine wpQuiet_nil ?_
            intro w12 hb12
            have hB12 := hB11.trans (hb12.mono hB11.size)
            clear hb12 hB11
            go_wp2_with fail
            go_roundw
            case rel => exact ⟨k + 1, by omega, by go_num, by omega, hB12⟩
            case measure => simp [intOf]; omega
      · have h50' : ¬ (k : Int) < 50 := by omega
        have h50'' : (50 : Int) ≤ (k : Int) := by omega
        go_wp2_with fail
        go_ret
        exact ⟨rfl, hB2⟩
    · go_wp2_with fail
      go_ret
      exact ⟨rfl, hB⟩

end Go.Proofs.Ytohjifbkjfnkfaa
