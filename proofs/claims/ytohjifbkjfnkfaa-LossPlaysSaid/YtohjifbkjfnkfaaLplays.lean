/-
  LossPlays: the script's walk, the ledger being there. No condition.
-/
import Derived.Test.YtohjifbkjfnkfaaLplayp
import Derived.Deep.CutBlock
namespace Go.Proofs.Ytohjifbkjfnkfaa
open Go.RowKit
set_option linter.unusedVariables false
set_option linter.unusedSimpArgs false

set_option maxHeartbeats 16000000 in
set_option maxRecDepth 100000 in
theorem plays_some (A : Option Addr) (N cap : Nat) (w : World) (hp : Ops w A N) (hnc : N ≤ cap) (hcm : cap ≤ maxLen) :
    Calls Try.prog 7 #[.bool false, .slice A N cap] w fun e w' => e = .returned (.bool true) ∧ Below w.heap.size w w' := by
  have hcm' : cap ≤ 9223372036854775807 := by unfold maxLen at hcm; omega
  clear hcm
  obtain ⟨i0, hi, hz0, hz1, hz2⟩ := info_parts infoR
  obtain ⟨j0, hj, jz0, jz1, jz2⟩ := info_parts infoQ
  have HP := Lib.hid hp
  clear hp
  go_enter Try.func7, Try.ntmps7
  go_wp2_with fail
  refine (awake_any _).mono ?_
  rintro e w1 ⟨rfl, hB⟩
  go_wp2_with fail
  refine (new_any _).mono ?_
  rintro e w2 ⟨g, rfl, hl, hB2⟩
  have hl := hl.base hB.size
  have hB := hB.trans (hB2.mono hB.size)
  have hb2 := (Below.refl w2.heap.size w2).alloc (Nat.le_refl _) (.cells #[.slice none 0 0, .int .u64 0, .int .u64 0, .bool false] 57)
  have hR := rnew (B := w.heap.size) (w := w2) (Below.refl _ _) hB.size
  have hl := hl.below hb2
  have hB := hB.trans (hb2.mono hB.size)
  obtain ⟨gx, hgxe⟩ : ∃ gx, gx = w2.heap.size := ⟨_, rfl⟩
  rw [← hgxe] at hR
  clear hB2 hb2
  go_wp2_with fail
  rw [← hgxe]
  go_loopw [38] (fun i wr => ∃ (k : Nat) (L : List Pk) (nx ak : Int) (sm : Bool) (LL : List Rp), k ≤ N ∧ i = .int .i64 k ∧ Led w.heap.size wr g L nx ak sm ∧ RLed w.heap.size wr gx LL nx ak sm ∧ Pu k L nx ak sm LL ∧ k ≤ 50 ∧ Below w.heap.size w wr) (fun i _ => N - (intOf i).toNat)
  case atStart => exact ⟨0, [], 0, 0, false, [], Nat.zero_le _, rfl, hl, hR, ⟨rfl, fun q hq => by simp at hq, Nat.le_refl _, by decide, fun _ => rfl, by decide⟩, by decide, hB⟩
  case round =>
    clear hl hR hB hgxe
    obtain ⟨k, L, nx, ak, sm, LL, hkn, rfl, hl, hRl, hPu, hk50, hB⟩ := hrel
    by_cases hlt : k < N
    · skip
      obtain ⟨b, off, o, rfl, hb, how, hcw⟩ := HP.out k hlt
      have hc := fun j hj => (hB.cell (p := ⟨b, off + (k * 9 + j), none⟩) hb).trans (hcw j hj)
      have ho := how.below hB
      clear hcw
      obtain ⟨d, ⟨pn, ps, pz, pa⟩, pg, RA, rn, rc, R, now, wait⟩ := o
      have d0 : wr.cell? ⟨b, off + k * 9, none⟩ = some (.int .u8 d) := by simpa [Oq.cells, Nat.add_assoc] using hc 0 (by decide)
      have d1 : wr.cell? ⟨b, off + k * 9 + 1, none⟩ = some (.int .u64 pn) := by simpa [Oq.cells, Nat.add_assoc] using hc 1 (by decide)
      have d2 : wr.cell? ⟨b, off + k * 9 + 2, none⟩ = some (.int .u64 ps) := by simpa [Oq.cells, Nat.add_assoc] using hc 2 (by decide)
      have d3 : wr.cell? ⟨b, off + k * 9 + 3, none⟩ = some (.int .i64 pz) := by simpa [Oq.cells, Nat.add_assoc] using hc 3 (by decide)
      have d4 : wr.cell? ⟨b, off + k * 9 + 4, none⟩ = some (.bool pa) := by simpa [Oq.cells, Nat.add_assoc] using hc 4 (by decide)
      have d5 : wr.cell? ⟨b, off + k * 9 + 5, none⟩ = some (.bool pg) := by simpa [Oq.cells, Nat.add_assoc] using hc 5 (by decide)
      have d6 : wr.cell? ⟨b, off + k * 9 + 6, none⟩ = some (.slice RA rn rc) := by simpa [Oq.cells, Nat.add_assoc] using hc 6 (by decide)
      have d7 : wr.cell? ⟨b, off + k * 9 + 7, none⟩ = some (.int .u64 now) := by simpa [Oq.cells, Nat.add_assoc] using hc 7 (by decide)
      have d8 : wr.cell? ⟨b, off + k * 9 + 8, none⟩ = some (.int .u64 wait) := by simpa [Oq.cells, Nat.add_assoc] using hc 8 (by decide)
      have hd := ho.1
      simp only at hd
      have hO := Blk.new wr 52 #[.int .u8 d, .int .u64 pn, .int .u64 ps, .int .i64 pz, .bool pa, .bool pg, .slice RA rn rc, .int .u64 now, .int .u64 wait]
      have ho2 := ho.below ((Below.refl wr.heap.size wr).alloc (Nat.le_refl _) (.cells #[.int .u8 d, .int .u64 pn, .int .u64 ps, .int .i64 pz, .bool pa, .bool pg, .slice RA rn rc, .int .u64 now, .int .u64 wait] 52))
      obtain ⟨hq1, hq2, ⟨r1, r2, r3, r4, r5⟩, hq4, hq5⟩ := ho2
      simp only at hq1 hq2 r1 r2 r3 r4 r5 hq4 hq5
      clear ho how hc
      have hLl : L.length ≤ 100000 := by have := hPu.len; omega
      have hLLl : LL.length ≤ 100000 := by have := hPu.n; omega
      have hLk := hPu.ok
      have hPu := Lib.hid hPu
      have hBo0 : Bo w.heap.size w (wr.alloc (.cells #[.int .u8 d, .int .u64 pn, .int .u64 ps, .int .i64 pz, .bool pa, .bool pg, .slice RA rn rc, .int .u64 now, .int .u64 wait] 52)) g gx wr.heap.size #[.int .u8 d, .int .u64 pn, .int .u64 ps, .int .i64 pz, .bool pa, .bool pg, .slice RA rn rc, .int .u64 now, .int .u64 wait] L nx ak sm LL nx ak sm := ⟨hl.below ((Below.refl _ _).alloc (Nat.le_refl _) _), hRl.below ((Below.refl _ _).alloc (Nat.le_refl _) _), hO, Nat.le_trans hB.size (by simp), hB.alloc hB.size _⟩
      by_cases h50 : k < 50
      · have h50' : (k : Int) < 50 := by omega
        go_upto_block 2 with (fail)
        go_cut [9, 47] (fun s9 s47 wx => ∃ (L' : List Pk) (nx' ak' : Int) (sm' : Bool) (LL' : List Rp), s9 = .bool true ∧ Bo w.heap.size w wx g gx wr.heap.size #[.int .u8 d, .int .u64 pn, .int .u64 ps, .int .i64 pz, .bool pa, .bool pg, .slice RA rn rc, .int .u64 now, .int .u64 wait] L' nx' ak' sm' LL' nx' ak' sm' ∧ Pu (k + 1) L' nx' ak' sm' LL')
        case first =>
          have o0 : World.cell? (wr.alloc (.cells #[.int .u8 d, .int .u64 pn, .int .u64 ps, .int .i64 pz, .bool pa, .bool pg, .slice RA rn rc, .int .u64 now, .int .u64 wait] 52)) ⟨wr.heap.size, 0, none⟩ = some (.int .u8 d) := hO.cell 0
          have o1 : World.cell? (wr.alloc (.cells #[.int .u8 d, .int .u64 pn, .int .u64 ps, .int .i64 pz, .bool pa, .bool pg, .slice RA rn rc, .int .u64 now, .int .u64 wait] 52)) ⟨wr.heap.size, 1, none⟩ = some (.int .u64 pn) := hO.cell 1
          have o2 : World.cell? (wr.alloc (.cells #[.int .u8 d, .int .u64 pn, .int .u64 ps, .int .i64 pz, .bool pa, .bool pg, .slice RA rn rc, .int .u64 now, .int .u64 wait] 52)) ⟨wr.heap.size, 2, none⟩ = some (.int .u64 ps) := hO.cell 2
          have o3 : World.cell? (wr.alloc (.cells #[.int .u8 d, .int .u64 pn, .int .u64 ps, .int .i64 pz, .bool pa, .bool pg, .slice RA rn rc, .int .u64 now, .int .u64 wait] 52)) ⟨wr.heap.size, 3, none⟩ = some (.int .i64 pz) := hO.cell 3
          have o4 : World.cell? (wr.alloc (.cells #[.int .u8 d, .int .u64 pn, .int .u64 ps, .int .i64 pz, .bool pa, .bool pg, .slice RA rn rc, .int .u64 now, .int .u64 wait] 52)) ⟨wr.heap.size, 4, none⟩ = some (.bool pa) := hO.cell 4
          have o5 : World.cell? (wr.alloc (.cells #[.int .u8 d, .int .u64 pn, .int .u64 ps, .int .i64 pz, .bool pa, .bool pg, .slice RA rn rc, .int .u64 now, .int .u64 wait] 52)) ⟨wr.heap.size, 5, none⟩ = some (.bool pg) := hO.cell 5
          have o6 : World.cell? (wr.alloc (.cells #[.int .u8 d, .int .u64 pn, .int .u64 ps, .int .i64 pz, .bool pa, .bool pg, .slice RA rn rc, .int .u64 now, .int .u64 wait] 52)) ⟨wr.heap.size, 6, none⟩ = some (.slice RA rn rc) := hO.cell 6
          have o7 : World.cell? (wr.alloc (.cells #[.int .u8 d, .int .u64 pn, .int .u64 ps, .int .i64 pz, .bool pa, .bool pg, .slice RA rn rc, .int .u64 now, .int .u64 wait] 52)) ⟨wr.heap.size, 7, none⟩ = some (.int .u64 now) := hO.cell 7
          have o8 : World.cell? (wr.alloc (.cells #[.int .u8 d, .int .u64 pn, .int .u64 ps, .int .i64 pz, .bool pa, .bool pg, .slice RA rn rc, .int .u64 now, .int .u64 wait] 52)) ⟨wr.heap.size, 8, none⟩ = some (.int .u64 wait) := hO.cell 8
          by_cases h3 : d % 7 = 3
          · have h3' : (d % 7 == 3) = true := by simpa using h3
            as_aux_lemma =>
              obtain ⟨m, hm⟩ : ∃ m : Nat, m = if rn < 6 then rn else 6 := ⟨_, rfl⟩
              have hm6 : m ≤ rn ∧ m ≤ 6 := by rw [hm]; split <;> omega
              have hm1 : (if (6 : Int) < (rn : Int) then 6 else (rn : Int)) = (m : Int) := by rw [hm]; split <;> split <;> omega
              have hm2 : (if (rn : Int) < 6 then (rn : Int) else 6) = (m : Int) := by rw [hm]; split <;> split <;> omega
              clear hm
              have hmc : m ≤ rc := by omega
              have hmc' : (m : Int) ≤ (rc : Int) := by omega
              have hpr := Pairs.pre' r4 hm6.1
              have hA0 : RA = none → m = 0 := fun e => by have := (r3 e).1; omega
              have hRm : (R.take m).length = m := hpr.1
              have hRo := r5.pre m
              have hbs := hB.size
              clear r3 r4 r5
              go_wp2_with (at_builtin; refine wpList_append_any _ rfl _ _ 32 rfl w.heap.size 31 i0 _ 2 16 Try.underlying32 hi hz0 hz1 hz2 rfl (by decide) (.slice (some ⟨wr.heap.size + 1, 0, none⟩) 0 0) 0 [] rfl (own_lit31 (X := (wr.alloc (.cells #[.int .u8 d, .int .u64 pn, .int .u64 ps, .int .i64 pz, .bool pa, .bool pg, .slice RA rn rc, .int .u64 now, .int .u64 wait] 52))) (by simp) (Below.refl _ _) (by simp; omega)) RA m rc (prcells (R.take m)) rfl (RdV.alloc' (prs_rdv hpr)) (prcells_one' _) (by unfold maxLen; omega) (by omega) (by simp; omega) hA0 ?_; intro v7 w7 hown7 hgrow7 hat7)
              have hown8 : w7.ownsRow w.heap.size 31 2 v7 m (prcells (R.take m)) := by simpa using hown7
              obtain ⟨A7, c7, rfl, _⟩ := sl_of_own hown8
              have hb7 : Below (wr.alloc (.cells #[.int .u8 d, .int .u64 pn, .int .u64 ps, .int .i64 pz, .bool pa, .bool pg, .slice RA rn rc, .int .u64 now, .int .u64 wait] 52)).heap.size (wr.alloc (.cells #[.int .u8 d, .int .u64 pn, .int .u64 ps, .int .i64 pz, .bool pa, .bool pg, .slice RA rn rc, .int .u64 now, .int .u64 wait] 52)) w7 := lit_grown (by simpa [Value.ownBlock] using hgrow7)
              have hBo7 := hBo0.below hb7
              have hsame : (if ackE nx (R.take m) = 0 then outR (inR (R.take m)) LL else []).map (·.1) = (if ackE nx (R.take m) = 0 then L.filter (inR (R.take m)) else []) := by split <;> simp [opn_out, hPu.out.e]
              clear hown7 hgrow7 hat7 hb7 hBo0 d0 d1 d2 d3 d4 d5 d6 d7 d8 o0 o1 o2 o3 o4 o5 o6 o7 o8 hm1 hm2
              have HS := Lib.hid hsame
              clear hsame
              go_wp2_with fail
              refine (boAck_T A7 m c7 (R.take m) hBo7 hLl hLk hown8).mono ?_
              rintro e w9 ⟨v9, L1, rfl, ho9, hL1, hBo9, hk9⟩
              have HL1 := Lib.hid hL1
              clear hL1
              go_wp2_with fail
              refine (boAck_X A7 m c7 (R.take m) hBo9 hLLl (own_keep hown8 fun g cs hb => hk9.blk hb (by decide) (by decide)) (by omega) hPu.out.a.1 hPu.out.s hRo).mono ?_
              rintro e w10 ⟨v10, LL1, rfl, ho10, hLL1, hBo10, hk10⟩
              have HLL1 := Lib.hid hLL1
              clear hLL1
              go_wp2_with fail
              refine (same_own (own_keepT ho9 hk10) ho10 (by rw [HLL1.out, HL1.out]; exact HS.out)).mono ?_
              rintro e w11 ⟨rfl, hb11⟩
              have hBo11 := hBo10.below hb11
              clear hBo10 hBo9 hBo7 ho9 ho10 hown8 hb11 hk9 hk10
              go_wp2_with fail
              go_meet
              first | exact ⟨_, _, _, _, _, rfl, hBo11, hPu.out.acked (R.take m) m hRm hRo⟩ | ((repeat apply Exists.intro); exact ⟨⟨_, _, _, _, _, rfl, hBo11, hPu.out.acked (R.take m) m hRm hRo⟩, rfl⟩)
          · have h3' : (d % 7 == 3) = false := by simpa using h3
            by_cases h4 : d % 7 = 4
            · have h4' : (d % 7 == 4) = true := by simpa using h4
              as_aux_lemma =>
                obtain ⟨m, hm⟩ : ∃ m : Nat, m = if rn < 6 then rn else 6 := ⟨_, rfl⟩
                have hm6 : m ≤ rn ∧ m ≤ 6 := by rw [hm]; split <;> omega
                have hm1 : (if (6 : Int) < (rn : Int) then 6 else (rn : Int)) = (m : Int) := by rw [hm]; split <;> split <;> omega
                have hm2 : (if (rn : Int) < 6 then (rn : Int) else 6) = (m : Int) := by rw [hm]; split <;> split <;> omega
                clear hm
                have hmc : m ≤ rc := by omega
                have hmc' : (m : Int) ≤ (rc : Int) := by omega
                have hpr := Pairs.pre' r4 hm6.1
                have hA0 : RA = none → m = 0 := fun e => by have := (r3 e).1; omega
                have hRm : (R.take m).length = m := hpr.1
                have hRo := r5.pre m
                have hbs := hB.size
                clear r3 r4 r5
                go_wp2_with (at_builtin; refine wpList_append_any _ rfl _ _ 32 rfl w.heap.size 31 i0 _ 2 16 Try.underlying32 hi hz0 hz1 hz2 rfl (by decide) (.slice (some ⟨wr.heap.size + 1, 0, none⟩) 0 0) 0 [] rfl (own_lit31 (X := (wr.alloc (.cells #[.int .u8 d, .int .u64 pn, .int .u64 ps, .int .i64 pz, .bool pa, .bool pg, .slice RA rn rc, .int .u64 now, .int .u64 wait] 52))) (by simp) (Below.refl _ _) (by simp; omega)) RA m rc (prcells (R.take m)) rfl (RdV.alloc' (prs_rdv hpr)) (prcells_one' _) (by unfold maxLen; omega) (by omega) (by simp; omega) hA0 ?_; intro v7 w7 hown7 hgrow7 hat7)
                have hown8 : w7.ownsRow w.heap.size 31 2 v7 m (prcells (R.take m)) := by simpa using hown7
                obtain ⟨A7, c7, rfl, _⟩ := sl_of_own hown8
                have hb7 : Below (wr.alloc (.cells #[.int .u8 d, .int .u64 pn, .int .u64 ps, .int .i64 pz, .bool pa, .bool pg, .slice RA rn rc, .int .u64 now, .int .u64 wait] 52)).heap.size (wr.alloc (.cells #[.int .u8 d, .int .u64 pn, .int .u64 ps, .int .i64 pz, .bool pa, .bool pg, .slice RA rn rc, .int .u64 now, .int .u64 wait] 52)) w7 := lit_grown (by simpa [Value.ownBlock] using hgrow7)
                have hBo7 := hBo0.below hb7
                have hsame : (if ackE nx (R.take m) = 0 then outR (inR (R.take m)) LL else []).map (·.1) = (if ackE nx (R.take m) = 0 then L.filter (inR (R.take m)) else []) := by split <;> simp [opn_out, hPu.out.e]
                clear hown7 hgrow7 hat7 hb7 hBo0 d0 d1 d2 d3 d4 d5 d6 d7 d8 o0 o1 o2 o3 o4 o5 o6 o7 o8 hm1 hm2
                have HS := Lib.hid hsame
                clear hsame
                go_wp2_with fail
                refine (boAck_T A7 m c7 (R.take m) hBo7 hLl hLk hown8).mono ?_
                rintro e w9 ⟨v9, L1, rfl, ho9, hL1, hBo9, hk9⟩
                have HL1 := Lib.hid hL1
                clear hL1
                go_wp2_with fail
                refine (boAck_X A7 m c7 (R.take m) hBo9 hLLl (own_keep hown8 fun g cs hb => hk9.blk hb (by decide) (by decide)) (by omega) hPu.out.a.1 hPu.out.s hRo).mono ?_
                rintro e w10 ⟨v10, LL1, rfl, ho10, hLL1, hBo10, hk10⟩
                have HLL1 := Lib.hid hLL1
                clear hLL1
                go_wp2_with fail
                refine (same_own (own_keepT ho9 hk10) ho10 (by rw [HLL1.out, HL1.out]; exact HS.out)).mono ?_
                rintro e w11 ⟨rfl, hb11⟩
                have hBo11 := hBo10.below hb11
                clear hBo10 hBo9 hBo7 ho9 ho10 hown8 hb11 hk9 hk10
                go_wp2_with fail
                go_meet
                first | exact ⟨_, _, _, _, _, rfl, hBo11, hPu.out.acked (R.take m) m hRm hRo⟩ | ((repeat apply Exists.intro); exact ⟨⟨_, _, _, _, _, rfl, hBo11, hPu.out.acked (R.take m) m hRm hRo⟩, rfl⟩)
            · have h4' : (d % 7 == 4) = false := by simpa using h4
              by_cases h5 : d % 7 = 5
              · have h5' : (d % 7 == 5) = true := by simpa using h5
                as_aux_lemma =>
                  have hnow : 0 ≤ now ∧ now ≤ 18446744073709551615 := hq4
                  have hsame : (outR (lostF sm ak now wait) LL).map (·.1) = L.filter (lostF sm ak now wait) := by rw [opn_out, hPu.out.e]
                  have HS := Lib.hid hsame
                  clear hsame
                  have hak := hPu.out.a
                  have hLLk := hPu.out.q
                  go_wp2_with fail
                  go_region_held3 (fun w' => w'.cell? ⟨wr.heap.size, 7, none⟩ = some (.int .u64 now) ∧ w'.cell? ⟨wr.heap.size, 8, none⟩ = some (.int .u64 wait)) (first | with_reducible exact ⟨o7, o8⟩ | with_reducible exact ⟨t7, t8⟩ | with_reducible exact ⟨x7, x8⟩ | with_reducible exact ⟨s7, s8⟩ | exact ⟨t7, t8⟩ | exact ⟨x7, x8⟩ | exact ⟨s7, s8⟩ | exact ⟨o7, o8⟩)
                    (first
                      | (go_at_call 11; (first | (with_reducible refine (boLost_T now wait hBo0 hLl hLk hnow).mono ?_) | (with_reducible refine (boLost_T now wait hBo0.drew hLl hLk hnow).mono ?_) | (with_reducible refine (boLost_T now wait hS2 hLl hLk hnow).mono ?_) | (with_reducible refine (boLost_T now wait hS2.drew hLl hLk hnow).mono ?_)); rintro e wT ⟨vT, rfl, hoT, hS1, hkT⟩; have t7 : wT.cell? ⟨wr.heap.size, 7, none⟩ = some (.int .u64 now) := hS1.o.cell 7; have t8 : wT.cell? ⟨wr.heap.size, 8, none⟩ = some (.int .u64 wait) := hS1.o.cell 8)
                      | (go_at_call 19; (first | (with_reducible refine (boLost_X now wait hBo0 hLLl hLLk hak hnow).mono ?_) | (with_reducible refine (boLost_X now wait hBo0.drew hLLl hLLk hak hnow).mono ?_) | (with_reducible refine (boLost_X now wait hS1 hLLl hLLk hak hnow).mono ?_) | (with_reducible refine (boLost_X now wait hS1.drew hLLl hLLk hak hnow).mono ?_)); rintro e wX ⟨vX, rfl, hoX, hS2, hkX⟩; have x7 : wX.cell? ⟨wr.heap.size, 7, none⟩ = some (.int .u64 now) := hS2.o.cell 7; have x8 : wX.cell? ⟨wr.heap.size, 8, none⟩ = some (.int .u64 wait) := hS2.o.cell 8)
                      | (go_at_call 18; (first | (with_reducible refine (same_own (own_keepT hoT hkX) hoX HS.out).mono ?_) | (with_reducible refine (same_own hoT (own_keepX hoX hkT) HS.out).mono ?_) | (with_reducible refine (same_ownD (own_keepT hoT hkX.drew) hoX HS.out).mono ?_) | (with_reducible refine (same_ownD (own_keepT hoT hkX) hoX HS.out).mono ?_) | (with_reducible refine (same_ownD hoT (own_keepX hoX hkT) HS.out).mono ?_) | (with_reducible refine (same_own (own_keepT hoT (KeepR.pre hkX)) hoX HS.out).mono ?_) | (with_reducible refine (same_own hoT (own_keepX hoX (KeepL.pre hkT)) HS.out).mono ?_) | (with_reducible refine (same_ownD (own_keepT hoT (KeepR.pre hkX)) hoX HS.out).mono ?_) | (with_reducible refine (same_ownD hoT (own_keepX hoX (KeepL.pre hkT)) HS.out).mono ?_)); rintro e wS ⟨rfl, hbS⟩; (first | have hS3 := hS2.below hbS | have hS3 := hS1.below hbS | have hS3 := hS2.drew.below hbS | have hS3 := hS1.drew.below hbS); have s7 : wS.cell? ⟨wr.heap.size, 7, none⟩ = some (.int .u64 now) := hS3.o.cell 7; have s8 : wS.cell? ⟨wr.heap.size, 8, none⟩ = some (.int .u64 wait) := hS3.o.cell 8))
                  all_goals
                    go_wp2_with fail
                    go_meet
                    first | exact ⟨_, _, _, _, _, rfl, hS3, (hPu.out.gone (lostF sm ak now wait)).mono⟩ | ((repeat apply Exists.intro); exact ⟨⟨_, _, _, _, _, rfl, hS3, (hPu.out.gone (lostF sm ak now wait)).mono⟩, rfl⟩)
              · have h5' : (d % 7 == 5) = false := by simpa using h5
                by_cases h6 : d % 7 = 6
                · have h6' : (d % 7 == 6) = true := by simpa using h6
                  as_aux_lemma =>
                    have hsame : (outR (fun _ => true) LL).map (·.1) = L.filter (fun _ => true) := by rw [opn_out, hPu.out.e]
                    have HS := Lib.hid hsame
                    clear hsame
                    go_wp2_with fail
                    refine (boClear_T hBo0 hLl hLk).mono ?_
                    rintro e w9 ⟨v9, rfl, ho9, hBo9, hk9⟩
                    clear o0 o1 o2 o3 o4 o5 o6 o7 o8 d0 d1 d2 d3 d4 d5 d6 d7 d8
                    go_wp2_with fail
                    refine (boClear_X hBo9 hLLl).mono ?_
                    rintro e w10 ⟨v10, rfl, ho10, hBo10, hk10⟩
                    go_wp2_with fail
                    refine (same_own (own_keepT ho9 hk10) ho10 HS.out).mono ?_
                    rintro e w11 ⟨rfl, hb11⟩
                    have hBo11 := hBo10.below hb11
                    clear hBo10 hBo9 hBo0 ho9 ho10 hb11 hk9 hk10
                    go_wp2_with fail
                    go_meet
                    first | exact ⟨_, _, _, _, _, rfl, hBo11, (hPu.out.gone (fun _ => true)).mono⟩ | ((repeat apply Exists.intro); exact ⟨⟨_, _, _, _, _, rfl, hBo11, (hPu.out.gone (fun _ => true)).mono⟩, rfl⟩)
                · have h6' : (d % 7 == 6) = false := by simpa using h6
                  as_aux_lemma =>
                    go_wp2_with fail
                    obtain ⟨wz, hwz⟩ : ∃ wz, wz = World.alloc (wr.alloc (.cells #[.int .u8 d, .int .u64 pn, .int .u64 ps, .int .i64 pz, .bool pa, .bool pg, .slice RA rn rc, .int .u64 now, .int .u64 wait] 52)) (.cells #[.int .u64 pn, .int .u64 ps, .int .i64 pz, .bool pa, .bool false] 50) := ⟨_, rfl⟩
                    have hPb : Blk wz (wr.heap.size + 1) 50 #[.int .u64 pn, .int .u64 ps, .int .i64 pz, .bool pa, .bool false] := by rw [hwz]; exact blk_new_at (w := (wr.alloc (.cells #[.int .u8 d, .int .u64 pn, .int .u64 ps, .int .i64 pz, .bool pa, .bool pg, .slice RA rn rc, .int .u64 now, .int .u64 wait] 52))) (n := wr.heap.size + 1) (t := 50) (by simp)
                    have hbz : Below (wr.alloc (.cells #[.int .u8 d, .int .u64 pn, .int .u64 ps, .int .i64 pz, .bool pa, .bool pg, .slice RA rn rc, .int .u64 now, .int .u64 wait] 52)).heap.size (wr.alloc (.cells #[.int .u8 d, .int .u64 pn, .int .u64 ps, .int .i64 pz, .bool pa, .bool pg, .slice RA rn rc, .int .u64 now, .int .u64 wait] 52)) wz := by rw [hwz]; exact (Below.refl _ _).alloc (Nat.le_refl _) _
                    have hBz := hBo0.below hbz
                    rw [← hwz]
                    clear hwz
                    have hgx : wr.heap.size + 1 ≠ gx := by have := hBo0.r.lt; have := hRl.lt; omega
                    clear hbz hBo0 o0 o1 o2 o3 o4 o5 o6 o7 o8 d0 d1 d2 d3 d4 d5 d6 d7 d8
                    have pb0 : wz.cell? ⟨wr.heap.size + 1, 0, none⟩ = some (.int .u64 pn) := hPb.cell 0; have pb1 : wz.cell? ⟨wr.heap.size + 1, 1, none⟩ = some (.int .u64 ps) := hPb.cell 1; have pb2 : wz.cell? ⟨wr.heap.size + 1, 2, none⟩ = some (.int .i64 pz) := hPb.cell 2; have pb3 : wz.cell? ⟨wr.heap.size + 1, 3, none⟩ = some (.bool pa) := hPb.cell 3; have pb4 : wz.cell? ⟨wr.heap.size + 1, 4, none⟩ = some (.bool false) := hPb.cell 4
                    go_region_held3 (fun w' => w'.cell? ⟨wr.heap.size + 1, 0, none⟩ = some (.int .u64 pn) ∧ w'.cell? ⟨wr.heap.size + 1, 1, none⟩ = some (.int .u64 ps) ∧ w'.cell? ⟨wr.heap.size + 1, 2, none⟩ = some (.int .i64 pz) ∧ w'.cell? ⟨wr.heap.size + 1, 3, none⟩ = some (.bool pa) ∧ w'.cell? ⟨wr.heap.size + 1, 4, none⟩ = some (.bool false)) (first | with_reducible exact ⟨pb0, pb1, pb2, pb3, pb4⟩ | with_reducible exact ⟨pt0, pt1, pt2, pt3, pt4⟩ | with_reducible exact ⟨px0, px1, px2, px3, px4⟩ | exact ⟨pt0, pt1, pt2, pt3, pt4⟩ | exact ⟨px0, px1, px2, px3, px4⟩ | exact ⟨pb0, pb1, pb2, pb3, pb4⟩)
                      (first
                        | (go_at_call 13; (first | (with_reducible refine (boSend_T ⟨pn, ps, pz, pa⟩ hBz hLl hq2).mono ?_) | (with_reducible refine (boSend_T ⟨pn, ps, pz, pa⟩ hBz.drew hLl hq2).mono ?_) | (with_reducible refine (boSend_T ⟨pn, ps, pz, pa⟩ hS2 hLl hq2).mono ?_) | (with_reducible refine (boSend_T ⟨pn, ps, pz, pa⟩ hS2.drew hLl hq2).mono ?_)); rintro e wT ⟨rfl, hS1, hq⟩; (first | have hP1 := hq _ _ hPb hgx | have hP1 := hq _ _ hP2 hgx | have hP1 := hq _ _ hPb.drew hgx | have hP1 := hq _ _ hP2.drew hgx); have pt0 : wT.cell? ⟨wr.heap.size + 1, 0, none⟩ = some (.int .u64 pn) := hP1.cell 0; have pt1 : wT.cell? ⟨wr.heap.size + 1, 1, none⟩ = some (.int .u64 ps) := hP1.cell 1; have pt2 : wT.cell? ⟨wr.heap.size + 1, 2, none⟩ = some (.int .i64 pz) := hP1.cell 2; have pt3 : wT.cell? ⟨wr.heap.size + 1, 3, none⟩ = some (.bool pa) := hP1.cell 3; have pt4 : wT.cell? ⟨wr.heap.size + 1, 4, none⟩ = some (.bool false) := hP1.cell 4)
                        | (go_at_call 21; (first | (with_reducible refine (boSend_X ⟨pn, ps, pz, pa⟩ hBz hLLl hq2).mono ?_) | (with_reducible refine (boSend_X ⟨pn, ps, pz, pa⟩ hBz.drew hLLl hq2).mono ?_) | (with_reducible refine (boSend_X ⟨pn, ps, pz, pa⟩ hS1 hLLl hq2).mono ?_) | (with_reducible refine (boSend_X ⟨pn, ps, pz, pa⟩ hS1.drew hLLl hq2).mono ?_)); rintro e wX ⟨rfl, hS2, hq⟩; (first | have hP2 := hq _ _ hPb hgx | have hP2 := hq _ _ hP1 hgx | have hP2 := hq _ _ hPb.drew hgx | have hP2 := hq _ _ hP1.drew hgx); have px0 : wX.cell? ⟨wr.heap.size + 1, 0, none⟩ = some (.int .u64 pn) := hP2.cell 0; have px1 : wX.cell? ⟨wr.heap.size + 1, 1, none⟩ = some (.int .u64 ps) := hP2.cell 1; have px2 : wX.cell? ⟨wr.heap.size + 1, 2, none⟩ = some (.int .i64 pz) := hP2.cell 2; have px3 : wX.cell? ⟨wr.heap.size + 1, 3, none⟩ = some (.bool pa) := hP2.cell 3; have px4 : wX.cell? ⟨wr.heap.size + 1, 4, none⟩ = some (.bool false) := hP2.cell 4))
                    all_goals
                      go_wp2_with fail
                      go_meet
                      first | exact ⟨_, _, _, _, _, rfl, hS2, hPu.out.sent ⟨pn, ps, pz, pa⟩ hq2⟩ | exact ⟨_, _, _, _, _, rfl, hS1, hPu.out.sent ⟨pn, ps, pz, pa⟩ hq2⟩ | exact ⟨_, _, _, _, _, rfl, hS2.drew, hPu.out.sent ⟨pn, ps, pz, pa⟩ hq2⟩ | exact ⟨_, _, _, _, _, rfl, hS1.drew, hPu.out.sent ⟨pn, ps, pz, pa⟩ hq2⟩
        case rest =>
          clear hPu hBo0 hO hl hRl d0 d1 d2 d3 d4 d5 d6 d7 d8 hLk hLl hLLl r1 r2 r3 r4 r5 hq1 hq2 hq4 hd hB h50
          obtain ⟨L', nx', ak', sm', LL', rfl, hBo, hPu⟩ := hcut
          obtain ⟨ob, hob⟩ : ∃ ob, ob = wr.heap.size := ⟨_, rfl⟩
          rw [← hob] at hBo ⊢
          clear hob
          have hLl : L'.length ≤ 100000 := by have := hPu.len; omega
          have hLLl : LL'.length ≤ 100000 := by have := hPu.n; omega
          have hLk := hPu.ok
          have hek := hPu.e
          have HE := Lib.hid hek
          clear hek
          have hPu := Lib.hid hPu
          have hw1 : 0 ≤ wait ∧ wait ≤ 18446744073709551615 := hq5
          go_wp2_with fail
          refine (openR_any w.heap.size gx LL' nx' ak' sm' _ hBo.r hLLl).mono ?_
          rintro e w3 ⟨v3, rfl, ho3, hb3⟩
          have hBo3 := hBo.below hb3
          have ho3 := own_base ho3 hBo.s
          clear hBo hb3
          have o8 : w3.cell? ⟨ob, 8, none⟩ = some (.int .u64 wait) := hBo3.o.cell 8
          go_wp2_with fail
          refine (due_any w.heap.size g L' nx' ak' sm' wait _ hBo3.p hLk hw1.1).mono ?_
          rintro e w4 ⟨rfl, hb4⟩
          have hBo4 := hBo3.below hb4
          have ho4 := own_same ho3 hb4
          clear hBo3 hb4 ho3 o8
          have o8 : w4.cell? ⟨ob, 8, none⟩ = some (.int .u64 wait) := hBo4.o.cell 8
          go_wp2_with fail
          refine (dueR_any w.heap.size gx LL' nx' ak' sm' wait _ hBo4.r hLLl (by rw [HE.out]; exact hLk) hw1.1).mono ?_
          rintro e w5 ⟨rfl, hb5⟩
          rw [HE.out]
          have hBo5 := hBo4.below hb5
          have ho5 := own_same ho4 hb5
          clear hBo4 hb5 ho4 o8
          go_wp2_with fail
          refine (openP w.heap.size g L' nx' ak' sm' _ hBo5.p hLl).mono ?_
          rintro e w6 ⟨v6, rfl, ho6, hb6⟩
          have hBo6 := hBo5.below hb6
          have ho5 := own_same ho5 hb6
          clear hBo5 hb6
          go_wp2_with fail
          refine (same_own ho6 ho5 (by rw [opR_opn, HE.out])).mono ?_
          rintro e w7 ⟨rfl, hb7⟩
          have hBo7 := hBo6.below hb7
          have ho5 := own_same ho5 hb7
          clear hBo6 hb7 ho6
          obtain ⟨Ao, co, rfl, _, hno, hco, hrp⟩ := rps_of_own ho5
          have hco' : co ≤ 9223372036854775807 := by unfold maxLen at hco; omega
          clear ho5
          have hfl : (opR LL').length ≤ 100000 := by have := opR_len LL' LL'.length; rw [List.take_length] at this; omega
          have hfst : (opR LL').map (·.1) = L' := by rw [opR_opn, HE.out]
          obtain ⟨F, hF⟩ : ∃ F, F = opR LL' := ⟨_, rfl⟩
          rw [← hF] at hrp hno hfl hfst ⊢
          clear hF
          have HF := Lib.hid hfst
          clear hfst
          have HR := Lib.hid hrp
          clear hrp
          have hsz7 := hBo7.s
          go_wp2_with fail
          go_loopw [21, 157] (fun s21 i wy => ∃ (av : Value) (j : Nat), av = s21 ∧ j ≤ F.length ∧ i = .int .i64 j ∧ wy.ownsRow w7.heap.size 50 5 av (askR (F.take j)).length (rcells (askR (F.take j))) ∧ Below w7.heap.size w7 wy) (fun _ i _ => F.length - (intOf i).toNat)
          case atStart => exact ⟨_, 0, rfl, Nat.zero_le _, rfl, World.ownsRow_nil _ _ _ _, Below.refl _ _⟩
          case round =>
            obtain ⟨av, j, rfl, hjn, rfl, hO, hB8⟩ := hrel
            skip
            have hjl : (askR (F.take j)).length ≤ 100000 := by have := List.length_filter_le (fun q : Rp => q.1.asks) (F.take j); have := List.length_take_le j F; unfold askR; omega
            by_cases hlt2 : j < F.length
            · skip
              obtain ⟨b2, off2, rfl, hb2, c0, c1, c2, c3, c4⟩ := (HR.out.below hB8).2 j hlt2
              have T1 := Lib.hid (askR_take F j hlt2)
              obtain ⟨q, hq⟩ : ∃ q, q = F.getD j rp0 := ⟨_, rfl⟩
              rw [← hq] at c0 c1 c2 c3 c4 T1
              clear hq
              obtain ⟨F1, hF1⟩ : ∃ F1, F1 = askR (F.take j) := ⟨_, rfl⟩
              rw [← hF1] at hO T1 hjl
              clear hF1
              obtain ⟨⟨qn, qs, qz, qa⟩, r⟩ := q
              simp only at c0 c1 c2 c3 c4
              have hB9 := hB8.alloc hB8.size (.cells #[.int .u64 qn, .int .u64 qs, .int .i64 qz, .bool qa, .bool r] 50)
              have hO1 := hO.alloc (.cells #[.int .u64 qn, .int .u64 qs, .int .i64 qz, .bool qa, .bool r] 50)
              have hsz8 := hB8.size
              cases qa
              · replace T1 : Hid (askR (F.take (j + 1)) = F1) := Lib.hid (by simpa using T1.out)
                go_wp2_with fail
                clear c0 c1 c2 c3 c4 hO hB8
                go_roundw
                case rel => exact ⟨_, j + 1, rfl, by omega, by go_num, by rw [T1.out]; exact hO1, hB9⟩
                case measure => simp [intOf]; omega
              · replace T1 : Hid (askR (F.take (j + 1)) = F1 ++ [(⟨qn, qs, qz, true⟩, r)]) := Lib.hid (by simpa using T1.out)
                go_wp2_with (at_builtin; refine wpList_append_any _ rfl _ _ 55 rfl w7.heap.size 50 j0 _ 5 32 Try.underlying55 hj jz0 jz1 jz2 rfl (by decide) av F1.length _ rfl (hO1.alloc _) (some ⟨wr.heap.size + 1, 0, none⟩) 1 1 (rpC (⟨qn, qs, qz, true⟩, r)) rfl (rp_rdv _ ⟨qn, qs, qz, true⟩ r (blk_new_at (by simp))) (rpC_one _) (by unfold maxLen; omega) (by omega) (by have := hB9.size; simp at this ⊢; omega) (by simp) ?_; intro v14 w14 hown14 hgrow14 hat14)
                have hB10 := hB9.alloc hB9.size (.cells #[.int .u64 qn, .int .u64 qs, .int .i64 qz, .bool true, .bool r] 50)
                have hB11 := hB10.grown hgrow14 hB10.size (fun b hb => by have := (hO1.lt b hb).1; exact (by omega))
                clear c0 c1 c2 c3 c4 hO hO1 hB8 hB9 hB10 hgrow14 hat14
                go_roundw
                case rel => exact ⟨_, j + 1, rfl, by omega, by go_num, by rw [T1.out, rcells_append]; simpa [rcells] using hown14, hB11⟩
                case measure => simp [intOf]; omega
            · skip
              have htk : F.take j = F := List.take_of_length_le (by omega)
              rw [htk] at hO hjl
              clear htk
              have hBo8 := hBo7.below hB8
              have hfa := askR_fst F
              rw [HF.out] at hfa
              obtain ⟨AA, hAA⟩ : ∃ AA, AA = askR F := ⟨_, rfl⟩
              rw [← hAA] at hO hjl hfa
              clear hAA hB8 hBo7
              obtain ⟨Aa, ca, rfl, _, hna, hca, hra⟩ := rps_of_own hO
              clear hO
              have hca' : ca ≤ 9223372036854775807 := by unfold maxLen at hca; omega
              obtain ⟨wd, hwd⟩ : ∃ wd, wd = wr := ⟨_, rfl⟩
              subst hwd
              go_wp2_with fail
              refine (firstP w.heap.size g L' nx' ak' sm' _ hBo8.p).mono ?_
              rintro e w15 ⟨rfl, hb15⟩
              have hBo9 := hBo8.below hb15
              have hra := hra.below hb15
              clear hBo8 hb15
              rw [← hfa]
              rcases AA with _ | ⟨q, AA⟩
              · as_aux_lemma =>
                  skip
                  simp only [List.map_nil, List.head?_nil, Option.getD_none, List.isEmpty_nil, Bool.not_true]
                  unfold Pk.agg pk0
                  have hBoA := hBo9.below ((Below.refl _ _).alloc (Nat.le_refl _) (.cells #[.int .u64 0, .int .u64 0, .int .i64 0, .bool false] 36))
                  go_wp2_with fail
                  refine (lastP w.heap.size g L' nx' ak' sm' _ hBoA.p).mono ?_
                  rintro e w16 ⟨rfl, rfl⟩
                  rw [← hfa]
                  simp only [List.map_nil, List.getLast?_nil, Option.getD_none, List.isEmpty_nil, Bool.not_true]
                  unfold pk0
                  go_wp2_with fail
                  go_quiet (fail)
                  go_wp2_with fail
                  have hBoE := hBoA.drewN nq
                  refine (ackedP w.heap.size g L' nx' ak' sm' _ hBoE.p).mono ?_
                  rintro e w20 ⟨rfl, m20, rfl⟩
                  have hBoF := hBoE.drewN m20
                  clear hBoE
                  go_wp2_with fail
                  refine wp_world (fun wv => Bo w.heap.size w wv g gx ob #[.int .u8 d, .int .u64 pn, .int .u64 ps, .int .i64 pz, .bool pa, .bool pg, .slice RA rn rc, .int .u64 now, .int .u64 wait] L' nx' ak' sm' LL' nx' ak' sm') (by first | exact hBoF | simpa using hBoF) ?_
                  clear hBoF
                  rintro wv hBoF
                  have x1 := hBoF.r.c1
                  have x2 := hBoF.r.c2
                  have x3 := hBoF.r.c3
                  cases sm'
                  all_goals
                    go_quiet ((go_at_call 27; first | with_reducible exact quiet_one (nextP w.heap.size g L' nx' ak' _ _ (hBoF.p.drew _)) | with_reducible exact quiet_add (nextP w.heap.size g L' nx' ak' _ _ (hBoF.p.drew _))))
                    go_wp2_with fail
                    go_roundw
                    case rel => exact ⟨k + 1, L', nx', ak', _, LL', by omega, by go_num, hBoF.p.drew _, (hBoF.drewN _).r, hPu.out, by omega, (hBoF.drewN _).b⟩
                    case measure => simp [intOf]; omega
              · as_aux_lemma =>
                  simp only [List.map_cons, List.head?_cons, Option.getD_some, List.isEmpty_cons, Bool.not_false]
                  obtain ⟨⟨qn, qs, qz, qa⟩, qr⟩ := q
                  unfold Pk.agg
                  have hBoA := hBo9.below ((Below.refl _ _).alloc (Nat.le_refl _) (.cells #[.int .u64 qn, .int .u64 qs, .int .i64 qz, .bool qa] 36))
                  have hraA := hra.below ((Below.refl _ _).alloc (Nat.le_refl _) (.cells #[.int .u64 qn, .int .u64 qs, .int .i64 qz, .bool qa] 36))
                  have hFb := Blk.new w15 36 #[.int .u64 qn, .int .u64 qs, .int .i64 qz, .bool qa]
                  go_wp2_with fail
                  refine (lastP w.heap.size g L' nx' ak' sm' _ hBoA.p).mono ?_
                  rintro e w16 ⟨rfl, hw16⟩
                  have hBoA : Bo w.heap.size w w16 _ _ _ _ _ _ _ _ _ _ _ _ := hw16 ▸ hBoA
                  have hraA : Rps w16 _ _ _ := hw16 ▸ hraA
                  have hFb : Blk w16 _ 36 _ := hw16 ▸ hFb
                  clear hw16 hBo9 hra
                  rw [← hfa]
                  have hlast := last_fst (⟨qn, qs, qz, qa⟩, qr) AA
                  simp only [List.map_cons] at hlast
                  simp only [List.map_cons, List.isEmpty_cons, Bool.not_false]
                  rw [hlast]
                  obtain ⟨nA, hnA⟩ : ∃ nA, nA = AA.length := ⟨_, rfl⟩
                  simp only [List.length_cons] at hna hca hraA hjl ⊢
                  rw [← hnA] at hna hraA hjl hlast ⊢
                  have hr1 := hraA
                  obtain ⟨ba, oa, hAa, hba, q0, q1, q2, q3, q4⟩ := hraA.2 nA (by omega)
                  subst hAa
                  obtain ⟨ls, hls⟩ : ∃ ls, ls = (((⟨qn, qs, qz, qa⟩, qr) :: AA).getD nA rp0).1.sent := ⟨_, rfl⟩
                  rw [← hls] at q1 ⊢
                  clear hls hlast q0 q2 q3 q4
                  have f0 : w16.cell? ⟨w15.heap.size, 0, none⟩ = some (.int .u64 qn) := hFb.cell 0
                  have f1 : w16.cell? ⟨w15.heap.size, 1, none⟩ = some (.int .u64 qs) := hFb.cell 1
                  have f2 : w16.cell? ⟨w15.heap.size, 2, none⟩ = some (.int .i64 qz) := hFb.cell 2
                  have f3 : w16.cell? ⟨w15.heap.size, 3, none⟩ = some (.bool qa) := hFb.cell 3
                  obtain ⟨fb, hfb⟩ : ∃ fb, fb = w15.heap.size := ⟨_, rfl⟩
                  rw [← hfb] at hFb f0 f1 f2 f3 ⊢
                  clear hfb hfa
                  obtain ⟨nB, hnB⟩ : ∃ nB, nB = nA + 1 := ⟨_, rfl⟩
                  rw [← hnB] at hna hr1 ⊢
                  have hsub : IntKind.i64.wrap ((nB : Int) - 1) = (nA : Int) := (Go.IntWalk.i64_in _ (by omega)).trans (by omega)
                  have hsub2 : nA < nB := by omega
                  have hsub4 : decide (nA < nB) = true := by simpa using hsub2
                  have hsub5 : (nA : Int) < (nB : Int) := by omega
                  have hsub6 : decide ((nA : Int) < (nB : Int)) = true := by simpa using hsub2
                  have hsub3 : (1 : Int) ≤ (nB : Int) := by omega
                  have hc1 : (1 : Int) ≤ (ca : Int) := by omega
                  have hc2 : (nB : Int) ≤ (ca : Int) := by omega
                  have hgt : decide ((0 : Int) < (nB : Int)) = true := by simp; omega
                  have hgt2 : decide (0 < nB) = true := by simp; omega
                  clear hraA hnA hnB
                  go_wp2_with fail
                  skip
                  go_region_held3 (fun w' => w'.cell? ⟨fb, 0, none⟩ = some (.int .u64 qn) ∧ w'.cell? ⟨fb, 1, none⟩ = some (.int .u64 qs) ∧ w'.cell? ⟨fb, 2, none⟩ = some (.int .i64 qz) ∧ w'.cell? ⟨fb, 3, none⟩ = some (.bool qa) ∧ w'.cell? ⟨ba, oa + nA * 5 + 1, none⟩ = some (.int .u64 ls)) (first | with_reducible exact ⟨f0, f1, f2, f3, q1⟩ | with_reducible exact ⟨g0, g1, g2, g3, g4⟩ | exact ⟨g0, g1, g2, g3, g4⟩ | exact ⟨f0, f1, f2, f3, q1⟩ | exact ⟨keepB_cell f0 _ (by (repeat (first | with_reducible exact Below.refl _ _ | with_reducible assumption | with_reducible refine keepB_drew ?_ | with_reducible refine keepB_drewN ?_ _ | with_reducible refine keepB_alloc ?_ _))), keepB_cell f1 _ (by (repeat (first | with_reducible exact Below.refl _ _ | with_reducible assumption | with_reducible refine keepB_drew ?_ | with_reducible refine keepB_drewN ?_ _ | with_reducible refine keepB_alloc ?_ _))), keepB_cell f2 _ (by (repeat (first | with_reducible exact Below.refl _ _ | with_reducible assumption | with_reducible refine keepB_drew ?_ | with_reducible refine keepB_drewN ?_ _ | with_reducible refine keepB_alloc ?_ _))), keepB_cell f3 _ (by (repeat (first | with_reducible exact Below.refl _ _ | with_reducible assumption | with_reducible refine keepB_drew ?_ | with_reducible refine keepB_drewN ?_ _ | with_reducible refine keepB_alloc ?_ _))), keepB_cell q1 _ (by (repeat (first | with_reducible exact Below.refl _ _ | with_reducible assumption | with_reducible refine keepB_drew ?_ | with_reducible refine keepB_drewN ?_ _ | with_reducible refine keepB_alloc ?_ _)))⟩)
                    (first | (go_at_call 18; (first | (with_reducible refine (same_one (q := (⟨qn, qs, qz, qa⟩, qr)) (Blk.same (blk_new_at (w := w16) rfl) (by (repeat (first | with_reducible exact Below.refl _ _ | with_reducible assumption | with_reducible refine keepB_drew ?_ | with_reducible refine keepB_drewN ?_ _ | with_reducible refine keepB_alloc ?_ _)))) (hr1.below (by (repeat (first | with_reducible exact Below.refl _ _ | with_reducible assumption | with_reducible refine keepB_drew ?_ | with_reducible refine keepB_drewN ?_ _ | with_reducible refine keepB_alloc ?_ _)))) hna hca).mono ?_) | (with_reducible refine (same_one (q := (⟨qn, qs, qz, qa⟩, qr)) (Blk.same (blk_new_at (w := w16.drew) rfl) (by (repeat (first | with_reducible exact Below.refl _ _ | with_reducible assumption | with_reducible refine keepB_drew ?_ | with_reducible refine keepB_drewN ?_ _ | with_reducible refine keepB_alloc ?_ _)))) (hr1.below (by (repeat (first | with_reducible exact Below.refl _ _ | with_reducible assumption | with_reducible refine keepB_drew ?_ | with_reducible refine keepB_drewN ?_ _ | with_reducible refine keepB_alloc ?_ _)))) hna hca).mono ?_)); rintro e wS ⟨rfl, hbS⟩; have hBS : Below w16.heap.size w16 wS := keepB_call (by (repeat (first | with_reducible exact Below.refl _ _ | with_reducible assumption | with_reducible refine keepB_drew ?_ | with_reducible refine keepB_drewN ?_ _ | with_reducible refine keepB_alloc ?_ _))) hbS; have g0 := (hFb.same hBS).cell 0; have g1 := (hFb.same hBS).cell 1; have g2 := (hFb.same hBS).cell 2; have g3 := (hFb.same hBS).cell 3; have g4 := keepB_cell q1 _ hBS))
                  all_goals
                    have hBoE := hBoA.below hBS
                    clear hBoA hBS f0 f1 f2 f3 q1 g0 g1 g2 g3 g4 hbS hFb hr1 hsub hsub2 hsub3 hsub4 hsub5 hsub6 hgt hgt2
                    go_wp2_with fail
                    refine (ackedP w.heap.size g L' nx' ak' sm' _ hBoE.p).mono ?_
                    rintro e w20 ⟨rfl, m20, rfl⟩
                    have hBoF := hBoE.drewN m20
                    clear hBoE
                    go_wp2_with fail
                    refine wp_world (fun wv => Bo w.heap.size w wv g gx ob #[.int .u8 d, .int .u64 pn, .int .u64 ps, .int .i64 pz, .bool pa, .bool pg, .slice RA rn rc, .int .u64 now, .int .u64 wait] L' nx' ak' sm' LL' nx' ak' sm') (by first | exact hBoF | simpa using hBoF) ?_
                    clear hBoF
                    rintro wv hBoF
                    have x1 := hBoF.r.c1
                    have x2 := hBoF.r.c2
                    have x3 := hBoF.r.c3
                    cases sm'
                    all_goals
                      go_quiet ((go_at_call 27; first | with_reducible exact quiet_one (nextP w.heap.size g L' nx' ak' _ _ (hBoF.p.drew _)) | with_reducible exact quiet_add (nextP w.heap.size g L' nx' ak' _ _ (hBoF.p.drew _))))
                      go_wp2_with fail
                      go_roundw
                      case rel => exact ⟨k + 1, L', nx', ak', _, LL', by omega, by go_num, hBoF.p.drew _, (hBoF.drewN _).r, hPu.out, by omega, (hBoF.drewN _).b⟩
                      case measure => simp [intOf]; omega
      · have h50' : ¬ (k : Int) < 50 := by omega
        have h50'' : (50 : Int) ≤ (k : Int) := by omega
        go_wp2_with fail
        go_ret
        exact ⟨rfl, hBo0.b⟩
    · go_wp2_with fail
      go_ret
      exact ⟨rfl, hB⟩

end Go.Proofs.Ytohjifbkjfnkfaa
