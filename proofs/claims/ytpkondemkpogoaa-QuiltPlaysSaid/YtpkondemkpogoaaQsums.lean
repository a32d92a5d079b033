/-
  QuiltSums: what was read, and what waits, is what came, each byte once.
-/
import Derived.Test.YtpkondemkpogoaaQsumc
namespace Go.Proofs.Ytpkondemkpogoaa
open Go.RowKit
set_option linter.unusedVariables false
set_option linter.unusedSimpArgs false

theorem Q.put_same {q : Q} {off : Int} {l : List Int} {en : Bool} (h : q.err off l en ≠ 0) : q.put off l en = q := if_neg h
set_option maxHeartbeats 8000000 in
set_option maxRecDepth 100000 in
theorem sums_walk (A : Option Addr) (N cap : Nat) (w : World) (hp : Ops w A N) (hnc : N ≤ cap) (hcm : cap ≤ maxLen) :
    Calls Try.prog 5 #[.slice A N cap] w fun e w' => e = .returned (.bool true) ∧ Below w.heap.size w w' := by
  have hcm' : cap ≤ 9223372036854775807 := by unfold maxLen at hcm; omega
  have haw := awake_any w
  have hmm0 := @run_makeMap Try.prog
  go_enter Try.func5, Try.ntmps5
  go_wp2_with fail
  (with_reducible refine haw.mono ?_)
  rintro e w1 ⟨rfl, hB1⟩
  clear haw
  go_wp2_with fail
  (with_reducible refine (new_law _).mono ?_)
  rintro e w2 ⟨rfl, hQ2, hb2⟩
  obtain ⟨B, hBB⟩ : ∃ B, B = w1.heap.size := ⟨_, rfl⟩
  have hBw : w.heap.size ≤ B := by rw [hBB]; exact hB1.size
  have hs2 : B ≤ w2.heap.size := by rw [hBB]; exact hb2.size
  have hB2 : Below w.heap.size w w2 := hB1.trans (hb2.mono hB1.size)
  rw [← hBB] at hQ2
  clear hB1 hb2
  go_wp2_with fail
  rw [← hBB]
  clear hBB
  obtain ⟨mb, hmb⟩ : ∃ mb, mb = w2.heap.size := ⟨_, rfl⟩
  have hmw : w.heap.size ≤ mb := by omega
  have hba : Below w2.heap.size w2 (w2.alloc (.map #[] 0)) := (Below.refl _ _).alloc (Nat.le_refl _) _
  have hSet : SetU (w2.alloc (.map #[] 0)) mb [] := by rw [hmb]; exact setU_made w2
  have hQ3 := hQ2.below hba
  have hB3 := hB2.trans (hba.mono hB2.size)
  have hs3 : B ≤ (w2.alloc (.map #[] 0)).heap.size := Nat.le_trans hs2 hba.size
  rw [← hmb]
  clear hmb hQ2 hB2 hs2 hba hmm0
  go_loopw [15] (fun s15 wr => ∃ (i : Nat) (q : Q) (ks : List Int), s15 = .int .i64 i ∧ i ≤ N ∧ QA B wr B q ∧ QI q ∧ Came q ks ∧ SetU wr mb ks ∧ hld q.L ≤ 60 * min i 40 ∧ ks.length ≤ 60 * min i 40 ∧ Below w.heap.size w wr ∧ B ≤ wr.heap.size) (fun s15 _ => N - (intOf s15).toNat)
  case atStart => exact ⟨0, Q.new, [], rfl, Nat.zero_le _, hQ3, QI.new, came_new, hSet, Nat.zero_le _, Nat.zero_le _, hB3, hs3⟩
  case round =>
    clear hQ3 hSet hB3 hs3
    obtain ⟨i, q, ks, rfl, hin, hQ, hI, hC, hSe, hh, hkl, hB, hs⟩ := hrel
    by_cases hi : i < N
    · obtain ⟨b, off, oo, rfl, hbl, hok, hc⟩ := (hp.below hB) i hi
      obtain ⟨d_, of, vv, ll, en_, mm⟩ := oo
      obtain ⟨hdo, hof, ⟨hrv, hbv⟩, hmm⟩ := hok
      simp only at hdo hof hrv hbv hmm
      obtain ⟨VA, vc, rfl⟩ := hrv.form
      have c0 : wr.cell? ⟨b, off + i * 5, none⟩ = some (.int .u8 d_) := hc 0 (by decide)
      have c1 : wr.cell? ⟨b, off + i * 5 + 1, none⟩ = some (.int .u64 of) := hc 1 (by decide)
      have c2 : wr.cell? ⟨b, off + i * 5 + 2, none⟩ = some (.slice VA ll.length vc) := hc 2 (by decide)
      have c3 : wr.cell? ⟨b, off + i * 5 + 3, none⟩ = some (.bool en_) := hc 3 (by decide)
      have c4 : wr.cell? ⟨b, off + i * 5 + 4, none⟩ = some (.int .i64 mm) := hc 4 (by decide)
      have hiI : (i : Int) < (N : Int) := by omega
      clear hc
      have HP := Lib.hid hp
      clear hp
      by_cases h40 : i < 40
      · have h40I : ¬ (40 : Int) ≤ (i : Int) := by omega
        have htm : of.tmod 300 = of % 300 := Int.tmod_eq_emod_of_nonneg hof.1
        have htm7 : d_.tmod 7 = d_ % 7 := Int.tmod_eq_emod_of_nonneg hdo.1
        obtain ⟨ob, hob⟩ : ∃ ob, ob = wr.heap.size := ⟨_, rfl⟩
        have hba : Below wr.heap.size wr (wr.alloc (.cells #[.int .u8 d_, .int .u64 (of % 300), .slice VA ll.length vc, .bool en_, .int .i64 mm] 44)) := (Below.refl _ _).alloc (Nat.le_refl _) _
        have hYb : Blk (wr.alloc (.cells #[.int .u8 d_, .int .u64 (of % 300), .slice VA ll.length vc, .bool en_, .int .i64 mm] 44)) ob 44 #[.int .u8 d_, .int .u64 (of % 300), .slice VA ll.length vc, .bool en_, .int .i64 mm] := by rw [hob]; exact Blk.new _ _ _
        have hQb := hQ.below hba
        have hSb := hSe.below hba
        have hBb := hB.trans (hba.mono hB.size)
        have hsb : B ≤ (wr.alloc (.cells #[.int .u8 d_, .int .u64 (of % 300), .slice VA ll.length vc, .bool en_, .int .i64 mm] 44)).heap.size := Nat.le_trans hs hba.size
        have hcu := cut_any (.slice VA ll.length vc) ll 60 (wr.alloc (.cells #[.int .u8 d_, .int .u64 (of % 300), .slice VA ll.length vc, .bool en_, .int .i64 mm] 44)) (hrv.below hba) (by decide)
        have HY := Lib.hid hYb
        have HQb := Lib.hid hQb
        have HSb := Lib.hid hSb
        have HBb := Lib.hid hBb
        have Hsb := Lib.hid hsb
        clear hba hYb hQb hSb hBb hsb hQ hSe hB hs hrv
        obtain ⟨t, ht⟩ : ∃ t, t = ll.take 60 := ⟨_, rfl⟩
        have htl : t.length ≤ 60 := by rw [ht, List.length_take]; omega
        have hbt : BytesOk t := by rw [ht]; exact hbv.take 60
        rw [← ht] at hcu
        clear ht
        go_wp2_with fail
        refine hcu.mono ?_
        rintro e w3 ⟨v3, rfl, ho3, hb3⟩
        rw [← hob]
        have hQ3 := HQb.out.below hb3
        have hS3 := HSb.out.below hb3
        have hB3 := HBb.out.trans (hb3.mono HBb.out.size)
        have hs3 : B ≤ w3.heap.size := Nat.le_trans Hsb.out hb3.size
        have hY3 := HY.out.same hb3
        have y0 : w3.cell? ⟨ob, 0, none⟩ = some (.int .u8 d_) := hY3.cell 0
        have y1 : w3.cell? ⟨ob, 1, none⟩ = some (.int .u64 (of % 300)) := hY3.cell 1
        have y3 : w3.cell? ⟨ob, 3, none⟩ = some (.bool en_) := hY3.cell 3
        have y4 : w3.cell? ⟨ob, 4, none⟩ = some (.int .i64 mm) := hY3.cell 4
        have hr3 := rd_of_own (k := .u8) ho3
        obtain ⟨A3, cc3, rfl, _⟩ := sl_of_own ho3
        have HP3 := Lib.hid (put_lawK B B q (of % 300) _ t en_ w3 hQ3 hI (by omega) hs3 hr3 (by omega) hbt (by omega))
        have HT3 := Lib.hid (take_lawK B B q mm w3 hQ3 hI (by omega) hs3 hmm)
        have HY3 := Lib.hid hY3
        have HS3 := Lib.hid hS3
        clear hcu HY HQb HSb HBb Hsb hob hb3 ho3 hr3 hQ3 hY3 hS3 c0 c1 c2 c3 c4
        by_cases hd : 5 ≤ d_ % 7
        · have hk := HT3.out
          have hIf := (hI.take mm).1
          have hCf := came_take hI hC mm
          have hhf : hld (q.take mm).L ≤ 60 * min (i + 1) 40 := by have := (hI.take mm).2.1; omega
          have hkf : ks.length ≤ 60 * min (i + 1) 40 := by omega
          clear HT3 HP3
          go_wp2_with fail
          (with_reducible refine hk.mono ?_)
          rintro e w4 ⟨v4, rfl, hQf, _, hb4, _, hm4⟩
          have hSf := HS3.out.keep hm4
          have hBf := hB3.trans (hb4.mono hBw)
          have hsf : B ≤ w4.heap.size := Nat.le_trans hs3 hb4.size
          clear hk hb4 hm4 hB3 hs3 HS3 y0 y1 y3 y4 HY3
          have hcnt := came_cnt hIf hCf
          have hrd0 := hIf.k.lo
          have hrd1 := hIf.rd
          have hrh := rdy_hld (q.take mm).rd (q.take mm).L
          obtain ⟨rr, hrr⟩ : ∃ rr, rr = (q.take mm).rd := ⟨_, rfl⟩
          obtain ⟨hh_, hhh⟩ : ∃ hh_, hh_ = hld (q.take mm).L := ⟨_, rfl⟩
          obtain ⟨ry, hry⟩ : ∃ ry, ry = rdy (q.take mm).rd (q.take mm).L := ⟨_, rfl⟩
          have k1 := read_law hQf
          have k2 := held_law hQf hIf
          rw [← hrr] at k1
          rw [← hhh] at k2
          rw [← hrr, ← hhh] at hcnt
          rw [← hry, ← hhh] at hrh
          rw [← hrr] at hrd0 hrd1
          rw [← hhh] at hhf
          have HRR := Lib.hid hrr
          have HHH := Lib.hid hhh
          have HRY := Lib.hid hry
          clear hrr hhh hry
          have hw1 : IntKind.i64.wrap rr = rr := Go.IntWalk.i64_in _ (by simp only [QM] at hrd1; omega)
          have hw2 : IntKind.i64.wrap (rr + (hh_ : Int)) = rr + hh_ := Go.IntWalk.i64_in _ (by simp only [QM] at hrd1; omega)
          go_wp2_with fail
          (with_reducible refine k1.mono ?_)
          rintro e wf1 ⟨rfl, rfl⟩
          go_wp2_with fail
          (with_reducible refine k2.mono ?_)
          rintro e wf2 ⟨rfl, hbf2⟩
          have hQg := hQf.below hbf2
          have hSg := hSf.below hbf2
          have hBg := hBf.trans (hbf2.mono hBf.size)
          have hsg : B ≤ wf2.heap.size := Nat.le_trans hsf hbf2.size
          have k3 := ready_law hQg hIf
          rw [← HRY.out] at k3
          have hln := World.ownsMap.len hSg Try.underlying42 3
          rw [setU_size, hcnt] at hln
          go_wp2_with fail
          (with_reducible refine k3.mono ?_)
          rintro e wf3 ⟨rfl, hbf3⟩
          have hQh := hQg.below hbf3
          have hSh := hSg.below hbf3
          have hBh := hBg.trans (hbf3.mono hBg.size)
          have hsh : B ≤ wf3.heap.size := Nat.le_trans hsg hbf3.size
          have k4 := held_law hQh hIf
          rw [← HHH.out] at k4
          go_wp2_with fail
          (with_reducible refine k4.mono ?_)
          rintro e wf4 ⟨rfl, hbf4⟩
          have hQi := hQh.below hbf4
          have hSi := hSh.below hbf4
          have hBi := hBh.trans (hbf4.mono hBh.size)
          have hsi : B ≤ wf4.heap.size := Nat.le_trans hsh hbf4.size
          have hrI : ¬ (hh_ : Int) < (ry : Int) := by omega
          rw [HHH.out] at hhf
          clear hln k1 k2 k3 k4 hQf hSf hQg hSg hQh hSh hbf2 hbf3 hbf4 hBg hBh hsg hsh
          go_wp2_with fail
          go_roundw
          case rel => exact ⟨i + 1, q.take mm, ks, by go_num, by omega, hQi, hIf, hCf, hSi, hhf, hkf, hBi, hsi⟩
          case measure => simp [intOf]; omega
        · have hdn : d_ % 7 < 5 := by omega
          have hk := HP3.out
          clear HT3 HP3
          by_cases he : q.err (of % 300) t en_ = 0
          · rw [he] at hk
            go_wp2_with fail
            (with_reducible refine hk.mono ?_)
            rintro e w4 ⟨rfl, hQ4, hb4, hkt4, hm4⟩
            have hS4 := HS3.out.keep hm4
            have hY4 := hkt4 ob 44 _ HY3.out (by decide) (by decide)
            have hB4 := hB3.trans (hb4.mono hBw)
            have hs4 : B ≤ w4.heap.size := Nat.le_trans hs3 hb4.size
            clear hk hb4 hkt4 hm4 hB3 hs3 HS3 HY3 y0 y1 y3 y4
            go_wp2_with fail
            go_loopw [47] (fun s47 wi => ∃ j : Nat, s47 = .int .i64 j ∧ j ≤ t.length ∧ QA B wi B (q.put (of % 300) t en_) ∧ SetU wi mb (ks ++ (List.range j).map (fun k : Nat => of % 300 + (k : Int))) ∧ Blk wi ob 44 #[.int .u8 d_, .int .u64 (of % 300), .slice VA ll.length vc, .bool en_, .int .i64 mm] ∧ Below w.heap.size w wi ∧ B ≤ wi.heap.size) (fun s47 _ => t.length - (intOf s47).toNat)
            case atStart => exact ⟨0, rfl, Nat.zero_le _, hQ4, by simpa using hS4, hY4, hB4, hs4⟩
            case round =>
              clear hQ4 hS4 hY4 hB4 hs4
              obtain ⟨j, rfl, hjn, hQj, hSj, hYj, hBj, hsj⟩ := hrel
              by_cases hj : j < t.length
              · have hjI : (j : Int) < (t.length : Int) := by omega
                have z1 : World.cell? _ ⟨ob, 1, none⟩ = some (.int .u64 (of % 300)) := hYj.cell 1
                have hw1 : IntKind.u64.wrap (j : Int) = j := Go.IntWalk.u64_in _ (by omega)
                have hw2 : IntKind.u64.wrap (of % 300 + (j : Int)) = of % 300 + j := Go.IntWalk.u64_in _ (by omega)
                have hlen : (ks ++ (List.range j).map (fun k : Nat => of % 300 + (k : Int))).length < 1000000 := by rw [List.length_append, List.length_map, List.length_range]; omega
                have HSj := Lib.hid hSj
                have HLEN := Lib.hid hlen
                clear hlen hSj
                go_wp2_with (first | (at_mapUpdate; refine wpList_put_set _ rfl _ _ _ rfl mb _ rfl HSj.out HLEN.out (of % 300 + (j : Int)) rfl rfl (by omega) ?_; intro w7 hM7 hg7) | fail)
                have hQ7 := hQj.map HSj.out hg7
                have hY7 := hYj.grown hg7 (fun e => blk_set_ne hYj HSj.out (by simpa using e))
                have hB7 := hBj.grown hg7 hBj.size (fun k hk => by simp at hk; omega)
                have hs7 : B ≤ w7.heap.size := Nat.le_trans hsj hg7.size
                have hM8 : SetU w7 mb (ks ++ (List.range (j + 1)).map (fun k : Nat => of % 300 + (k : Int))) := by
                  rw [List.range_succ, List.map_append, ← List.append_assoc]
                  exact hM7
                go_roundw
                case rel => exact ⟨j + 1, by go_num, by omega, hQ7, hM8, hY7, hB7, hs7⟩
                case measure => simp [intOf]; omega
              · obtain rfl : j = t.length := by omega
                have hQf := hQj
                have hSf := hSj
                have hBf := hBj
                have hsf := hsj
                have hIf := hI.put (en := en_) (show 0 ≤ of % 300 by omega) hbt
                have hCf := came_put hI hC (en := en_) (show 0 ≤ of % 300 by omega) he
                have hhf : hld (q.put (of % 300) t en_).L ≤ 60 * min (i + 1) 40 := by have := Q.put_hld q (of % 300) t en_; omega
                have hkf : (ks ++ (List.range t.length).map (fun k : Nat => of % 300 + (k : Int))).length ≤ 60 * min (i + 1) 40 := by rw [List.length_append, List.length_map, List.length_range]; omega
                clear hQj hSj hBj hsj hYj he
                have hcnt := came_cnt hIf hCf
                have hrd0 := hIf.k.lo
                have hrd1 := hIf.rd
                have hrh := rdy_hld (q.put (of % 300) t en_).rd (q.put (of % 300) t en_).L
                obtain ⟨rr, hrr⟩ : ∃ rr, rr = (q.put (of % 300) t en_).rd := ⟨_, rfl⟩
                obtain ⟨hh_, hhh⟩ : ∃ hh_, hh_ = hld (q.put (of % 300) t en_).L := ⟨_, rfl⟩
                obtain ⟨ry, hry⟩ : ∃ ry, ry = rdy (q.put (of % 300) t en_).rd (q.put (of % 300) t en_).L := ⟨_, rfl⟩
                have k1 := read_law hQf
                have k2 := held_law hQf hIf
                rw [← hrr] at k1
                rw [← hhh] at k2
                rw [← hrr, ← hhh] at hcnt
                rw [← hry, ← hhh] at hrh
                rw [← hrr] at hrd0 hrd1
                rw [← hhh] at hhf
                have HRR := Lib.hid hrr
                have HHH := Lib.hid hhh
                have HRY := Lib.hid hry
                clear hrr hhh hry
                have hw1 : IntKind.i64.wrap rr = rr := Go.IntWalk.i64_in _ (by simp only [QM] at hrd1; omega)
                have hw2 : IntKind.i64.wrap (rr + (hh_ : Int)) = rr + hh_ := Go.IntWalk.i64_in _ (by simp only [QM] at hrd1; omega)
                go_wp2_with fail
                (with_reducible refine k1.mono ?_)
                rintro e wf1 ⟨rfl, rfl⟩
                go_wp2_with fail
                (with_reducible refine k2.mono ?_)
                rintro e wf2 ⟨rfl, hbf2⟩
                have hQg := hQf.below hbf2
                have hSg := hSf.below hbf2
                have hBg := hBf.trans (hbf2.mono hBf.size)
                have hsg : B ≤ wf2.heap.size := Nat.le_trans hsf hbf2.size
                have k3 := ready_law hQg hIf
                rw [← HRY.out] at k3
                have hln := World.ownsMap.len hSg Try.underlying42 3
                rw [setU_size, hcnt] at hln
                go_wp2_with fail
                (with_reducible refine k3.mono ?_)
                rintro e wf3 ⟨rfl, hbf3⟩
                have hQh := hQg.below hbf3
                have hSh := hSg.below hbf3
                have hBh := hBg.trans (hbf3.mono hBg.size)
                have hsh : B ≤ wf3.heap.size := Nat.le_trans hsg hbf3.size
                have k4 := held_law hQh hIf
                rw [← HHH.out] at k4
                go_wp2_with fail
                (with_reducible refine k4.mono ?_)
                rintro e wf4 ⟨rfl, hbf4⟩
                have hQi := hQh.below hbf4
                have hSi := hSh.below hbf4
                have hBi := hBh.trans (hbf4.mono hBh.size)
                have hsi : B ≤ wf4.heap.size := Nat.le_trans hsh hbf4.size
                have hrI : ¬ (hh_ : Int) < (ry : Int) := by omega
                rw [HHH.out] at hhf
                clear hln k1 k2 k3 k4 hQf hSf hQg hSg hQh hSh hbf2 hbf3 hbf4 hBg hBh hsg hsh
                go_wp2_with fail
                go_roundw
                case rel => exact ⟨i + 1, q.put (of % 300) t en_, (ks ++ (List.range t.length).map (fun k : Nat => of % 300 + (k : Int))), by go_num, by omega, hQi, hIf, hCf, hSi, hhf, hkf, hBi, hsi⟩
                case measure => simp [intOf]; omega
          · have hpn := Q.put_same he
            rw [hpn] at hk
            obtain ⟨c, hcc⟩ : ∃ c, c = q.err (of % 300) t en_ := ⟨_, rfl⟩
            rw [← hcc] at hk he
            clear hcc hpn
            go_wp2_with fail
            (with_reducible refine hk.mono ?_)
            rintro e w4 ⟨rfl, hQf, hb4, _, hm4⟩
            have hIf := hI
            have hCf := hC
            have hhf : hld q.L ≤ 60 * min (i + 1) 40 := by omega
            have hkf : ks.length ≤ 60 * min (i + 1) 40 := by omega
            have hSf := HS3.out.keep hm4
            have hBf := hB3.trans (hb4.mono hBw)
            have hsf : B ≤ w4.heap.size := Nat.le_trans hs3 hb4.size
            clear hk hb4 hm4 hB3 hs3 HS3 y0 y1 y3 y4 HY3
            have hcnt := came_cnt hIf hCf
            have hrd0 := hIf.k.lo
            have hrd1 := hIf.rd
            have hrh := rdy_hld (q).rd (q).L
            obtain ⟨rr, hrr⟩ : ∃ rr, rr = (q).rd := ⟨_, rfl⟩
            obtain ⟨hh_, hhh⟩ : ∃ hh_, hh_ = hld (q).L := ⟨_, rfl⟩
            obtain ⟨ry, hry⟩ : ∃ ry, ry = rdy (q).rd (q).L := ⟨_, rfl⟩
            have k1 := read_law hQf
            have k2 := held_law hQf hIf
            rw [← hrr] at k1
            rw [← hhh] at k2
            rw [← hrr, ← hhh] at hcnt
            rw [← hry, ← hhh] at hrh
            rw [← hrr] at hrd0 hrd1
            rw [← hhh] at hhf
            have HRR := Lib.hid hrr
            have HHH := Lib.hid hhh
            have HRY := Lib.hid hry
            clear hrr hhh hry
            have hw1 : IntKind.i64.wrap rr = rr := Go.IntWalk.i64_in _ (by simp only [QM] at hrd1; omega)
            have hw2 : IntKind.i64.wrap (rr + (hh_ : Int)) = rr + hh_ := Go.IntWalk.i64_in _ (by simp only [QM] at hrd1; omega)
            go_wp2_with fail
            (with_reducible refine k1.mono ?_)
            rintro e wf1 ⟨rfl, rfl⟩
            go_wp2_with fail
            (with_reducible refine k2.mono ?_)
            rintro e wf2 ⟨rfl, hbf2⟩
            have hQg := hQf.below hbf2
            have hSg := hSf.below hbf2
            have hBg := hBf.trans (hbf2.mono hBf.size)
            have hsg : B ≤ wf2.heap.size := Nat.le_trans hsf hbf2.size
            have k3 := ready_law hQg hIf
            rw [← HRY.out] at k3
            have hln := World.ownsMap.len hSg Try.underlying42 3
            rw [setU_size, hcnt] at hln
            go_wp2_with fail
            (with_reducible refine k3.mono ?_)
            rintro e wf3 ⟨rfl, hbf3⟩
            have hQh := hQg.below hbf3
            have hSh := hSg.below hbf3
            have hBh := hBg.trans (hbf3.mono hBg.size)
            have hsh : B ≤ wf3.heap.size := Nat.le_trans hsg hbf3.size
            have k4 := held_law hQh hIf
            rw [← HHH.out] at k4
            go_wp2_with fail
            (with_reducible refine k4.mono ?_)
            rintro e wf4 ⟨rfl, hbf4⟩
            have hQi := hQh.below hbf4
            have hSi := hSh.below hbf4
            have hBi := hBh.trans (hbf4.mono hBh.size)
            have hsi : B ≤ wf4.heap.size := Nat.le_trans hsh hbf4.size
            have hrI : ¬ (hh_ : Int) < (ry : Int) := by omega
            rw [HHH.out] at hhf
            clear hln k1 k2 k3 k4 hQf hSf hQg hSg hQh hSh hbf2 hbf3 hbf4 hBg hBh hsg hsh
            go_wp2_with fail
            go_roundw
            case rel => exact ⟨i + 1, q, ks, by go_num, by omega, hQi, hIf, hCf, hSi, hhf, hkf, hBi, hsi⟩
            case measure => simp [intOf]; omega
      · have h40I : (40 : Int) ≤ (i : Int) := by omega
        have hba : Below wr.heap.size wr (wr.alloc (.cells #[.int .u8 d_, .int .u64 of, .slice VA ll.length vc, .bool en_, .int .i64 mm] 44)) := (Below.refl _ _).alloc (Nat.le_refl _) _
        have HBA := Lib.hid hba
        clear hba
        go_wp2_with fail
        go_ret
        exact ⟨rfl, hB.trans (HBA.out.mono hB.size)⟩
    · obtain rfl : i = N := by omega
      go_wp2_with fail
      go_ret
      exact ⟨rfl, hB⟩
open Go.ChangeShapes Go.WideShapes Go.ChangeAt
set_option maxRecDepth 100000 in
theorem sums_lifted (os : Os) (started : os.Started) (H : Type) (enc : TypeId × Value → H) :
    ReturnsInHanded {} Try.checked os 5 .any (Rows.quiltSumsSpec.pre6 enc Try.prog Try.f5 Rows.quiltSumsRow.domain false) (Rows.quiltSumsSpec.post enc Try.prog Try.f5 false true false false) := by
  refine returnsInHanded_of_change (C := Try.checked) own started (by kernel_rfl) Try.func5
    (ChangeSpec.witness6 (enc := enc) (C := Try.checked) false ⟨#[], #[.slice none 0 0], []⟩ 8 (by kernel_rfl) (by kernel_rfl) (by kernel_rfl) (by kernel_rfl)) ?_
  intro W base args ds gs before hval0 hW hcnd _
  have hval : ∀ (j : Nat) t v, Try.f5.params[j]? = some t → args[j]? = some v → Value.okWide Try.prog W .any base t v := hval0
  have hW' := hW
  obtain ⟨p, q, hA0, hV, rfl, hfz, hnd⟩ := hW
  have hA : DataW.TrodAll enc Try.prog W 0 (fun _ => true) true Try.f5.params.toList args.toList ds p := hA0
  rw [Try.params5] at hA hval
  obtain ⟨v0, vs0, d0, ds0, p0, q0, hargs, rfl, rfl, h0, r0⟩ := trodAll_cons hA
  obtain ⟨rfl, rfl, rfl⟩ := trodAll_nil r0
  obtain rfl : args = #[v0] := by cases args; simp_all
  obtain ⟨rfl, rfl⟩ := trodVars_none hV
  obtain ⟨A0, len0, cap0, rfl⟩ := okWide_slice Try.underlying41 (hval 0 41 v0 rfl rfl)
  have k0 := h0
  have lt0 : ∀ x ∈ p0, x.block < W.heap.size := by obtain ⟨m, hm⟩ := k0; exact DataW.trod_lt m _ _ _ hm
  obtain ⟨n0, c0, hR0⟩ := ops_of k0
  clear hA0 hval0
  refine (sums_walk _ _ _ W hR0 n0 c0).mono fun e W' ⟨he, bel⟩ => ?_
  subst he
  exact ⟨_, rfl, _, _, _, [], _, [], hW', trodAll_mk1 (shut_bool Try.underlying4 _), (trodAll_cons_mk (Below.trod laidOut (by kernel_rfl) (of_decide_eq_true (by kernel_rfl)) k0 bel lt0) trodAll_mk0), rfl, bel.frame _, fun h => by cases h⟩

theorem sums_holds : Rows.QuiltSumsSaid :=
  OpenClaim.holds_of_wide 5 Try.f5 rfl rfl rfl rfl rfl rfl rfl ⟨rfl, rfl, rfl, rfl, rfl⟩ rfl rfl rfl rfl rfl (by kernel_rfl) Try.func5 (by kernel_rfl)
    (of_decide_eq_true (by kernel_rfl)) (by unfold Func.isWrapper; first | (rw [if_pos (by decide +kernel)]; kernel_rfl) | (rw [if_neg (by decide +kernel)]; exact ⟨rfl, rfl⟩))
    (fun os started H enc _ => sums_lifted os started H enc)
#print axioms sums_holds

end Go.Proofs.Ytpkondemkpogoaa
