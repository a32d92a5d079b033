/-
  What Put of a quilt does. No condition.
-/
import Derived.Test.YtpkondemkpogoaaQputp
import Derived.Deep.CutBlock
namespace Go.Proofs.Ytpkondemkpogoaa
open Go.RowKit
set_option linter.unusedVariables false
set_option linter.unusedSimpArgs false

theorem infoPt : (Try.prog.info? 66).map (fun i => (i.zero, i.size, i.bytes)) = some (some (.agg #[.int .u64 0, .slice none 0 0]), 2, 32) := by kernel_rfl
set_option maxHeartbeats 8000000 in
set_option maxRecDepth 100000 in
theorem put_yes (S : Nat → Prop) (B g : Nat) (rb : Option Nat) (d : List PV) (rd hi la : Int) (kn : Bool) (off : Int) (v : Value) (l : List Int) (en : Bool) (w : World) (hq : QS S B w g rb d rd hi la kn) (hk : Qk rd (lp d)) (hsm : hld (lp d) ≤ 1000000) (hB : B ≤ w.heap.size) (hrd : rd ≤ QM)
    (hr : Rd w .u8 v l) (hl : l.length ≤ 1000000) (hby : BytesOk l) (ho : 0 ≤ off ∧ off ≤ 18446744073709551615) (hhi : 0 ≤ hi ∧ hi ≤ QM) (hc : chkE hi la kn off l.length en = 0) :
    Calls Try.prog 11 #[.pointer (some ⟨g, 0, none⟩), .int .u64 off, v, .bool en] w fun e w' => e = .returned (.int .i64 0) ∧ ∃ rb' d', QS (fun b => S b ∨ w.heap.size ≤ b) B w' g rb' d' rd (max hi (off + l.length)) (laE en (off + l.length) la) (kn || en) ∧
      lp d' = putL (trm rd (off, l)) (lp d) ∧ Onl w w' g rb := by
  obtain ⟨iP, hip, hp0, hp1, hp2⟩ := info_parts infoPt
  have hchk := check_any S B g rb d rd hi la kn off l.length en w hq ho hl
  rw [hc] at hchk
  have hto : off + l.length ≤ QM := by
    unfold chkE at hc
    split at hc
    · omega
    · omega
  have hclo := clone_any v l w hr (by omega)
  have hgl := hq.lt
  obtain ⟨V, rfl, hme, hown⟩ := hq.me
  have hps := hq.ps.low
  have hlo := hq.lo
  obtain ⟨Al, cl, rfl⟩ := hr.form
  have hrl := (hr.rdv).2.2.1
  have hrm := (hr.rdv).2.2.2.1
  clear hq hr hc
  go_enter Try.func11, Try.ntmps11
  go_wp2_with fail
  (with_reducible refine hchk.mono ?_)
  rintro e w1 ⟨rfl, rfl⟩
  go_wp2_with fail
  (with_reducible refine hclo.mono ?_)
  rintro e w1 ⟨v1, rfl, hown1, hb1⟩
  obtain ⟨A1, c1, rfl, _, _, _⟩ := sl_of_own hown1
  go_upto_region 5 with (fail)
  obtain ⟨xb, hxb⟩ : ∃ xb, xb = w1.heap.size := ⟨_, rfl⟩
  have hT : PT (fun b => S b ∧ b < w.heap.size) B w (w1.alloc (.cells #[.int .u64 off, .slice A1 l.length c1] 66)) g V d rd hi la kn xb ((off, l), (A1, l.length, c1)) (.slice none 0 0) [] := by
    have hxr := rdt_of_own hown1
    have hsz := hb1.size
    exact ⟨hlo, hgl, (hme.same hb1).alloc _, (hown.below hb1).alloc _, fun b hb => (hown.lt b hb).2, (hps.below hb1).below ((Below.refl _ _).alloc (Nat.le_refl _) _), fun b h => h.2, by omega, by rw [hxb]; exact Blk.new _ _ _, hxr.alloc _, fun b hb => (hown1.lt b hb).1, OwnM.nil _ _ _ _, PsOk.nil _ _, by simp [Value.ownBlock],
      ((Onl.refl w g none).below hb1).below ((Below.refl _ _).alloc (Nat.le_refl _) _)⟩
  refine wp_world (fun wz => PT (fun b => S b ∧ b < w.heap.size) B w wz g V d rd hi la kn xb ((off, l), (A1, l.length, c1)) (.slice none 0 0) []) hT ?_
  clear hT
  rintro w2 hT
  rw [← hxb]
  clear hxb hown1 hb1 hme hown hps
  go_cut [10] from 29 (fun s10 wx => s10 = .pointer (some ⟨xb, 0, none⟩) ∧ PT (fun b => S b ∧ b < w.heap.size) B w wx g V d rd (max hi (off + l.length)) la kn xb ((off, l), (A1, l.length, c1)) (.slice none 0 0) [])
  case first =>
    have c2 : w2.cell? ⟨g, 2, none⟩ = some (.int .u64 hi) := hT.me.cell 2
    have f2 := hT.me.frozen 2
    have x0 : w2.cell? ⟨xb, 0, none⟩ = some (.int .u64 off) := hT.xc.cell 0
    have x1 : w2.cell? ⟨xb, 1, none⟩ = some (.slice A1 l.length c1) := hT.xc.cell 1
    have hg2 := hT.me.lt
    have hx2 := hT.xc.lt
    have HT := Lib.hid hT
    have HL := Lib.hid hl
    have HO := Lib.hid hto
    have HLO := Lib.hid ho
    clear hT hl hto ho
    go_region_with (go_at_call 31; refine (pend_any (off, l) A1 c1 _ ⟨HLO.out.1, HO.out⟩).mono ?_; rintro e w3 ⟨rfl, hb3⟩; have cg3 := (hb3.cell (p := ⟨g, 2, none⟩) hg2).trans c2; have fg3 := (hb3.frozen (p := ⟨g, 2, none⟩) hg2).trans f2)
    all_goals
      go_wp2_with fail
      go_meet
      case rel => exact ⟨rfl, (HT.out.drew.below hb3).num 2 _ _ _ _ rfl⟩
  case rest =>
    obtain ⟨rfl, hT⟩ := hcut
    go_upto_if 39 with (fail)
    go_cut [10] from 40 (fun s10 wx => s10 = .pointer (some ⟨xb, 0, none⟩) ∧ PT (fun b => S b ∧ b < w.heap.size) B w wx g V d rd (max hi (off + l.length)) (laE en (off + l.length) la) (kn || en) xb ((off, l), (A1, l.length, c1)) (.slice none 0 0) [])
    case first =>
      cases en with
      | false =>
        go_wp2_with fail
        go_meet
        case rel => exact ⟨rfl, by simpa [laE] using hT⟩
      | true =>
        have f3 := hT.me.frozen 3
        have f4 := hT.me.frozen 4
        have x0 : wc.cell? ⟨xb, 0, none⟩ = some (.int .u64 off) := hT.xc.cell 0
        have x1 : wc.cell? ⟨xb, 1, none⟩ = some (.slice A1 l.length c1) := hT.xc.cell 1
        have hg2 := hT.me.lt
        have HT := Lib.hid hT
        clear hT
        go_wp2_with fail
        refine (pend_any (off, l) A1 c1 _ ⟨ho.1, hto⟩).mono ?_
        rintro e w3 ⟨rfl, hb3⟩
        have hT3 := HT.out.below hb3
        have k3 : w3.cell? ⟨g, 3, none⟩ = some (.int .u64 la) := hT3.me.cell 3
        have fg3 := hT3.me.frozen 3
        have HT3 := Lib.hid hT3
        have k4 : w3.cell? ⟨g, 4, none⟩ = some (.bool kn) := hT3.me.cell 4
        have fg4 := hT3.me.frozen 4
        have hT4 := HT3.out.num 3 (.int .u64 (pe (off, l))) _ _ _ rfl
        have k4' : (w3.setCell ⟨g, 3, none⟩ (.int .u64 (pe (off, l)))).cell? ⟨g, 4, none⟩ = some (.bool kn) := hT4.me.cell 4
        have fg4' := hT4.me.frozen 4
        have HT4 := Lib.hid hT4
        clear f3 f4 x0 x1 hT3 hb3 hg2 HT HT3 hT4
        go_wp2_with fail
        go_meet
        case rel => exact ⟨rfl, by simpa [pe, laE] using HT4.out.num 4 (.bool true) _ _ _ rfl⟩
    case rest =>
      obtain ⟨rfl, hT⟩ := hcut
      obtain ⟨hi', hhi'⟩ : ∃ hi', hi' = max hi (off + l.length) := ⟨_, rfl⟩
      obtain ⟨la', hla'⟩ : ∃ la', la' = laE en (off + l.length) la := ⟨_, rfl⟩
      obtain ⟨kn', hkn'⟩ : ∃ kn', kn' = (kn || en) := ⟨_, rfl⟩
      rw [← hhi', ← hla', ← hkn'] at hT
      have HHI := Lib.hid hhi'
      have HLA := Lib.hid hla'
      have HKN := Lib.hid hkn'
      clear hhi' hla' hkn'
      have hrd0 := hk.lo
      have hto' : off + (l.length : Int) ≤ 4611686018427387903 := hto
      obtain ⟨n, hn⟩ : ∃ n, n = l.length := ⟨_, rfl⟩
      have HN := Lib.hid hn
      have c1v : wc.cell? ⟨g, 1, none⟩ = some (.int .u64 rd) := hT.me.cell 1
      have x0 : wc.cell? ⟨xb, 0, none⟩ = some (.int .u64 off) := hT.xc.cell 0
      have x1 : wc.cell? ⟨xb, 1, none⟩ = some (.slice A1 l.length c1) := hT.xc.cell 1
      rw [← hn] at x1 hto' hl
      go_upto_region 8 with (fail)
      go_quiet (fail)
      go_upto_if 54 with (fail)
      have x0' : ∀ m, (wc.drewN m).cell? ⟨xb, 0, none⟩ = some (.int .u64 off) := fun m => x0
      have x1' : ∀ m, (wc.drewN m).cell? ⟨xb, 1, none⟩ = some (.slice A1 n c1) := fun m => x1
      have c1' : ∀ m, (wc.drewN m).cell? ⟨g, 1, none⟩ = some (.int .u64 rd) := fun m => c1v
      go_cut [10, 11] from 48 (fun s10 s11 wx => ∃ x : PV, s10 = .pointer (some ⟨xb, 0, none⟩) ∧ PT (fun b => S b ∧ b < w.heap.size) B w wx g V d rd hi' la' kn' xb x (.slice none 0 0) [] ∧ x.1 = trm rd (off, l))
      case first =>
        by_cases hlt : off < rd
        · obtain ⟨q, hq⟩ : ∃ q : Nat, q = min (rd - off).toNat n := ⟨_, rfl⟩
          have hrd' : rd ≤ 4611686018427387903 := hrd
          have hw1 : IntKind.u64.wrap (rd - off) = rd - off := Go.IntWalk.u64_in _ (by omega)
          have hw2 : IntKind.u64.wrap (n : Int) = n := Go.IntWalk.u64_in _ (by omega)
          have hw3 : IntKind.u64.wrap (off + (q : Int)) = off + q := Go.IntWalk.u64_in _ (by omega)
          have hmn : min (rd - off) (n : Int) = (q : Int) := by omega
          have hqn : q ≤ n := by omega
          have hq0 : (0 : Int) ≤ (q : Int) := by omega
          have hqnI : (q : Int) ≤ (n : Int) := by omega
          have hx : trm rd (off, l) = (off + q, l.drop q) := by
            rw [show trm rd (off, l) = if off < rd then (off + (min (rd - off).toNat l.length : Nat), l.drop (min (rd - off).toNat l.length)) else (off, l) from rfl, if_pos hlt, ← hn, ← hq]
          have HX := Lib.hid hx
          have HT := Lib.hid hT
          have g0 := hT.xc.frozen 0
          have g1 := hT.xc.frozen 1
          have hxr : RdT wc (.slice A1 n c1) l := by rw [hn]; exact hT.xr
          have hxs : ∀ b, (Value.slice A1 n c1).ownBlock = some b → w.heap.size ≤ b := by rw [hn]; exact hT.xs
          have hsl := sli_cases hxr (m := q) (by omega)
          have hRn : RdT wc (.slice A1 n c1) l := hxr
          clear hx hT hq hn hxr c1v x0 x1
          rcases hsl with ⟨rfl, rfl, rfl, rfl⟩ | ⟨b, of2, rfl, hnl, hnc, hcm, hqc, hR⟩ | ⟨b, of2, rfl, rfl, rfl, hnl, hnc, hdr, hR⟩
          · have hd := fun m => (HT.out.drewN m).setx ((off, []), (none, 0, c1)) (hRn.drewN m) (fun b2 hb2 => by simp [pvv, Value.ownBlock] at hb2)
            have HD := Lib.hid hd
            clear hd hxs HT
            have hmn0 : min (rd - off) 0 = 0 := by omega
            go_wp2_with fail
            go_region
            all_goals
              go_wp2_with fail
              go_region
              all_goals
                go_wp2_with fail
                go_meet
                case rel => exact ⟨((off, []), (none, 0, c1)), rfl, (by first | exact (HD.out _).1 | exact (HD.out _).2), (by rw [HX.out]; simp)⟩
          · have hcm' : c1 ≤ 9223372036854775807 := by unfold maxLen at hcm; omega
            have hncI : (n : Int) ≤ (c1 : Int) := by omega
            have hqcI : (q : Int) < (c1 : Int) := by omega
            have hd := fun m => (HT.out.drewN m).setx ((off + q, l.drop q), (some ⟨b, of2 + q, none⟩, n - q, c1 - q)) (hR.drewN m) (fun b2 hb2 => hxs b2 (by simpa [pvv, Value.ownBlock] using hb2))
            have HD := Lib.hid hd
            have HNL := Lib.hid hnl
            clear hd hR hnl hxs HT
            go_wp2_with fail
            go_region
            all_goals
              go_wp2_with fail
              go_region
              all_goals
                go_wp2_with fail
                go_meet
                case rel => exact ⟨((off + q, l.drop q), (some ⟨b, of2 + q, none⟩, n - q, c1 - q)), rfl, (by first | exact (HD.out _).1 | exact (HD.out _).2), HX.out.symm⟩
          · have hcm' : c1 ≤ 9223372036854775807 := by unfold maxLen at hnc; omega
            have hd := fun m => (HT.out.drewN m).setx ((off + (c1 : Nat), []), (some ⟨b, of2, none⟩, 0, 0)) (hR.drewN m) (fun b2 hb2 => hxs b2 (by simpa [pvv, Value.ownBlock] using hb2))
            have HD := Lib.hid hd
            have HNL := Lib.hid hnl
            clear hd hR hnl hxs HT
            go_wp2_with fail
            go_region
            all_goals
              go_wp2_with fail
              go_region
              all_goals
                go_wp2_with fail
                go_meet
                case rel => exact ⟨((off + (c1 : Nat), []), (some ⟨b, of2, none⟩, 0, 0)), rfl, (by first | exact (HD.out _).1 | exact (HD.out _).2), (by rw [HX.out, hdr])⟩
        · go_wp2_with fail
          go_meet
          case rel => exact ⟨_, rfl, hT.drewN _, (if_neg (by simp only; omega) : trm rd (off, l) = (off, l)).symm⟩
      case rest =>
        obtain ⟨x, rfl, hT, hx⟩ := hcut
        have hP0 : Lp x.1 (lp d) 0 x.1 [] := Lp.start (by rw [hx]; exact Int.le_trans ho.1 (trm_lo _ _)) (by rw [hx, trm_pe]; exact hto)
        have HX := Lib.hid hx
        have HP0 := Lib.hid hP0
        obtain ⟨x00, hx00⟩ : ∃ x00, x00 = x.1 := ⟨_, rfl⟩
        rw [← hx00] at HX HP0
        have HX00 := Lib.hid hx00
        clear hx hP0 hx00
        obtain ⟨A, cap, hV, hnc, hcm, _⟩ := hT.own.form
        have HV := Lib.hid hV
        have hcm' : cap ≤ 9223372036854775807 := by unfold maxLen at hcm; omega
        have hncI : (d.length : Int) ≤ 9223372036854775807 := by omega
        have c0 : wc.cell? ⟨g, 0, none⟩ = some (.slice A d.length cap) := by rw [← hV]; exact hT.me.cell 0
        clear hV
        go_upto_block 0 with (fail)
        go_cut [12, 14, 15] from 81 (fun s12 s14 s15 wx => ∃ (x : PV) (ov : Value) (O : List PV), ov = s12 ∧ PT (fun b => S b ∧ b < w.heap.size) B w wx g V d rd hi' la' kn' xb x ov O ∧ lp O ++ lst x.1 = cutP x00 (lp d) ∧ O.length ≤ d.length)
        case first =>
          go_wp2_with fail
          go_loopw [12, 81] (fun s12 s81 wr => ∃ (i : Nat) (x : PV) (ov : Value) (O : List PV), ov = s12 ∧ s81 = .int .i64 i ∧ i ≤ d.length ∧ PT (fun b => S b ∧ b < w.heap.size) B w wr g V d rd hi' la' kn' xb x ov O ∧ Hid (Lp x00 (lp d) i x.1 (lp O))) (fun s12 s81 _ => d.length - (intOf s81).toNat)
          case atStart => exact ⟨0, x, _, [], rfl, rfl, Nat.zero_le _, hT, by rw [← HX00.out]; exact HP0⟩
          case round =>
            clear hT c0
            obtain ⟨i, x, ov, O, rfl, rfl, hid, hT, HP⟩ := hrel
            have hle := HP.out.le
            simp only [List.length_map] at hle
            have hdl : d.length ≤ 1000000 := by have := ch_len hk.ch; simp only [List.length_map] at this; omega
            by_cases hi : i < d.length
            · have hown := hT.own
              rw [HV.out] at hown
              obtain ⟨b, of2, rfl, hbl, d0, d1⟩ := pv_at hown i hi
              have hilp : i < (lp d).length := by simpa using hi
              have hyL : (lp d)[i] = d[i].1 := by simp
              obtain ⟨y, hy⟩ : ∃ y, y = d[i] := ⟨_, rfl⟩
              have hyr := (hT.ps d[i] (List.getElem_mem hi)).1
              have hyq : 0 ≤ y.1.1 ∧ pe y.1 ≤ QM := by
                have h1 := hk.ch.up.1 (lp d)[i] (List.getElem_mem hilp)
                have h2 := hk.hi (lp d)[i] (List.getElem_mem hilp)
                rw [hyL, ← hy] at h1 h2
                exact ⟨by omega, h2⟩
              rw [← hy] at d0 d1 hyr hyL
              obtain ⟨⟨oy, ly⟩, Ay, ny, cy⟩ := y
              obtain ⟨_, _, hf⟩ := hyr.form
              simp only [pvv, Value.slice.injEq] at hf
              obtain ⟨rfl, rfl, rfl⟩ := hf
              simp only [pvv] at d0 d1 hyr hyq
              have hiI : (i : Int) < (d.length : Int) := by omega
              have HYL := Lib.hid hyL
              have HOWN := Lib.hid hown
              have hYR := Lib.hid hyr
              clear hy hyL hown hyr hbl
              obtain ⟨yb, hyb⟩ : ∃ yb, yb = wr.heap.size := ⟨_, rfl⟩
              have hT2 : PT (fun b => S b ∧ b < w.heap.size) B w (wr.alloc (.cells #[.int .u64 oy, .slice Ay ly.length cy] 66)) g V d rd hi' la' kn' xb x ov O ∧ Blk (wr.alloc (.cells #[.int .u64 oy, .slice Ay ly.length cy] 66)) yb 66 #[.int .u64 oy, .slice Ay ly.length cy] ∧ yb ≠ xb ∧ ov.ownBlock ≠ some yb :=
                ⟨hT.alloc _, by rw [hyb]; exact Blk.new _ _ _, by have := hT.xc.lt; omega, fun e => by have := hT.out.lt yb e; omega⟩
              have HT2 := Lib.hid hT2
              clear hT2 hT
              go_upto_region 15 with (fail)
              rw [← hyb]
              refine wp_world (fun wz => PT (fun b => S b ∧ b < w.heap.size) B w wz g V d rd hi' la' kn' xb x ov O ∧ Blk wz yb 66 #[.int .u64 oy, .slice Ay ly.length cy] ∧ yb ≠ xb ∧ ov.ownBlock ≠ some yb) HT2.out ?_
              clear HT2 d0 d1 hyb HOWN hYR
              rintro w2 ⟨hT, hY, hyx, hyo⟩
              obtain ⟨⟨ox, lx⟩, Ax, nx, cx⟩ := x
              obtain ⟨_, _, hf⟩ := hT.xr.form
              simp only [pvv, Value.slice.injEq] at hf
              obtain ⟨rfl, rfl, rfl⟩ := hf
              obtain ⟨hxlo, hxhi⟩ : 0 ≤ ox ∧ pe (ox, lx) ≤ QM := ⟨HP.out.lo, HP.out.hi⟩
              go_cut [14, 81, 89] from 81 to 133 (fun s14 s81 s89 wx => s14 = .pointer (some ⟨yb, 0, none⟩) ∧ s81 = .int .i64 i ∧ s89 = .bool (decide (pe (ox, lx) ≤ oy)) ∧ PT (fun b => S b ∧ b < w.heap.size) B w wx g V d rd hi' la' kn' xb ((ox, lx), (Ax, lx.length, cx)) ov O ∧ Blk wx yb 66 #[.int .u64 oy, .slice Ay ly.length cy])
              case first =>
                have x0 : w2.cell? ⟨xb, 0, none⟩ = some (.int .u64 ox) := hT.xc.cell 0
                have x1 : w2.cell? ⟨xb, 1, none⟩ = some (.slice Ax lx.length cx) := hT.xc.cell 1
                have y0 : w2.cell? ⟨yb, 0, none⟩ = some (.int .u64 oy) := hY.cell 0
                have HT := Lib.hid hT
                have HYB := Lib.hid hY
                have hylt := hY.lt
                clear hT hY
                go_region_with (go_at_call 31; refine (pend_any (ox, lx) Ax cx _ ⟨hxlo, hxhi⟩).mono ?_; rintro e w3 ⟨rfl, hb3⟩; have cy3 := (hb3.cell (p := ⟨yb, 0, none⟩) hylt).trans y0)
                all_goals
                  go_wp2_with fail
                  go_meet
                  case rel => exact ⟨rfl, rfl, rfl, HT.out.drew.below hb3, HYB.out.drew.same hb3⟩
              case rest =>
                obtain ⟨rfl, rfl, rfl, hT, hY⟩ := hcut
                by_cases hbr : pe (ox, lx) ≤ oy
                · have hbr' : decide (pe (ox, lx) ≤ oy) = true := decide_eq_true hbr
                  go_wp2_with fail
                  go_meet
                  case rel => exact ⟨_, _, O, rfl, hT, HP.out.brk hilp (by rw [HYL.out]; exact hbr), by omega⟩
                · have hbr' : decide (pe (ox, lx) ≤ oy) = false := decide_eq_false hbr
                  have x0 : wc.cell? ⟨xb, 0, none⟩ = some (.int .u64 ox) := hT.xc.cell 0
                  have x1 : wc.cell? ⟨xb, 1, none⟩ = some (.slice Ax lx.length cx) := hT.xc.cell 1
                  have y0 : wc.cell? ⟨yb, 0, none⟩ = some (.int .u64 oy) := hY.cell 0
                  go_upto_if 94 with (fail)
                  go_cut [12, 14, 81] from 81 to 133 (fun s12 s14 s81 wx => ∃ (ov' : Value) (O' : List PV), ov' = s12 ∧ s14 = .pointer (some ⟨yb, 0, none⟩) ∧ s81 = .int .i64 i ∧ PT (fun b => S b ∧ b < w.heap.size) B w wx g V d rd hi' la' kn' xb ((ox, lx), (Ax, lx.length, cx)) ov' O' ∧ Blk wx yb 66 #[.int .u64 oy, .slice Ay ly.length cy] ∧ lp O' = lp O ++ hd1 (ox, lx) (oy, ly))
                  case first =>
                    by_cases hh : ox < oy
                    · have hpx : pe (ox, lx) = ox + lx.length := rfl
                      have hpx2 : ox + (lx.length : Int) ≤ 4611686018427387903 := hxhi
                      obtain ⟨k, hk0⟩ : ∃ k : Nat, k = (oy - ox).toNat := ⟨_, rfl⟩
                      obtain ⟨n, hn⟩ : ∃ n, n = lx.length := ⟨_, rfl⟩
                      rw [hpx, ← hn] at hbr
                      rw [← hn] at hpx2 x1
                      have hw1 : IntKind.u64.wrap (oy - ox) = (k : Int) := by rw [Go.IntWalk.u64_in _ (by omega)]; omega
                      have hkn : k ≤ n := by omega
                      have hpre := hT.xr.pre (m := k) (by simp only; omega)
                      obtain ⟨_, _, hcn, hcm2, _⟩ := hT.xr.1.rdv
                      simp only at hcn
                      rw [← hn] at hcn
                      have hcm3 : cx ≤ 9223372036854775807 := by unfold maxLen at hcm2; omega
                      have hkc : (k : Int) ≤ (cx : Int) := by omega
                      have hk00 : (0 : Int) ≤ (k : Int) := by omega
                      have hhd : hd1 (ox, lx) (oy, ly) = [(ox, lx.take k)] := by
                        rw [show hd1 (ox, lx) (oy, ly) = if ox < oy then [(ox, lx.take (oy - ox).toNat)] else [] from rfl, if_pos hh, ← hk0]
                      have htk : (lx.take k).length = k := by rw [List.length_take]; omega
                      have HHD := Lib.hid hhd
                      have HT := Lib.hid hT
                      have HYB := Lib.hid hY
                      have HPRE := Lib.hid hpre
                      have HTK := Lib.hid htk
                      have HN := Lib.hid hn
                      clear hhd hT hY hpre htk hk0 hn hbr' hbr hpx hcn hcm2
                      go_wp2_with fail
                      refine wp_region_held_drew (S := fun w' => w'.cell? ⟨xb, 0, none⟩ = some (.int .u64 ox) ∧ w'.cell? ⟨xb, 1, none⟩ = some (.slice Ax n cx) ∧ w'.cell? ⟨yb, 0, none⟩ = some (.int .u64 oy)) (by kernel_rfl) (by first | exact ⟨x0, x1, y0⟩ | exact ⟨a0, a1, a2⟩ | exact ⟨b0, b1, b2⟩) (fun _ => ?_)
                      refine wpAnyH_take (i := 0) (oi := ({ dst := some 95, op := Op.move (Operand.tmp 12), type := 61, pos := _, after := #[], guard := none } : Oper)) (v := ?_) rfl (by kernel_rfl) (by kernel_rfl) (by kernel_rfl) (fun _ _ _ h => h) (Or.inl ⟨by rfl, ?_⟩) (by first | exact ⟨x0, x1, y0⟩ | exact ⟨a0, a1, a2⟩ | exact ⟨b0, b1, b2⟩) ?_
                      rotate_left
                      · intro w hSw
                        try dsimp only at hSw
                        go_simp
                        try with_reducible rfl
                      try simp only [Act.put, List.setIfInBounds_toArray, List.set_cons_zero, List.set_cons_succ]
                      refine wpAnyH_take (i := 1) (oi := ({ dst := some 96, op := Op.fieldAddr 66 (Operand.tmp 10) 0, type := 0, pos := _, after := #[], guard := none } : Oper)) (v := ?_) rfl (by kernel_rfl) (by kernel_rfl) (by kernel_rfl) (fun _ _ _ h => h) (Or.inl ⟨by rfl, ?_⟩) (by first | exact ⟨x0, x1, y0⟩ | exact ⟨a0, a1, a2⟩ | exact ⟨b0, b1, b2⟩) ?_
                      rotate_left
                      · intro w hSw
                        try dsimp only at hSw
                        go_simp
                        try with_reducible rfl
                      try simp only [Act.put, List.setIfInBounds_toArray, List.set_cons_zero, List.set_cons_succ]
                      refine wpAnyH_take (i := 2) (oi := ({ dst := some 97, op := Op.load 27 (Operand.tmp 96), type := 27, pos := _, after := #[{ on := 1, ground := Ground.data }], guard := none } : Oper)) (v := ?_) rfl (by kernel_rfl) (by kernel_rfl) (by kernel_rfl) (fun _ _ _ h => h) (Or.inl ⟨by rfl, ?_⟩) (by first | exact ⟨x0, x1, y0⟩ | exact ⟨a0, a1, a2⟩ | exact ⟨b0, b1, b2⟩) ?_
                      rotate_left
                      · intro w hSw
                        try dsimp only at hSw
                        go_simp
                        try with_reducible rfl
                      try simp only [Act.put, List.setIfInBounds_toArray, List.set_cons_zero, List.set_cons_succ]
                      refine wpAnyH_take (i := 3) (oi := ({ dst := some 98, op := Op.fieldAddr 66 (Operand.tmp 10) 1, type := 0, pos := _, after := #[], guard := none } : Oper)) (v := ?_) rfl (by kernel_rfl) (by kernel_rfl) (by kernel_rfl) (fun _ _ _ h => h) (Or.inl ⟨by rfl, ?_⟩) (by first | exact ⟨x0, x1, y0⟩ | exact ⟨a0, a1, a2⟩ | exact ⟨b0, b1, b2⟩) ?_
                      rotate_left
                      · intro w hSw
                        try dsimp only at hSw
                        go_simp
                        try with_reducible rfl
                      try simp only [Act.put, List.setIfInBounds_toArray, List.set_cons_zero, List.set_cons_succ]
                      refine wpAnyH_take (i := 4) (oi := ({ dst := some 99, op := Op.load 22 (Operand.tmp 98), type := 22, pos := _, after := #[{ on := 3, ground := Ground.data }], guard := none } : Oper)) (v := ?_) rfl (by kernel_rfl) (by kernel_rfl) (by kernel_rfl) (fun _ _ _ h => h) (Or.inl ⟨by rfl, ?_⟩) (by first | exact ⟨x0, x1, y0⟩ | exact ⟨a0, a1, a2⟩ | exact ⟨b0, b1, b2⟩) ?_
                      rotate_left
                      · intro w hSw
                        try dsimp only at hSw
                        go_simp
                        try with_reducible rfl
                      try simp only [Act.put, List.setIfInBounds_toArray, List.set_cons_zero, List.set_cons_succ]
                      refine wpAnyH_take (i := 5) (oi := ({ dst := some 100, op := Op.fieldAddr 66 (Operand.tmp 14) 0, type := 0, pos := _, after := #[], guard := none } : Oper)) (v := ?_) rfl (by kernel_rfl) (by kernel_rfl) (by kernel_rfl) (fun _ _ _ h => h) (Or.inl ⟨by rfl, ?_⟩) (by first | exact ⟨x0, x1, y0⟩ | exact ⟨a0, a1, a2⟩ | exact ⟨b0, b1, b2⟩) ?_
                      rotate_left
                      · intro w hSw
                        try dsimp only at hSw
                        go_simp
                        try with_reducible rfl
                      try simp only [Act.put, List.setIfInBounds_toArray, List.set_cons_zero, List.set_cons_succ]
                      refine wpAnyH_take (i := 6) (oi := ({ dst := some 101, op := Op.load 27 (Operand.tmp 100), type := 27, pos := _, after := #[{ on := 5, ground := Ground.data }], guard := none } : Oper)) (v := ?_) rfl (by kernel_rfl) (by kernel_rfl) (by kernel_rfl) (fun _ _ _ h => h) (Or.inl ⟨by rfl, ?_⟩) (by first | exact ⟨x0, x1, y0⟩ | exact ⟨a0, a1, a2⟩ | exact ⟨b0, b1, b2⟩) ?_
                      rotate_left
                      · intro w hSw
                        try dsimp only at hSw
                        go_simp
                        try with_reducible rfl
                      try simp only [Act.put, List.setIfInBounds_toArray, List.set_cons_zero, List.set_cons_succ]
                      refine wpAnyH_take (i := 7) (oi := ({ dst := some 102, op := Op.fieldAddr 66 (Operand.tmp 10) 0, type := 0, pos := _, after := #[], guard := none } : Oper)) (v := ?_) rfl (by kernel_rfl) (by kernel_rfl) (by kernel_rfl) (fun _ _ _ h => h) (Or.inl ⟨by rfl, ?_⟩) (by first | exact ⟨x0, x1, y0⟩ | exact ⟨a0, a1, a2⟩ | exact ⟨b0, b1, b2⟩) ?_
                      rotate_left
                      · intro w hSw
                        try dsimp only at hSw
                        go_simp
                        try with_reducible rfl
                      try simp only [Act.put, List.setIfInBounds_toArray, List.set_cons_zero, List.set_cons_succ]
                      refine wpAnyH_take (i := 8) (oi := ({ dst := some 103, op := Op.load 27 (Operand.tmp 102), type := 27, pos := _, after := #[{ on := 7, ground := Ground.data }], guard := none } : Oper)) (v := ?_) rfl (by kernel_rfl) (by kernel_rfl) (by kernel_rfl) (fun _ _ _ h => h) (Or.inl ⟨by rfl, ?_⟩) (by first | exact ⟨x0, x1, y0⟩ | exact ⟨a0, a1, a2⟩ | exact ⟨b0, b1, b2⟩) ?_
                      rotate_left
                      · intro w hSw
                        try dsimp only at hSw
                        go_simp
                        try with_reducible rfl
                      try simp only [Act.put, List.setIfInBounds_toArray, List.set_cons_zero, List.set_cons_succ]
                      refine wpAnyH_take (i := 9) (oi := ({ dst := some 104, op := Op.binOp BinOp.sub 27 (Operand.tmp 101) (Operand.tmp 103) 27, type := 27, pos := _, after := #[{ on := 6, ground := Ground.data }, { on := 8, ground := Ground.data }], guard := none } : Oper)) (v := ?_) rfl (by kernel_rfl) (by kernel_rfl) (by kernel_rfl) (fun _ _ _ h => h) (Or.inl ⟨by rfl, ?_⟩) (by first | exact ⟨x0, x1, y0⟩ | exact ⟨a0, a1, a2⟩ | exact ⟨b0, b1, b2⟩) ?_
                      rotate_left
                      · intro w hSw
                        try dsimp only at hSw
                        go_simp
                        try with_reducible rfl
                      try simp only [Act.put, List.setIfInBounds_toArray, List.set_cons_zero, List.set_cons_succ]
                      refine wpAnyH_take (i := 10) (oi := ({ dst := some 105, op := Op.slice 22 (Operand.tmp 99) none (some (Operand.tmp 104)) none, type := 22, pos := _, after := #[{ on := 4, ground := Ground.data }, { on := 9, ground := Ground.data }], guard := none } : Oper)) (v := ?_) rfl (by kernel_rfl) (by kernel_rfl) (by kernel_rfl) (fun _ _ _ h => h) (Or.inl ⟨by rfl, ?_⟩) (by first | exact ⟨x0, x1, y0⟩ | exact ⟨a0, a1, a2⟩ | exact ⟨b0, b1, b2⟩) ?_
                      rotate_left
                      · intro w hSw
                        try dsimp only at hSw
                        go_simp
                        try with_reducible rfl
                      try simp only [Act.put, List.setIfInBounds_toArray, List.set_cons_zero, List.set_cons_succ]
                      refine wpAnyH_take (i := 11) (oi := ({ dst := some 106, op := Op.build 66 #[(0, Operand.tmp 97), (1, Operand.tmp 105)], type := 66, pos := _, after := #[{ on := 2, ground := Ground.data }, { on := 10, ground := Ground.data }], guard := none } : Oper)) (v := ?_) rfl (by kernel_rfl) (by kernel_rfl) (by kernel_rfl) (fun _ _ _ h => h) (Or.inl ⟨by rfl, ?_⟩) (by first | exact ⟨x0, x1, y0⟩ | exact ⟨a0, a1, a2⟩ | exact ⟨b0, b1, b2⟩) ?_
                      rotate_left
                      · intro w hSw
                        try dsimp only at hSw
                        go_simp
                        try with_reducible rfl
                      try simp only [Act.put, List.setIfInBounds_toArray, List.set_cons_zero, List.set_cons_succ]
                      refine wpAnyH_ready (rs := [12]) (by kernel_rfl) (by simp) ?_
                      refine AllReadyH.cons (o := ({ dst := some 107, op := Op.buildSlice 61 1 #[(0, Operand.tmp 106)], type := 61, pos := _, after := #[{ on := 11, ground := Ground.data }], guard := none } : Oper)) rfl (fun K hK => ?_) AllReadyH.nil
                      go_simp
                      have hTa := (HT.out.alloc (.cells #[.int .u64 ox, .slice Ax k cx] 66)).drew
                      have hYa := (HYB.out.alloc (.cells #[.int .u64 ox, .slice Ax k cx] 66)).drew
                      have a0 := hTa.xc.cell 0
                      have a1 : ((wc.alloc (.cells #[.int .u64 ox, .slice Ax k cx] 66)).drew).cell? ⟨xb, 1, none⟩ = some (.slice Ax n cx) := by rw [HN.out]; exact hTa.xc.cell 1
                      have a2 := hYa.cell 0
                      refine hK.out _ _ (by first | exact ⟨x0, x1, y0⟩ | exact ⟨a0, a1, a2⟩ | exact ⟨b0, b1, b2⟩) (fun _ => ?_)
                      clear hK K
                      try simp only [Act.put, List.setIfInBounds_toArray, List.set_cons_zero, List.set_cons_succ]
                      refine wpAnyH_ready (rs := [13]) (by kernel_rfl) (by simp) ?_
                      refine AllReadyH.cons (o := ({ dst := some 108, op := Op.call { callee := Callee.builtin Builtin.append, args := #[Operand.tmp 95, Operand.tmp 107], argTypes := #[61, 61] }, type := 61, pos := _, after := #[{ on := 0, ground := Ground.data }, { on := 12, ground := Ground.data }], guard := none } : Oper)) rfl (fun K hK => ?_) AllReadyH.nil
                      refine step_append_mid rfl _ _ 61 rfl w.heap.size 66 iP _ 2 32 Try.underlying61 hip hp0 hp1 hp2 rfl (by decide) ov O.length (pvc O) rfl hTa.out (some ⟨wc.heap.size, 0, none⟩) 1 1 (encP ((ox, lx.take k), (Ax, k, cx))) rfl (rdv_pair wc _ _) (encP_one _) (by unfold maxLen; omega) (by omega) hTa.on.size (fun h => by cases h) ?_
                      intro v2 w4 hown2 hgrow2 hat2
                      have hTb := hTa.app (y := ((ox, lx.take k), (Ax, k, cx))) ((HPRE.out.alloc (.cells #[.int .u64 ox, .slice Ax k cx] 66)).drew) (fun b2 hb2 => HT.out.xs b2 (by cases Ax with | none => simp [pvv, Value.ownBlock] at hb2 | some ax => simpa [pvv, Value.ownBlock] using hb2)) hown2 hgrow2 hat2
                      have hYb := hYa.grown hgrow2 (fun e => hyo e.symm)
                      have b0 := hTb.xc.cell 0
                      have b1 : w4.cell? ⟨xb, 1, none⟩ = some (.slice Ax n cx) := by rw [HN.out]; exact hTb.xc.cell 1
                      have b2 := hYb.cell 0
                      refine hK.out _ _ (by first | exact ⟨x0, x1, y0⟩ | exact ⟨a0, a1, a2⟩ | exact ⟨b0, b1, b2⟩) (fun _ => ?_)
                      clear hK K
                      try simp only [Act.put, List.setIfInBounds_toArray, List.set_cons_zero, List.set_cons_succ]
                      refine wpAnyH_take (i := 14) (oi := ({ dst := some 12, op := Op.assign (Operand.tmp 108), type := 61, pos := _, after := #[{ on := 13, ground := Ground.data }, { on := 13, ground := Ground.chain }, { on := 0, ground := Ground.phase }, { on := 1, ground := Ground.phase }, { on := 2, ground := Ground.phase }, { on := 3, ground := Ground.phase }, { on := 4, ground := Ground.phase }, { on := 5, ground := Ground.phase }, { on := 6, ground := Ground.phase }, { on := 7, ground := Ground.phase }, { on := 8, ground := Ground.phase }, { on := 9, ground := Ground.phase }, { on := 10, ground := Ground.phase }, { on := 11, ground := Ground.phase }, { on := 12, ground := Ground.phase }, { on := 13, ground := Ground.phase }], guard := none } : Oper)) (v := ?_) rfl (by kernel_rfl) (by kernel_rfl) (by kernel_rfl) (fun _ _ _ h => h) (Or.inl ⟨by rfl, ?_⟩) (by first | exact ⟨x0, x1, y0⟩ | exact ⟨a0, a1, a2⟩ | exact ⟨b0, b1, b2⟩) ?_
                      rotate_left
                      · intro w hSw
                        try dsimp only at hSw
                        go_simp
                        try with_reducible rfl
                      try simp only [Act.put, List.setIfInBounds_toArray, List.set_cons_zero, List.set_cons_succ]
                      refine wpAnyH_done (by kernel_rfl) ?_ _
                      go_wp2_with fail
                      go_meet
                      case rel => exact ⟨_, _, rfl, rfl, rfl, hTb, hYb, by rw [HHD.out]; simp [lp]⟩
                    · have hh' : hd1 (ox, lx) (oy, ly) = [] := if_neg hh
                      go_wp2_with fail
                      go_meet
                      case rel => exact ⟨_, O, rfl, rfl, rfl, hT, hY, by rw [hh', List.append_nil]⟩
                  case rest =>
                    obtain ⟨ov', O', rfl, rfl, rfl, hT, hY, hO'⟩ := hcut
                    obtain ⟨av, hav⟩ : ∃ av : Nat, av = avn (ox, lx) (oy, ly) := ⟨_, rfl⟩
                    have hgo := HP.out.go hilp (by rw [HYL.out]; exact hbr)
                    rw [HYL.out, ← hO'] at hgo
                    have hadv : adv (ox, lx) (oy, ly) = (ox + av, lx.drop av) := by rw [hav]; rfl
                    rw [hadv] at hgo
                    have HGO := Lib.hid hgo
                    have havl : av ≤ lx.length := by rw [hav]; unfold avn; exact Nat.min_le_right _ _
                    have hol : O'.length ≤ i + 1 := by have := hgo.le; simpa using this
                    have hpx2 : ox + (lx.length : Int) ≤ 4611686018427387903 := hxhi
                    obtain ⟨n, hn⟩ : ∃ n, n = lx.length := ⟨_, rfl⟩
                    have hmn : min (max (pe (oy, ly)) ox - ox) (n : Int) = (av : Int) := by rw [hav, hn]; unfold avn; simp only; omega
                    have hpy2 : pe (oy, ly) ≤ 4611686018427387903 := hyq.2
                    have HN := Lib.hid hn
                    have x0 : wc.cell? ⟨xb, 0, none⟩ = some (.int .u64 ox) := hT.xc.cell 0
                    have x1 : wc.cell? ⟨xb, 1, none⟩ = some (.slice Ax n cx) := by rw [hn]; exact hT.xc.cell 1
                    have y0 : wc.cell? ⟨yb, 0, none⟩ = some (.int .u64 oy) := hY.cell 0
                    have y1 : wc.cell? ⟨yb, 1, none⟩ = some (.slice Ay ly.length cy) := hY.cell 1
                    rw [← hn] at hpx2
                    have hw1 : IntKind.u64.wrap (max (pe (oy, ly)) ox - ox) = max (pe (oy, ly)) ox - ox := Go.IntWalk.u64_in _ (by omega)
                    have hw2 : IntKind.u64.wrap (n : Int) = n := Go.IntWalk.u64_in _ (by omega)
                    have hw3 : IntKind.u64.wrap (ox + (av : Int)) = ox + av := Go.IntWalk.u64_in _ (by omega)
                    clear hgo hadv hav hO' hn
                    go_upto_region 18 with (fail)
                    go_cut [15, 81] from 81 to 133 (fun s15 s81 wx => s15 = .int .u64 av ∧ s81 = .int .i64 i ∧ PT (fun b => S b ∧ b < w.heap.size) B w wx g V d rd hi' la' kn' xb ((ox, lx), (Ax, lx.length, cx)) ov' O')
                    case first =>
                      have HT := Lib.hid hT
                      have hylt := hY.lt
                      have hxlt := hT.xc.lt
                      clear hT hY
                      go_wp2_with fail
                      refine wp_region_held_drew (S := fun w' => w'.cell? ⟨xb, 0, none⟩ = some (.int .u64 ox) ∧ w'.cell? ⟨xb, 1, none⟩ = some (.slice Ax n cx) ∧ w'.cell? ⟨yb, 0, none⟩ = some (.int .u64 oy) ∧ w'.cell? ⟨yb, 1, none⟩ = some (.slice Ay ly.length cy)) (by kernel_rfl) (by first | exact ⟨x0, x1, y0, y1⟩ | exact ⟨a0, a1, a2, a3⟩) (fun _ => ?_)
                      refine wpAnyH_take (i := 0) (oi := ({ dst := some 109, op := Op.load 66 (Operand.tmp 14), type := 66, pos := _, after := #[], guard := none } : Oper)) (v := ?_) rfl (by kernel_rfl) (by kernel_rfl) (by kernel_rfl) (fun _ _ _ h => h) (Or.inl ⟨by rfl, ?_⟩) (by first | exact ⟨x0, x1, y0, y1⟩ | exact ⟨a0, a1, a2, a3⟩) ?_
                      rotate_left
                      · intro w hSw
                        try dsimp only at hSw
                        go_simp
                        try with_reducible rfl
                      try simp only [Act.put, List.setIfInBounds_toArray, List.set_cons_zero, List.set_cons_succ]
                      refine wpAnyH_take (i := 2) (oi := ({ dst := some 111, op := Op.fieldAddr 66 (Operand.tmp 10) 0, type := 0, pos := _, after := #[], guard := none } : Oper)) (v := ?_) rfl (by kernel_rfl) (by kernel_rfl) (by kernel_rfl) (fun _ _ _ h => h) (Or.inl ⟨by rfl, ?_⟩) (by first | exact ⟨x0, x1, y0, y1⟩ | exact ⟨a0, a1, a2, a3⟩) ?_
                      rotate_left
                      · intro w hSw
                        try dsimp only at hSw
                        go_simp
                        try with_reducible rfl
                      try simp only [Act.put, List.setIfInBounds_toArray, List.set_cons_zero, List.set_cons_succ]
                      refine wpAnyH_take (i := 3) (oi := ({ dst := some 112, op := Op.load 27 (Operand.tmp 111), type := 27, pos := _, after := #[{ on := 2, ground := Ground.data }], guard := none } : Oper)) (v := ?_) rfl (by kernel_rfl) (by kernel_rfl) (by kernel_rfl) (fun _ _ _ h => h) (Or.inl ⟨by rfl, ?_⟩) (by first | exact ⟨x0, x1, y0, y1⟩ | exact ⟨a0, a1, a2, a3⟩) ?_
                      rotate_left
                      · intro w hSw
                        try dsimp only at hSw
                        go_simp
                        try with_reducible rfl
                      try simp only [Act.put, List.setIfInBounds_toArray, List.set_cons_zero, List.set_cons_succ]
                      refine wpAnyH_take (i := 5) (oi := ({ dst := some 114, op := Op.fieldAddr 66 (Operand.tmp 10) 0, type := 0, pos := _, after := #[], guard := none } : Oper)) (v := ?_) rfl (by kernel_rfl) (by kernel_rfl) (by kernel_rfl) (fun _ _ _ h => h) (Or.inl ⟨by rfl, ?_⟩) (by first | exact ⟨x0, x1, y0, y1⟩ | exact ⟨a0, a1, a2, a3⟩) ?_
                      rotate_left
                      · intro w hSw
                        try dsimp only at hSw
                        go_simp
                        try with_reducible rfl
                      try simp only [Act.put, List.setIfInBounds_toArray, List.set_cons_zero, List.set_cons_succ]
                      refine wpAnyH_take (i := 6) (oi := ({ dst := some 115, op := Op.load 27 (Operand.tmp 114), type := 27, pos := _, after := #[{ on := 5, ground := Ground.data }], guard := none } : Oper)) (v := ?_) rfl (by kernel_rfl) (by kernel_rfl) (by kernel_rfl) (fun _ _ _ h => h) (Or.inl ⟨by rfl, ?_⟩) (by first | exact ⟨x0, x1, y0, y1⟩ | exact ⟨a0, a1, a2, a3⟩) ?_
                      rotate_left
                      · intro w hSw
                        try dsimp only at hSw
                        go_simp
                        try with_reducible rfl
                      try simp only [Act.put, List.setIfInBounds_toArray, List.set_cons_zero, List.set_cons_succ]
                      refine wpAnyH_take (i := 8) (oi := ({ dst := some 117, op := Op.fieldAddr 66 (Operand.tmp 10) 1, type := 0, pos := _, after := #[], guard := none } : Oper)) (v := ?_) rfl (by kernel_rfl) (by kernel_rfl) (by kernel_rfl) (fun _ _ _ h => h) (Or.inl ⟨by rfl, ?_⟩) (by first | exact ⟨x0, x1, y0, y1⟩ | exact ⟨a0, a1, a2, a3⟩) ?_
                      rotate_left
                      · intro w hSw
                        try dsimp only at hSw
                        go_simp
                        try with_reducible rfl
                      try simp only [Act.put, List.setIfInBounds_toArray, List.set_cons_zero, List.set_cons_succ]
                      refine wpAnyH_take (i := 9) (oi := ({ dst := some 118, op := Op.load 22 (Operand.tmp 117), type := 22, pos := _, after := #[{ on := 8, ground := Ground.data }], guard := none } : Oper)) (v := ?_) rfl (by kernel_rfl) (by kernel_rfl) (by kernel_rfl) (fun _ _ _ h => h) (Or.inl ⟨by rfl, ?_⟩) (by first | exact ⟨x0, x1, y0, y1⟩ | exact ⟨a0, a1, a2, a3⟩) ?_
                      rotate_left
                      · intro w hSw
                        try dsimp only at hSw
                        go_simp
                        try with_reducible rfl
                      try simp only [Act.put, List.setIfInBounds_toArray, List.set_cons_zero, List.set_cons_succ]
                      refine wpAnyH_take (i := 10) (oi := ({ dst := some 119, op := Op.call { callee := Callee.builtin Builtin.len, args := #[Operand.tmp 118], argTypes := #[22] }, type := 3, pos := _, after := #[{ on := 9, ground := Ground.data }], guard := none } : Oper)) (v := ?_) rfl (by kernel_rfl) (by kernel_rfl) (by kernel_rfl) (fun _ _ _ h => h) (Or.inl ⟨by rfl, ?_⟩) (by first | exact ⟨x0, x1, y0, y1⟩ | exact ⟨a0, a1, a2, a3⟩) ?_
                      rotate_left
                      · intro w hSw
                        try dsimp only at hSw
                        go_simp
                        try with_reducible rfl
                      try simp only [Act.put, List.setIfInBounds_toArray, List.set_cons_zero, List.set_cons_succ]
                      refine wpAnyH_take (i := 11) (oi := ({ dst := some 120, op := Op.convert 3 27 (Operand.tmp 119), type := 27, pos := _, after := #[{ on := 10, ground := Ground.data }], guard := none } : Oper)) (v := ?_) rfl (by kernel_rfl) (by kernel_rfl) (by kernel_rfl) (fun _ _ _ h => h) (Or.inl ⟨by rfl, ?_⟩) (by first | exact ⟨x0, x1, y0, y1⟩ | exact ⟨a0, a1, a2, a3⟩) ?_
                      rotate_left
                      · intro w hSw
                        try dsimp only at hSw
                        go_simp
                        try with_reducible rfl
                      try simp only [Act.put, List.setIfInBounds_toArray, List.set_cons_zero, List.set_cons_succ]
                      refine wpAnyH_ready (rs := [1]) (by kernel_rfl) (by simp) ?_
                      refine AllReadyH.cons (o := ({ dst := some 110, op := Op.call { callee := Callee.value (Operand.func 31), args := #[Operand.tmp 109], argTypes := #[66] }, type := 27, pos := _, after := #[{ on := 0, ground := Ground.data }], guard := none } : Oper)) rfl (fun K hK => ?_) AllReadyH.nil
                      go_simp
                      go_at_call 31
                      refine (pend_any (oy, ly) Ay cy _ hyq).mono ?_
                      rintro e w3 ⟨rfl, hb3⟩
                      have a0 := (hb3.cell (p := ⟨xb, 0, none⟩) hxlt).trans x0
                      have a1 := (hb3.cell (p := ⟨xb, 1, none⟩) hxlt).trans x1
                      have a2 := (hb3.cell (p := ⟨yb, 0, none⟩) hylt).trans y0
                      have a3 := (hb3.cell (p := ⟨yb, 1, none⟩) hylt).trans y1
                      refine hK.out _ _ (by first | exact ⟨x0, x1, y0, y1⟩ | exact ⟨a0, a1, a2, a3⟩) (fun _ => ?_)
                      clear hK K
                      try simp only [Act.put, List.setIfInBounds_toArray, List.set_cons_zero, List.set_cons_succ]
                      refine wpAnyH_take (i := 4) (oi := ({ dst := some 113, op := Op.call { callee := Callee.builtin Builtin.max, args := #[Operand.tmp 110, Operand.tmp 112], argTypes := #[27, 27] }, type := 27, pos := _, after := #[{ on := 1, ground := Ground.data }, { on := 3, ground := Ground.data }], guard := none } : Oper)) (v := ?_) rfl (by kernel_rfl) (by kernel_rfl) (by kernel_rfl) (fun _ _ _ h => h) (Or.inl ⟨by rfl, ?_⟩) (by first | exact ⟨x0, x1, y0, y1⟩ | exact ⟨a0, a1, a2, a3⟩) ?_
                      rotate_left
                      · intro w hSw
                        try dsimp only at hSw
                        go_simp
                        try with_reducible rfl
                      try simp only [Act.put, List.setIfInBounds_toArray, List.set_cons_zero, List.set_cons_succ]
                      refine wpAnyH_take (i := 7) (oi := ({ dst := some 116, op := Op.binOp BinOp.sub 27 (Operand.tmp 113) (Operand.tmp 115) 27, type := 27, pos := _, after := #[{ on := 4, ground := Ground.data }, { on := 6, ground := Ground.data }], guard := none } : Oper)) (v := ?_) rfl (by kernel_rfl) (by kernel_rfl) (by kernel_rfl) (fun _ _ _ h => h) (Or.inl ⟨by rfl, ?_⟩) (by first | exact ⟨x0, x1, y0, y1⟩ | exact ⟨a0, a1, a2, a3⟩) ?_
                      rotate_left
                      · intro w hSw
                        try dsimp only at hSw
                        go_simp
                        try with_reducible rfl
                      try simp only [Act.put, List.setIfInBounds_toArray, List.set_cons_zero, List.set_cons_succ]
                      refine wpAnyH_take (i := 12) (oi := ({ dst := some 121, op := Op.call { callee := Callee.builtin Builtin.min, args := #[Operand.tmp 116, Operand.tmp 120], argTypes := #[27, 27] }, type := 27, pos := _, after := #[{ on := 7, ground := Ground.data }, { on := 11, ground := Ground.data }], guard := none } : Oper)) (v := ?_) rfl (by kernel_rfl) (by kernel_rfl) (by kernel_rfl) (fun _ _ _ h => h) (Or.inl ⟨by rfl, ?_⟩) (by first | exact ⟨x0, x1, y0, y1⟩ | exact ⟨a0, a1, a2, a3⟩) ?_
                      rotate_left
                      · intro w hSw
                        try dsimp only at hSw
                        go_simp
                        try with_reducible rfl
                      try simp only [Act.put, List.setIfInBounds_toArray, List.set_cons_zero, List.set_cons_succ]
                      refine wpAnyH_take (i := 13) (oi := ({ dst := some 15, op := Op.assign (Operand.tmp 121), type := 27, pos := _, after := #[{ on := 12, ground := Ground.data }, { on := 1, ground := Ground.chain }, { on := 0, ground := Ground.phase }, { on := 1, ground := Ground.phase }, { on := 2, ground := Ground.phase }, { on := 3, ground := Ground.phase }, { on := 4, ground := Ground.phase }, { on := 5, ground := Ground.phase }, { on := 6, ground := Ground.phase }, { on := 7, ground := Ground.phase }, { on := 8, ground := Ground.phase }, { on := 9, ground := Ground.phase }, { on := 10, ground := Ground.phase }, { on := 11, ground := Ground.phase }, { on := 12, ground := Ground.phase }], guard := none } : Oper)) (v := ?_) rfl (by kernel_rfl) (by kernel_rfl) (by kernel_rfl) (fun _ _ _ h => h) (Or.inl ⟨by rfl, ?_⟩) (by first | exact ⟨x0, x1, y0, y1⟩ | exact ⟨a0, a1, a2, a3⟩) ?_
                      rotate_left
                      · intro w hSw
                        try dsimp only at hSw
                        go_simp
                        try with_reducible rfl
                      try simp only [Act.put, List.setIfInBounds_toArray, List.set_cons_zero, List.set_cons_succ]
                      refine wpAnyH_done (by kernel_rfl) ?_ _
                      go_wp2_with fail
                      go_meet
                      case rel => exact ⟨rfl, rfl, HT.out.drew.below hb3⟩
                    case rest =>
                      obtain ⟨rfl, rfl, hT⟩ := hcut
                      rcases Nat.eq_zero_or_pos av with rfl | hap
                      · have HG2 : Lp x00 (lp d) (i + 1) (ox, lx) (lp O') := by simpa using HGO.out
                        have HGO2 := Lib.hid HG2
                        clear HG2
                        go_wp2_with fail
                        go_roundw
                        case rel => exact ⟨i + 1, _, _, O', rfl, by go_num, by omega, hT, HGO2⟩
                        case measure => simp [intOf]; omega
                      · have hapI : (0 : Int) < (av : Int) := by omega
                        have x0 : wc.cell? ⟨xb, 0, none⟩ = some (.int .u64 ox) := hT.xc.cell 0
                        have x1 : wc.cell? ⟨xb, 1, none⟩ = some (.slice Ax n cx) := by rw [HN.out]; exact hT.xc.cell 1
                        have g0 := hT.xc.frozen 0
                        have g1 := hT.xc.frozen 1
                        have hanI : (av : Int) ≤ (n : Int) := by rw [HN.out]; omega
                        have hxr : RdT wc (.slice Ax n cx) lx := by rw [HN.out]; exact hT.xr
                        have hxs : ∀ b, (Value.slice Ax n cx).ownBlock = some b → w.heap.size ≤ b := by rw [HN.out]; exact hT.xs
                        have HT := Lib.hid hT
                        have hsl := sli_cases hxr (m := av) havl
                        clear hxr hT
                        rcases hsl with ⟨_, _, _, h0⟩ | ⟨b3, of3, rfl, hnl3, hnc3, hcm3, hqc, hR⟩ | ⟨b3, of3, rfl, rfl, rfl, hnl3, hnc3, hdr, hR⟩
                        · omega
                        · have hcm3' : cx ≤ 9223372036854775807 := by unfold maxLen at hcm3; omega
                          have hncI3 : (n : Int) ≤ (cx : Int) := by omega
                          have hqcI : (av : Int) < (cx : Int) := by omega
                          have hd := HT.out.setx ((ox + av, lx.drop av), (some ⟨b3, of3 + av, none⟩, n - av, cx - av)) hR (fun b2 hb2 => hxs b2 (by simpa [pvv, Value.ownBlock] using hb2))
                          have HD := Lib.hid hd
                          have HNL3 := Lib.hid hnl3
                          clear hd hR hxs HT hnl3
                          go_wp2_with fail
                          go_region
                          all_goals
                            go_wp2_with fail
                            go_roundw
                            case rel => exact ⟨i + 1, ((ox + av, lx.drop av), (some ⟨b3, of3 + av, none⟩, n - av, cx - av)), _, O', rfl, by go_num, by omega, (by first | exact HD.out.1.drew | exact HD.out.2.drew), HGO⟩
                            case measure => simp [intOf]; omega
                        · have hcm3' : cx ≤ 9223372036854775807 := by unfold maxLen at hnc3; omega
                          have hd := HT.out.setx ((ox + (cx : Nat), []), (some ⟨b3, of3, none⟩, 0, 0)) hR (fun b2 hb2 => hxs b2 (by simpa [pvv, Value.ownBlock] using hb2))
                          have HD := Lib.hid hd
                          rw [hdr] at HGO
                          have HNL3 := Lib.hid hnl3
                          clear hd hR hxs HT hnl3
                          go_wp2_with fail
                          go_region
                          all_goals
                            go_wp2_with fail
                            go_roundw
                            case rel => exact ⟨i + 1, ((ox + (cx : Nat), []), (some ⟨b3, of3, none⟩, 0, 0)), _, O', rfl, by go_num, by omega, (by first | exact HD.out.1.drew | exact HD.out.2.drew), HGO⟩
                            case measure => simp [intOf]; omega
            · obtain rfl : i = d.length := by omega
              go_wp2_with fail
              go_meet
              case rel => exact ⟨x, _, O, rfl, hT, HP.out.end_ (by simp), by omega⟩
        case rest =>
          obtain ⟨x, ov, O, rfl, hT, hO, hOl⟩ := hcut
          have hdl : d.length ≤ 1000000 := by have := ch_len hk.ch; simp only [List.length_map] at this; omega
          obtain ⟨⟨ox, lx⟩, Ax, nx, cx⟩ := x
          obtain ⟨_, _, hf⟩ := hT.xr.form
          simp only [pvv, Value.slice.injEq] at hf
          obtain ⟨rfl, rfl, rfl⟩ := hf
          obtain ⟨_, _, hcn, hcm2, _⟩ := hT.xr.1.rdv
          have hcn' : lx.length ≤ cx := hcn
          have hcm2' : cx ≤ maxLen := hcm2
          have hcm3 : lx.length ≤ 9223372036854775807 := by unfold maxLen at hcm2'; omega
          clear hcn'
          clear hcn hcm2 c0
          obtain ⟨n, hn⟩ : ∃ n, n = lx.length := ⟨_, rfl⟩
          have x0 : wc.cell? ⟨xb, 0, none⟩ = some (.int .u64 ox) := hT.xc.cell 0
          have x1 : wc.cell? ⟨xb, 1, none⟩ = some (.slice Ax n cx) := by rw [hn]; exact hT.xc.cell 1
          have HN := Lib.hid hn
          have HO := Lib.hid hO
          clear hn hO
          go_upto_if 137 with (fail)
          go_cut [12] from 134 (fun s12 wx => ∃ (ov : Value) (O : List PV), ov = s12 ∧ PT (fun b => S b ∧ b < w.heap.size) B w wx g V d rd hi' la' kn' xb ((ox, lx), (Ax, lx.length, cx)) ov O ∧ lp O = cutP x00 (lp d) ∧ O.length ≤ d.length + 1)
          case first =>
            rcases Nat.eq_zero_or_pos n with rfl | hnp
            · have hl0 : lst (ox, lx) = [] := by unfold lst; rw [if_pos (List.eq_nil_of_length_eq_zero HN.out.symm)]
              go_wp2_with fail
              go_meet
              case rel => exact ⟨_, O, rfl, hT, by rw [← HO.out, hl0, List.append_nil], by omega⟩
            · have hl1 : lst (ox, lx) = [(ox, lx)] := by
                unfold lst
                rw [if_neg]
                intro e
                have := HN.out
                simp only at e
                rw [e] at this
                simp at this
                omega
              have hnpI : (0 : Int) < (n : Int) := by omega
              have hTa := hT.alloc (.cells #[.int .u64 ox, .slice Ax n cx] 66)
              have hxrA := hT.xr.alloc (.cells #[.int .u64 ox, .slice Ax n cx] 66)
              have HT := Lib.hid hT
              clear hT
              go_wp2_with (first | (at_builtin; refine wpList_append_mid _ rfl _ _ 61 rfl w.heap.size 66 iP _ 2 32 Try.underlying61 hip hp0 hp1 hp2 rfl (by decide) ov O.length (pvc O) rfl hTa.out (some ⟨wc.heap.size, 0, none⟩) 1 1 (encP ((ox, lx), (Ax, n, cx))) rfl (rdv_pair wc _ _) (encP_one _) (by unfold maxLen; omega) (by omega) hTa.on.size (fun h => by cases h) ?_; intro v2 w4 hown2 hgrow2 hat2) | fail)
              go_meet
              case rel =>
                exact ⟨_, _, rfl, hTa.app (y := ((ox, lx), (Ax, n, cx))) (by have := hxrA; rw [← HN.out] at this; exact this) (fun b2 hb2 => HT.out.xs b2 (by cases Ax with | none => simp [pvv, Value.ownBlock] at hb2 | some ax => simpa [pvv, Value.ownBlock] using hb2)) hown2 hgrow2 hat2, by rw [← HO.out, hl1]; simp [lp], by simp; omega⟩
          case rest =>
            clear hT HO x0 x1 hOl
            obtain ⟨ov, O, rfl, hT, hO, hOl⟩ := hcut
            have hown := hT.own
            rw [HV.out] at hown
            obtain ⟨Ao, co, rfl, hoc, hocm, hoA⟩ := hT.out.form
            have hrv := hT.out.rdv.1
            have c0 : wc.cell? ⟨g, 0, none⟩ = some (.slice A d.length cap) := by rw [← HV.out]; exact hT.me.cell 0
            have f0 := hT.me.frozen 0
            have hbs : B ≤ wc.heap.size := by have := hT.on.size; omega
            have HO := Lib.hid hO
            have HT := Lib.hid hT
            clear hO hT
            go_wp2_with (first | (at_builtin; refine wpList_append_mid _ rfl _ _ 61 rfl B 66 iP _ 2 32 Try.underlying61 hip hp0 hp1 hp2 rfl (by decide) (.slice A d.length cap) d.length (pvc d) rfl hown Ao O.length co (pvc O) rfl hrv (pvc_one O) (by unfold maxLen; omega) (by omega) hbs hoA ?_; intro v2 w4 hown2 hgrow2 hat2; rw [← HV.out] at hgrow2 hat2; obtain ⟨A2, c2, rfl, _, _, _⟩ := hown2.form; have hfin := HT.out.fin hown2 hgrow2 hat2; have hmeW := HT.out.me.grown hgrow2 (fun e => HT.out.own.blk_ne HT.out.me (by decide) e.symm); have f4 := hmeW.frozen 0; have k4 : w4.cell? ⟨g, 0, none⟩ = some V := hmeW.cell 0; have k0 : (w4.setCell ⟨g, 0, none⟩ (.slice A2 (d.length + O.length) c2)).cell? ⟨g, 0, none⟩ = some (.slice A2 (d.length + O.length) c2) := hfin.1.cell 0; have HFIN := Lib.hid hfin; clear hfin; have HMEW := Lib.hid hmeW; clear hmeW hown2) | fail)
            obtain ⟨hmeF, hownF, hpsF, honF⟩ := HFIN.out
            have hLO : lp (d ++ O) = lp d ++ cutP x00 (lp d) := by rw [← HO.out]; simp [lp]
            have hchP : Ch rd (putL x00 (lp d)) := by rw [HX.out]; exact put_trm hk.ch
            have done : ∀ (rb' : Option Nat) (d' : List PV) (w5 : World), d'.Perm (d ++ O) → d'.Pairwise (fun x y => ¬ y.1.1 < x.1.1) → QS (fun b => S b ∨ w.heap.size ≤ b) B w5 g rb' d' rd hi' la' kn' → Onl w w5 g V.ownBlock → 
                ∃ rb' d', QS (fun b => S b ∨ w.heap.size ≤ b) B w5 g rb' d' rd (max hi (off + l.length)) (laE en (off + l.length) la) (kn || en) ∧ lp d' = putL (trm rd (off, l)) (lp d) ∧ Onl w w5 g V.ownBlock := by
              intro rb' d' w5 hp hpw hq hon
              rw [HHI.out, HLA.out, HKN.out] at hq
              refine ⟨rb', d', hq, ?_, hon⟩
              rw [← HX.out]
              refine one_order hchP.up.2 (List.pairwise_map.2 hpw) ?_
              have h1 : (lp d').Perm (lp (d ++ O)) := hp.map _
              rw [hLO] at h1
              exact h1.trans (put_perm x00 (lp d)).symm
            have HDONE := Lib.hid done
            have hlen : (d ++ O).length = d.length + O.length := List.length_append
            have hsm2 : (d ++ O).length < 4611686018427387904 := by omega
            rw [← hlen] at hmeF hownF hpsF honF ⊢
            rcases A2 with _ | ⟨b, of2, sp⟩
            · have h0 : (d ++ O).length = 0 ∧ c2 = 0 := by
                rcases hownF.2 with ⟨e, e0⟩ | ⟨_, _, _, _, e, _⟩
                · simp only [Value.slice.injEq, true_and] at e
                  exact e
                · simp at e
              obtain ⟨h01, rfl⟩ := h0
              rw [h01] at hmeF hownF honF ⊢
              have hdn : d ++ O = [] := List.eq_nil_of_length_eq_zero h01
              have hq := HDONE.out none [] _ (by rw [hdn]) List.Pairwise.nil ⟨hlo, ⟨_, rfl, hmeF, by simpa [hdn, h01] using hownF⟩, PsOk.nil _ _⟩ honF
              have HQ := Lib.hid hq
              clear hq
              (with_reducible refine (sort_nil _ _).mono ?_)
              rintro e w5 ⟨rfl, rfl⟩
              go_wp2_with fail
              go_ret
              obtain ⟨rb', d', hQ⟩ := HQ.out
              exact ⟨rfl, rb', d', hQ⟩
            · obtain ⟨b2, o2, hfa, _⟩ := hownF.free
              simp only [Addr.mk.injEq] at hfa
              obtain ⟨rfl, rfl, rfl⟩ := hfa
              (with_reducible refine (sort_any _ _ _ _ (d ++ O) _ hownF hsm2).mono ?_)
              rintro e w5 ⟨rfl, d', hp, hpw, ho5, hg5⟩
              obtain ⟨hq, hon⟩ := fin_sort hlo hmeF hownF hpsF honF (fun hb => by rcases hat2 with e | e
                                                                                  · exact e
                                                                                  · have := HT.out.on.size; simp [Value.ownBlock] at e; omega) hp ho5 hg5
              have hq2 := HDONE.out _ d' _ hp hpw (hq.mono (fun b h => h.elim (fun k => .inl k.1) .inr)) hon
              have HQ := Lib.hid hq2
              clear hq2 hq hon ho5 hg5
              go_wp2_with fail
              go_ret
              obtain ⟨rb', d', hQ⟩ := HQ.out
              exact ⟨rfl, rb', d', hQ⟩

end Go.Proofs.Ytpkondemkpogoaa
