/-
  SpanCuts: what is cut out is gone, and nothing else; added again it is there again. For every input; no condition.
-/
import Derived.Test.YtcmkegkljappfaaScutp
import Derived.Deep.CutBlock
namespace Go.Proofs.Ytcmkegkljappfaa
open Go.RowKit
set_option linter.unusedVariables false
set_option linter.unusedSimpArgs false

open Go.ChangeShapes Go.WideShapes Go.ChangeAt in
theorem nums_of {H : Type} {enc : TypeId × Value → H} {W : World} {A : Option Addr} {len cap : Nat} {d1 : DataW H} {p1 : List MemPlace}
    (h : DataW.Trod enc Try.prog W 0 (fun _ => true) true 49 (.slice A len cap) d1 p1) : ∃ l, Rd W .u64 (.slice A len cap) l ∧ ∀ x ∈ l, 0 ≤ x ∧ x ≤ 18446744073709551615 := by
  obtain ⟨fuel, hf⟩ := h
  rcases open_ints Try.underlying49 Try.underlying28 (by kernel_rfl) hf with ⟨hcs, _⟩ | ⟨x, l, c, zs, hcs, _, hl, hm, hz, _, hcell, hwz⟩
  · simp [Value.cells] at hcs
    obtain ⟨rfl, rfl, rfl⟩ := hcs
    exact ⟨[], Rd.nil _ _, fun x hx => by simp at hx⟩
  · simp [Value.cells] at hcs
    obtain ⟨rfl, rfl, rfl⟩ := hcs
    have hz' : zs.length = cap := by simpa using hz
    have hlen : (zs.take len).length = len := by simp; omega
    refine ⟨zs.take len, ⟨some x, cap, by rw [hlen], by omega, hm, fun e => (by cases e), fun i hi => ?_⟩, fun n hn => bounds_u64 (hwz n (List.mem_of_mem_take hn))⟩
    rw [hlen] at hi
    have hc := hcell i (by omega)
    have hsp : x.spot = none := by
      have h0 := World.cell?_spot (hcell 0 (by omega))
      simpa [Addr.add] using h0
    obtain ⟨b, o, s⟩ := x
    simp only at hsp
    subst hsp
    have hlt := World.block_lt_of_cell? W _ hc
    rw [addr_add] at hc hlt
    refine ⟨b, o, rfl, hlt, fun j hj => ?_⟩
    obtain rfl : j = 0 := by omega
    rw [show o + (i * 1 + 0) = o + i by omega, hc]
    simp [List.getD, List.getElem?_take, hi]

set_option maxHeartbeats 8000000 in
set_option maxRecDepth 100000 in
theorem cuts_walk (A : Option Addr) (N cap : Nat) (d f t : Nat → Int) (fr tu : Int) (v : Value) (l : List Int) (w : World) (hS : Scr w A N d f t) (hN0 : N ≤ 9223372036854775807) (hfr : 0 ≤ fr ∧ fr ≤ 18446744073709551615) (hto : 0 ≤ tu ∧ tu ≤ 18446744073709551615) (hv : Rd w .u64 v l) (hl : ∀ x ∈ l, 0 ≤ x ∧ x ≤ 18446744073709551615) :
    Calls Try.prog 7 #[.slice A N cap, .int .u64 fr, .int .u64 tu, v] w fun e w' => e = .returned (.bool true) ∧ Below w.heap.size w w' := by
  obtain ⟨A3, cap3, rfl⟩ := hv.form
  obtain ⟨_, _, hc3a, hc3b, _⟩ := hv.rdv
  have hc3' : cap3 ≤ 9223372036854775807 := by unfold maxLen at hc3b; omega
  obtain ⟨n, hn⟩ : ∃ n, n = l.length := ⟨_, rfl⟩
  rw [← hn] at hv hc3a ⊢
  have HV := Lib.hid hv
  have HNL := Lib.hid hn
  clear hv hn hl hc3b
  have HS := Lib.hid hS
  clear hS
  go_enter Try.func7, Try.ntmps7
  go_wp2_with fail
  refine (awake_any _).mono ?_
  rintro e w1 ⟨rfl, hB1⟩
  go_wp2_with fail
  refine (new_any _ [] _ (RdP.nil _) (fun p hp => by simp at hp) (by decide)).mono ?_
  rintro e w2 ⟨g, rb0, rfl, hsa, hb2⟩
  have hsa := hsa.base hB1.size
  have hB2 := hB1.trans (hb2.mono hB1.size)
  have hbx := (Below.refl w2.heap.size w2).alloc (Nat.le_refl _) (.cells #[.slice none 0 0] 37)
  have hds : DS w.heap.size (w2.alloc (.cells #[.slice none 0 0] 37)) g rb0 [] w2.heap.size none [] := ⟨hsa.below hbx, rnewR (Below.refl _ _) hB2.size, fun q _ => by simp, Nat.le_trans hB2.size hbx.size⟩
  have hB3 := hB2.trans (hbx.mono hB2.size)
  obtain ⟨gx, hgx⟩ : ∃ gx, gx = w2.heap.size := ⟨_, rfl⟩
  rw [← hgx] at hds
  clear hbx hB1 hb2 hsa
  go_wp2_with fail
  rw [← hgx]
  clear hgx
  go_loopw [25] (fun sc wr => ∃ (k : Nat) (rb rx : Option Nat) (L R : List (Int × Int)), k ≤ N ∧ sc = .int .i64 k ∧ DS w.heap.size wr g rb L gx rx R ∧ Hid (Dp k L R) ∧ Below w.heap.size w wr) (fun sc _ => N - (intOf sc).toNat)
  case atStart => exact ⟨0, rb0, none, [], [], Nat.zero_le _, rfl, hds, Lib.hid Dp.start, hB3⟩
  case round =>
    clear hds hB3
    obtain ⟨k, rb, rx, L, R, hkN, rfl, hds, HD, hB⟩ := hrel
    by_cases hk : k < N
    · obtain ⟨bb, off, rfl, hbb, d0, d1, d2⟩ := (HS.out.below hB).at_ k hk
      have hdb := HS.out.db k hk
      have hfb := HS.out.fb k hk
      have htb := HS.out.tb k hk
      obtain ⟨dk, hdk⟩ : ∃ x, x = d k := ⟨_, rfl⟩
      obtain ⟨fk, hfk⟩ : ∃ x, x = f k := ⟨_, rfl⟩
      obtain ⟨tk, htk⟩ : ∃ x, x = t k := ⟨_, rfl⟩
      rw [← hdk] at d0 hdb
      rw [← hfk] at d1 hfb
      rw [← htk] at d2 htb
      clear hdk hfk htk
      have hbo := (Below.refl wr.heap.size wr).alloc (Nat.le_refl _) (.cells #[.int .u8 dk, .int .u64 fk, .int .u64 tk] 39)
      have hds1 := hds.below hbo
      have hBo := hB.trans (hbo.mono hB.size)
      have hsm := HD.out.small
      clear hbo
      by_cases h30 : k < 30
      · have h30' : (k : Int) < 30 := by omega
        have HD2 := Lib.hid (HD.out.step h30 (d := dk) (f := fk) (t := tk) hfb.1)
        go_wp2_with fail
        (with_reducible refine (do_any w.heap.size _ g gx rb rx L R dk fk tk hds1 HD.out.r (by omega) hsm.2 hdb hfb htb).mono ?_)
        rintro e w4 ⟨rb', rx', rfl, hds4, hb4⟩
        have hB4 := hBo.trans hb4
        clear d0 d1 d2 hds hds1 hBo hB hb4 HD
        go_wp2_with fail
        go_roundw
        case rel => exact ⟨k + 1, rb', rx', _, _, by omega, by go_num, hds4, HD2, hB4⟩
        case measure => simp [intOf]; omega
      · have h30' : decide ((k : Int) < 30) = false := by simp; omega
        have HD2 := Lib.hid (HD.out.skip h30)
        go_wp2_with fail
        clear d0 d1 d2 hds hBo
        go_roundw
        case rel => exact ⟨k + 1, rb, rx, L, R, by omega, by go_num, hds1, HD2, hB.alloc hB.size _⟩
        case measure => simp [intOf]; omega
    · have hN := HD.out.r.n
      have hLl := HD.out.small.1
      have hsa := hds.s
      clear hkN hds HD
      go_wp2_with fail
      clear hk
      refine (ranges_any _ g rb L 1000 _ hsa (by omega)).mono ?_
      rintro e w5 ⟨v5, rfl, ho5, hb5⟩
      rw [rg_rev hLl] at ho5
      have hr5 := rdp_of_own ho5
      have hs5 := hsa.below hb5
      have hB5 := hB.trans (hb5.mono hB.size)
      have hpos := nm_pos hN
      clear hsa hb5 hB ho5
      go_wp2_with fail
      refine (new_any v5 L.reverse _ hr5 (fun r hr => by have := hpos r (List.mem_reverse.1 hr); simp only [MX] at this; omega) (by simp; omega)).mono ?_
      rintro e w6 ⟨gt, rt, rfl, ht6, hb6⟩
      rw [adA_self hN (fun r => List.mem_reverse)] at ht6
      have hg5 := hs5.lt
      have hd6 : D2 w.heap.size w6 g rb L gt rt L := ⟨hs5.below hb6, ht6.base hB5.size, by have := ht6.1; omega, fun q h1 h2 => by have e1 := (hs5.rlt q h1).2.1; have e2 := (ht6.rlt q h2).1; omega, Nat.le_trans hB5.size hb6.size⟩
      have hB6 := hB5.trans (hb6.mono hB5.size)
      have hP : PairsOk L := fun r hr => by
        have := hpos r hr
        simp only [MX] at this
        omega
      clear hs5 ht6 hb6 hB5 hr5 hg5
      go_wp2_with fail
      refine (cut_any w.heap.size g rb L fr tu _ hd6.s hd6.sz (by omega) hP hfr hto).mono ?_
      rintro e w7 ⟨rb7, rfl, hs7, hg7, hf7⟩
      have hd7 := hd6.stepT hs7 (Only.of_grown hg7) hf7
      have hB7 := hB6.trans (hd6.belowT (Only.of_grown hg7))
      have hN7 := cuN_nm (f := fr) (t := tu) hN
      have hl7 : (cuN fr tu L).length ≤ 100 := by
        unfold cuN
        split
        · next h => have := ct_len1 fr tu h hN; omega
        · omega
      have HP := Lib.hid hP
      have HC : Hid (∀ x, hasB (cuN fr tu L) x = (hasB L x && (decide (x < fr) || decide (tu < x)))) := Lib.hid fun x => has_cut x
      have HA : Hid (adE fr tu = 0 → (∀ x, hasB (adN fr tu (cuN fr tu L)) x = (hasB L x || (decide (fr ≤ x) && decide (x ≤ tu)))) ∧ cnt L ≤ cnt (adN fr tu (cuN fr tu L)) ∧ Nm 0 (adN fr tu (cuN fr tu L))) := Lib.hid fun hE => ⟨fun x => has_add hN hfr.1 hE x, cnt_add hN hfr.1 hE, adN_nm hN7 hfr.1⟩
      obtain ⟨C, hC⟩ : ∃ C, C = cuN fr tu L := ⟨_, rfl⟩
      rw [← hC] at hd7 hN7 hl7 HC HA
      have HFR := Lib.hid hfr
      clear hd6 hs7 hg7 hf7 hB6 hP hpos hC hfr hto
      go_wp2_with fail
      go_loopw [46] (fun sc wr => ∃ (j : Nat), j ≤ n ∧ sc = .int .i64 j ∧ Below w7.heap.size w7 wr) (fun sc _ => n - (intOf sc).toNat)
      case atStart => exact ⟨0, Nat.zero_le _, rfl, Below.refl _ _⟩
      case round =>
        obtain ⟨j, hjn, rfl, hb8⟩ := hrel
        have hd8 := hd7.below hb8
        have hB8 := hB7.trans (hb8.mono hB7.size)
        by_cases hj : j < n
        · obtain ⟨b3, off3, rfl, hbb3, c3⟩ := (HV.out.below hB8).at_ j (by rw [← HNL.out]; exact hj)
          obtain ⟨x, hx⟩ : ∃ x, x = l.getD j 0 := ⟨_, rfl⟩
          rw [← hx] at c3
          clear hx
          by_cases hj20 : j < 20
          · have hj20' : (j : Int) < 20 := by omega
            have hcx := HC.out x
            obtain ⟨r, hr⟩ : ∃ r, r = hasB L x := ⟨_, rfl⟩
            rw [← hr] at hcx
            have HRx := Lib.hid hr.symm
            clear hr
            obtain ⟨p, hp⟩ : ∃ p, p = decide (x < fr) := ⟨_, rfl⟩
            obtain ⟨q, hq⟩ : ∃ q, q = decide (tu < x) := ⟨_, rfl⟩
            rw [← hp, ← hq] at hcx
            replace hp := hp.symm
            replace hq := hq.symm
            cases r <;> cases p <;> cases q
            all_goals
              simp only [Bool.and_true, Bool.true_and, Bool.false_and, Bool.and_false, Bool.or_true, Bool.true_or, Bool.or_false, Bool.false_or, Bool.or_self, Bool.and_self] at hcx
              have HCx := Lib.hid hcx
              clear hcx
              go_wp2_with fail
              (with_reducible refine (has_any w.heap.size g rb7 C x _ hd8.s hN7).mono ?_)
              rintro e w9 ⟨rfl, hb9⟩
              rw [HCx.out]
              have hd9 := hd8.below hb9
              have hb89 := hb8.trans (hb9.mono hb8.size)
              clear c3 hd8 hb9 hB8
              go_wp2_with fail
              (with_reducible refine (has_any w.heap.size gt rt L x _ hd9.t hN).mono ?_)
              rintro e w10 ⟨rfl, hb10⟩
              rw [HRx.out]
              have hb810 := hb89.trans (hb10.mono hb89.size)
              clear hd9 hb89 hb10 hb8
              go_wp2_with fail
              go_roundw
              case rel => exact ⟨j + 1, by omega, by go_num, hb810⟩
              case measure => simp [intOf]; omega
          · have hj20' : decide ((j : Int) < 20) = false := by simp; omega
            go_wp2_with fail
            go_roundw
            case rel => exact ⟨j + 1, by omega, by go_num, hb8⟩
            case measure => simp [intOf]; omega
        · clear hd7 hb8
          go_wp2_with fail
          clear hj
          (with_reducible refine (add_any w.heap.size g rb7 fr tu C _ hd8.s hN7 (by omega) hd8.sz HFR.out.1).mono ?_)
          rintro e w9 ⟨rb9, rfl, hs9, ho9, hf9⟩
          have hd9 := hd8.stepT hs9 ho9 (Fr.of hf9)
          have hB9 := hB8.trans (hd8.belowT ho9)
          clear hd8 hs9 ho9 hf9 hB8
          by_cases hE : adE fr tu = 0
          · obtain ⟨hA1, hA2, hA3⟩ := HA.out hE
            have HA1 := Lib.hid hA1
            obtain ⟨D, hD⟩ : ∃ D, D = adN fr tu C := ⟨_, rfl⟩
            rw [← hD] at hd9 hA2 hA3 HA1
            rw [hE]
            clear hA1 hD hE HA HC
            go_wp2_with fail
            go_loopw [87] (fun sc wr => ∃ (j : Nat), j ≤ n ∧ sc = .int .i64 j ∧ Below w9.heap.size w9 wr) (fun sc _ => n - (intOf sc).toNat)
            case atStart => exact ⟨0, Nat.zero_le _, rfl, Below.refl _ _⟩
            case round =>
              obtain ⟨j, hjn, rfl, hb8⟩ := hrel
              have hd10 := hd9.below hb8
              have hB10 := hB9.trans (hb8.mono hB9.size)
              by_cases hj : j < n
              · obtain ⟨b3, off3, rfl, hbb3, c3⟩ := (HV.out.below hB10).at_ j (by rw [← HNL.out]; exact hj)
                obtain ⟨x, hx⟩ : ∃ x, x = l.getD j 0 := ⟨_, rfl⟩
                rw [← hx] at c3
                clear hx
                by_cases hj20 : j < 20
                · have hj20' : (j : Int) < 20 := by omega
                  have hcx := HA1.out x
                  obtain ⟨r, hr⟩ : ∃ r, r = hasB L x := ⟨_, rfl⟩
                  rw [← hr] at hcx
                  have HRx := Lib.hid hr.symm
                  clear hr
                  obtain ⟨p, hp⟩ : ∃ p, p = decide (fr ≤ x) := ⟨_, rfl⟩
                  obtain ⟨q, hq⟩ : ∃ q, q = decide (x ≤ tu) := ⟨_, rfl⟩
                  rw [← hp, ← hq] at hcx
                  replace hp := hp.symm
                  replace hq := hq.symm
                  cases r <;> cases p <;> cases q
                  all_goals
                    simp only [Bool.and_true, Bool.true_and, Bool.false_and, Bool.and_false, Bool.or_true, Bool.true_or, Bool.or_false, Bool.false_or, Bool.or_self, Bool.and_self] at hcx
                    have HCx := Lib.hid hcx
                    clear hcx
                    go_wp2_with fail
                    (with_reducible refine (has_any w.heap.size g rb9 D x _ hd10.s hA3).mono ?_)
                    rintro e w11 ⟨rfl, hb9⟩
                    rw [HCx.out]
                    have hd11 := hd10.below hb9
                    have hb89 := hb8.trans (hb9.mono hb8.size)
                    clear c3 hd10 hb9 hB10
                    go_wp2_with fail
                    (with_reducible refine (has_any w.heap.size gt rt L x _ hd11.t hN).mono ?_)
                    rintro e w12 ⟨rfl, hb10⟩
                    rw [HRx.out]
                    have hb810 := hb89.trans (hb10.mono hb89.size)
                    clear hd11 hb89 hb10 hb8
                    go_wp2_with fail
                    go_roundw
                    case rel => exact ⟨j + 1, by omega, by go_num, hb810⟩
                    case measure => simp [intOf]; omega
                · have hj20' : decide ((j : Int) < 20) = false := by simp; omega
                  go_wp2_with fail
                  go_roundw
                  case rel => exact ⟨j + 1, by omega, by go_num, hb8⟩
                  case measure => simp [intOf]; omega
              · go_wp2_with fail
                clear hj
                (with_reducible refine (count_any w.heap.size g rb9 D _ hd10.s hA3).mono ?_)
                rintro e w11 ⟨rfl, hb11⟩
                have hd11 := hd10.below hb11
                have hB11 := hB10.trans (hb11.mono hB10.size)
                go_wp2_with fail
                (with_reducible refine (count_any w.heap.size gt rt L _ hd11.t hN).mono ?_)
                rintro e w12 ⟨rfl, hb12⟩
                have hq2 : decide (cnt L ≤ cnt D) = true := decide_eq_true hA2
                go_wp2_with fail
                go_ret
                exact ⟨rfl, hB11.trans (hb12.mono hB11.size)⟩
          · have hE1 : adE fr tu = 1 ∧ (tu < fr ∨ MX < tu) := by
              unfold adE at hE ⊢
              split
              · next h => exact ⟨rfl, h⟩
              · next h => rw [if_neg h] at hE; exact absurd rfl hE
            obtain ⟨hE2, hE3⟩ := hE1
            rw [hE2]
            simp only [MX] at hE3
            clear hE hE2 HA
            by_cases h1 : tu < fr
            · have h1' : decide (tu < fr) = true := decide_eq_true h1
              go_wp2_with fail
              go_ret
              exact ⟨rfl, hB9⟩
            · have h1' : decide (tu < fr) = false := decide_eq_false h1
              have h2 : 4611686018427387903 < tu := by omega
              have h2' : decide (4611686018427387903 < tu) = true := decide_eq_true h2
              go_wp2_with fail
              go_ret
              exact ⟨rfl, hB9⟩
open Go.ChangeShapes Go.WideShapes Go.ChangeAt
set_option maxRecDepth 100000 in
theorem cuts_lifted (os : Os) (started : os.Started) (H : Type) (enc : TypeId × Value → H) :
    ReturnsInHanded {} Try.checked os 7 .any (Rows.spanCutsSpec.pre6 enc Try.prog Try.f7 Rows.spanCutsRow.domain false) (Rows.spanCutsSpec.post enc Try.prog Try.f7 false true false false) := by
  refine returnsInHanded_of_change (C := Try.checked) own started (by kernel_rfl) Try.func7
    (ChangeSpec.witness6 (enc := enc) (C := Try.checked) false ⟨#[], #[.slice none 0 0, .int .u64 0, .int .u64 0, .slice none 0 0], []⟩ 8 (by kernel_rfl) (by kernel_rfl) (by kernel_rfl) (by kernel_rfl)) ?_
  intro W base args ds gs before hval0 hW hcnd _
  have hval : ∀ (j : Nat) t v, Try.f7.params[j]? = some t → args[j]? = some v → Value.okWide Try.prog W .any base t v := hval0
  have hW' := hW
  obtain ⟨p, q, hA0, hV, rfl, hfz, hnd⟩ := hW
  have hA : DataW.TrodAll enc Try.prog W 0 (fun _ => true) true Try.f7.params.toList args.toList ds p := hA0
  rw [Try.params7] at hA hval
  obtain ⟨v0, vs0, d0, ds0, p0, q0, hargs, rfl, rfl, h0, r0⟩ := trodAll_cons hA
  obtain ⟨v1, vs1, d1, ds1, p1, q1, rfl, rfl, rfl, h1, r1⟩ := trodAll_cons r0
  obtain ⟨v2, vs2, d2, ds2, p2, q2, rfl, rfl, rfl, h2, r2⟩ := trodAll_cons r1
  obtain ⟨v3, vs3, d3, ds3, p3, q3, rfl, rfl, rfl, h3, r3⟩ := trodAll_cons r2
  obtain ⟨rfl, rfl, rfl⟩ := trodAll_nil r3
  obtain rfl : args = #[v0, v1, v2, v3] := by cases args; simp_all
  obtain ⟨rfl, rfl⟩ := trodVars_none hV
  obtain ⟨A0, len0, cap0, rfl⟩ := okWide_slice Try.underlying34 (hval 0 34 v0 rfl rfl)
  have k0 := h0
  have lt0 : ∀ x ∈ p0, x.block < W.heap.size := by obtain ⟨m, hm⟩ := k0; exact DataW.trod_lt m _ _ _ hm
  obtain ⟨n0, d0', f0, t0, hR0⟩ := scr_of k0
  obtain ⟨a1, rfl, rfl, rfl, w1⟩ := open_int Try.underlying28 (hval 1 28 v1 rfl rfl) h1
  obtain ⟨a2, rfl, rfl, rfl, w2⟩ := open_int Try.underlying28 (hval 2 28 v2 rfl rfl) h2
  obtain ⟨A3, len3, cap3, rfl⟩ := okWide_slice Try.underlying49 (hval 3 49 v3 rfl rfl)
  have k3 := h3
  have lt3 : ∀ x ∈ p3, x.block < W.heap.size := by obtain ⟨m, hm⟩ := k3; exact DataW.trod_lt m _ _ _ hm
  obtain ⟨l3, hR3, hK3⟩ := nums_of k3
  clear hA0 hval0
  refine (cuts_walk _ _ _ _ _ _ _ _ _ _ W hR0 n0 (bounds_u64 w1) (bounds_u64 w2) hR3 hK3).mono fun e W' ⟨he, bel⟩ => ?_
  subst he
  exact ⟨_, rfl, _, _, _, [], _, [], hW', trodAll_mk1 (shut_bool Try.underlying4 _), (trodAll_cons_mk (Below.trod laidOut (by kernel_rfl) (of_decide_eq_true (by kernel_rfl)) k0 bel lt0) (trodAll_cons_mk (shut_int Try.underlying28 w1) (trodAll_cons_mk (shut_int Try.underlying28 w2) (trodAll_cons_mk (Below.trod laidOut (by kernel_rfl) (of_decide_eq_true (by kernel_rfl)) k3 bel lt3) trodAll_mk0)))), rfl, bel.frame _, fun h => by cases h⟩

theorem cuts_holds : Rows.SpanCutsSaid :=
  OpenClaim.holds_of_wide 7 Try.f7 rfl rfl rfl rfl rfl rfl rfl ⟨rfl, rfl, rfl, rfl, rfl⟩ rfl rfl rfl rfl rfl (by kernel_rfl) Try.func7 (by kernel_rfl)
    (of_decide_eq_true (by kernel_rfl)) (by unfold Func.isWrapper; first | (rw [if_pos (by decide +kernel)]; kernel_rfl) | (rw [if_neg (by decide +kernel)]; exact ⟨rfl, rfl⟩))
    (fun os started H enc _ => cuts_lifted os started H enc)
#print axioms cuts_holds

end Go.Proofs.Ytcmkegkljappfaa
