/-
  LossGives: whatever ranges are acknowledged, just those under way with their numbers are told; told again none is. For every input; no condition.
-/
import Derived.Test.YtohjifbkjfnkfaaLgives
namespace Go.Proofs.Ytohjifbkjfnkfaa
open Go.RowKit
set_option linter.unusedVariables false
set_option linter.unusedSimpArgs false


set_option maxHeartbeats 4000000 in
set_option maxRecDepth 100000 in
theorem gives_walk (nn : Int) (A : Option Addr) (n cap : Nat) (R : List (Int × Int)) (w : World) (hn : 0 ≤ nn ∧ nn ≤ 255) (hp : Pairs w A n R) (hR : PairsOk R) (hnc : n ≤ cap) (hcm : cap ≤ maxLen) :
    Calls Try.prog 5 #[.int .u8 nn, .slice A n cap] w fun e w' => e = .returned (.bool true) ∧ Below w.heap.size w w' := by
  have hmm := @run_makeMap Try.prog
  obtain ⟨i0, hi, hz0, hz1, hz2⟩ := info_parts infoR
  have hcm' : cap ≤ 9223372036854775807 := by unfold maxLen at hcm; omega
  clear hcm
  have HP := Lib.hid hp
  have HR := Lib.hid hR
  clear hp hR
  obtain ⟨k, hk⟩ : ∃ k : Nat, (k : Int) = 1 + nn % 30 := ⟨(1 + nn % 30).toNat, by omega⟩
  have hk1 : 1 ≤ k ∧ k ≤ 30 := by omega
  have hk' : 1 + nn % 30 = (k : Int) := hk.symm
  clear hk
  go_enter Try.func5, Try.ntmps5
  go_wp2_with fail
  refine (awake_any _).mono ?_
  rintro e w1 ⟨rfl, hB⟩
  go_wp2_with fail
  refine (sent_any k _ (by omega)).mono ?_
  rintro e w2 ⟨g, rfl, hl, hB2⟩
  have hl := hl.base hB.size
  have hB := hB.trans (hB2.mono hB.size)
  have hM := setU_made w2
  have hb2 := (Below.refl w2.heap.size w2).alloc (Nat.le_refl _) (.map #[] 0)
  have HL := Lib.hid hl
  have HB := Lib.hid hB
  have hgl := hl.lt
  clear hl hB hB2
  go_wp2_with fail
  go_loopw [7, 29] (fun s7 i wr => ∃ (ov : Value) (j : Nat), ov = s7 ∧ j ≤ n ∧ i = .int .i64 j ∧ wr.ownsRow w2.heap.size 31 2 ov (okR k R j).length (prcells (okR k R j)) ∧ SetU wr w2.heap.size (keysOf (okR k R j)) ∧ Below w2.heap.size w2 wr) (fun _ i _ => n - (intOf i).toNat)
  case atStart => exact ⟨_, 0, rfl, Nat.zero_le _, rfl, World.ownsRow_nil _ _ _ _, hM, hb2⟩
  case round =>
    clear hM hb2
    obtain ⟨ov, j, rfl, hjn, rfl, hO, hM, hb2⟩ := hrel
    have hol := okR_len k R j
    have hom := okR_mem k R j
    have hkl := keys_len k _ hom
    have hkl2 : (okR k R j).length * k ≤ 6 * 30 := Nat.mul_le_mul hol hk1.2
    have hB := HB.out.trans (hb2.mono HB.out.size)
    by_cases hlt : j < n
    · obtain ⟨b, off, rfl, hb, c0, c1⟩ := (HP.out.below hB).2 j hlt
      have hx := HR.out.getD j
      have T := okR_snoc k R j (by rw [HP.out.1]; exact hlt)
      obtain ⟨x, hxx⟩ : ∃ x, x = R.getD j (0, 0) := ⟨_, rfl⟩
      rw [← hxx] at c0 c1 hx T
      clear hxx
      obtain ⟨xa, xb⟩ := x
      obtain ⟨OK, hOK⟩ : ∃ O, O = okR k R j := ⟨_, rfl⟩
      rw [← hOK] at hO hM hol hkl hkl2 T
      clear hOK hom
      simp only at c0 c1 hx
      unfold okP at T
      simp only at T
      have hnuml := nums_len k (xa, xb)
      by_cases h6 : j < 6
      · have h6' : decide ((j : Int) < 6) = true := by simp; omega
        rw [show decide (j < 6) = true by simpa using h6] at T
        by_cases h1 : xa ≤ xb
        · have h1' : decide (xa ≤ xb) = true := by simpa using h1
          rw [h1'] at T
          by_cases h2 : xb ≤ (k : Int)
          · have h2' : decide (xb ≤ (k : Int)) = true := by simpa using h2
            rw [h2'] at T
            simp only [Bool.and_true, if_true] at T
            have hO1 := hO.alloc (.cells #[.int .u64 xa, .int .u64 xb] 31)
            have hM1 : SetU (wr.alloc (.cells #[.int .u64 xa, .int .u64 xb] 31)) w2.heap.size (keysOf OK) := hM.below ((Below.refl _ _).alloc (Nat.le_refl _) _)
            have hb1 := hb2.alloc hb2.size (.cells #[.int .u64 xa, .int .u64 xb] 31)
            have hX1 := Blk.new wr 31 #[.int .u64 xa, .int .u64 xb]
            obtain ⟨lo, hlo⟩ : ∃ lo, lo = lo1 (xa, xb) := ⟨_, rfl⟩
            have hlo0 : 1 ≤ lo ∧ xa ≤ lo := by rw [hlo]; unfold lo1; simp only; split <;> omega
            have e1 : (if xa < 1 then 1 else xa) = lo := by rw [hlo]; rfl
            have e2 : (if 1 < xa then xa else 1) = lo := by rw [hlo]; unfold lo1; simp only; split <;> split <;> omega
            have hnl := hnuml h2
            have hne0 := own_set_ne hO1 hM1
            have hmlr := hM.lt
            have HT := Lib.hid T
            have e3 : nums (xa, xb) = (List.range (xb + 1 - lo).toNat).map (fun (t : Nat) => lo + (t : Int)) := by rw [hlo]; rfl
            obtain ⟨N, hN⟩ : ∃ N, N = (xb + 1 - lo).toNat := ⟨_, rfl⟩
            rw [← hN] at e3
            have HE := Lib.hid e3
            clear T hlo e3 h6' h1' h2'
            have h6' : (j : Int) < 6 := by omega
            go_wp2_with (first | (at_builtin; refine wpList_append_any _ rfl _ _ 32 rfl w2.heap.size 31 i0 _ 2 16 Try.underlying32 hi hz0 hz1 hz2 rfl (by decide) ov OK.length _ rfl (hO1.alloc _) (some ⟨wr.heap.size + 1, 0, none⟩) 1 1 (prc (xa, xb)) rfl (pr_rdv _ (xa, xb) (blk_new_at (by simp))) (pr_cells_one _) (by unfold maxLen; omega) (by omega) (by have := hb1.size; simp at this ⊢; omega) (by simp) ?_; intro v4 w4 hown4 hgrow4 hat4; have hX4 := (hX1.alloc (.cells #[.int .u64 xa, .int .u64 xb] 31)).grown hgrow4 (fun e => by have := hO.lt _ e.symm; omega); have x0 := hX4.cell 0; have x1 := hX4.cell 1; have hx4 := hX4.lt; simp only [List.getElem?_toArray, List.getElem?_cons_zero, List.getElem?_cons_succ] at x0 x1) | fail)
            have hM4 : SetU w4 w2.heap.size (keysOf OK) := (hM1.below ((Below.refl _ _).alloc (Nat.le_refl _) (.cells #[.int .u64 xa, .int .u64 xb] 31))).grown hgrow4 (Ne.symm hne0)
            have hb4 := (hb1.alloc hb1.size (.cells #[.int .u64 xa, .int .u64 xb] 31)).grown hgrow4 (hb1.alloc hb1.size (.cells #[.int .u64 xa, .int .u64 xb] 31)).size (fun b hb => (hO1.lt b hb).1)
            have HO4 := Lib.hid hown4
            have hne4 := own_set_ne hown4 hM4
            have HX4 := Lib.hid hX4
            have hNl : N ≤ 30 := by rw [HE.out] at hnl; simp at hnl; omega
            clear hO hM hO1 hM1 hb1 hb2 hgrow4 hat4 hown4 c0 c1 hX1 hX4 x0 x1
            go_loopw [11] (fun i wz => ∃ (t : Nat), t ≤ N ∧ i = .int .u64 (lo + t) ∧ SetU wz w2.heap.size (keysOf OK ++ (nums (xa, xb)).take t) ∧ w4.grownBy wz (some w2.heap.size)) (fun i _ => (xb + 1 - intOf i).toNat)
            case atStart => exact ⟨0, Nat.zero_le _, by simp, by simpa using hM4, grown_refl _ _⟩
            case round =>
              clear hM4
              obtain ⟨t, htN, rfl, hM, hG⟩ := hrel
              have hX := HX4.out.grown hG (by simp; omega)
              have x0 := hX.cell 0
              have x1 := hX.cell 1
              have hxl := hX.lt
              simp only [List.getElem?_toArray, List.getElem?_cons_zero, List.getElem?_cons_succ] at x0 x1
              by_cases htl : t < N
              · have ht1 : lo + (t : Int) ≤ xb := by omega
                have hks : (keysOf OK ++ (nums (xa, xb)).take t).length < 1000000 := by simp; omega
                have T2 : (nums (xa, xb)).take (t + 1) = (nums (xa, xb)).take t ++ [lo + (t : Int)] := by
                  rw [HE.out, List.take_succ_eq_append_getElem (by simpa using htl)]
                  simp
                have HT2 := Lib.hid T2
                clear T2
                go_wp2_with (first | (at_mapUpdate; refine wpList_put_set _ rfl _ _ _ rfl w2.heap.size _ rfl hM hks (lo + (t : Int)) rfl rfl (by omega) ?_; intro w7 hM7 hg7) | fail)
                have hG7 := grown_trans hG hg7
                go_roundw
                case rel => exact ⟨t + 1, by omega, by go_num, by rw [HT2.out, ← List.append_assoc]; exact hM7, hG7⟩
                case measure => simp [intOf]; omega
              · have ht1 : xb < lo + (t : Int) := by omega
                have hM9 : SetU wr w2.heap.size (keysOf (OK ++ [(xa, xb)])) := by
                  have e : keysOf (OK ++ [(xa, xb)]) = keysOf OK ++ nums (xa, xb) := by simp [keysOf]
                  rw [e]
                  rwa [List.take_of_length_le (by rw [HE.out]; simp; omega)] at hM
                have hO9 := own_grown HO4.out hG (.inr hne4)
                have hb9 := hb4.grown hG hb4.size (fun b hb => by injection hb with hb; omega)
                clear hM hX hG
                go_wp2_with fail
                go_roundw
                case rel => exact ⟨_, j + 1, rfl, by omega, by go_num, by rw [HT.out, List.length_append, show prcells (OK ++ [(xa, xb)]) = prcells OK ++ prc (xa, xb) by simp [prcells]]; exact hO9, by rw [HT.out]; exact hM9, hb9⟩
                case measure => simp [intOf]; omega
          · have h2' : decide (xb ≤ (k : Int)) = false := by simpa using h2
            rw [h2'] at T
            simp only [Bool.and_false, Bool.false_eq_true, if_false, List.append_nil] at T
            have hO1 := hO.alloc (.cells #[.int .u64 xa, .int .u64 xb] 31)
            have hM1 : SetU (wr.alloc (.cells #[.int .u64 xa, .int .u64 xb] 31)) w2.heap.size (keysOf OK) := hM.below ((Below.refl _ _).alloc (Nat.le_refl _) _)
            have hb1 := hb2.alloc hb2.size (.cells #[.int .u64 xa, .int .u64 xb] 31)
            have HT := Lib.hid T
            clear T hO hM hb2
            go_wp2_with fail
            go_roundw
            case rel => exact ⟨_, j + 1, rfl, by omega, by go_num, by rw [HT.out]; exact hO1, by rw [HT.out]; exact hM1, hb1⟩
            case measure => simp [intOf]; omega
        · have h1' : decide (xa ≤ xb) = false := by simpa using h1
          rw [h1'] at T
          simp only [Bool.false_and, Bool.and_false, Bool.false_eq_true, if_false, List.append_nil] at T
          have hO1 := hO.alloc (.cells #[.int .u64 xa, .int .u64 xb] 31)
          have hM1 : SetU (wr.alloc (.cells #[.int .u64 xa, .int .u64 xb] 31)) w2.heap.size (keysOf OK) := hM.below ((Below.refl _ _).alloc (Nat.le_refl _) _)
          have hb1 := hb2.alloc hb2.size (.cells #[.int .u64 xa, .int .u64 xb] 31)
          have HT := Lib.hid T
          clear T hO hM hb2
          go_wp2_with fail
          go_roundw
          case rel => exact ⟨_, j + 1, rfl, by omega, by go_num, by rw [HT.out]; exact hO1, by rw [HT.out]; exact hM1, hb1⟩
          case measure => simp [intOf]; omega
      · have h6' : decide ((j : Int) < 6) = false := by simp; omega
        rw [show decide (j < 6) = false by simpa using h6] at T
        simp only [Bool.false_and, Bool.false_eq_true, if_false, List.append_nil] at T
        have hO1 := hO.alloc (.cells #[.int .u64 xa, .int .u64 xb] 31)
        have hM1 : SetU (wr.alloc (.cells #[.int .u64 xa, .int .u64 xb] 31)) w2.heap.size (keysOf OK) := hM.below ((Below.refl _ _).alloc (Nat.le_refl _) _)
        have hb1 := hb2.alloc hb2.size (.cells #[.int .u64 xa, .int .u64 xb] 31)
        have HT := Lib.hid T
        clear T hO hM hb2
        go_wp2_with fail
        go_roundw
        case rel => exact ⟨_, j + 1, rfl, by omega, by go_num, by rw [HT.out]; exact hO1, by rw [HT.out]; exact hM1, hb1⟩
        case measure => simp [intOf]; omega
    · obtain rfl : j = n := by omega
      have hG0 := gives_size k (okR k R j) hom (fun x hx => by
        have hm := List.mem_of_mem_take (List.mem_filter.1 hx).1
        exact (HR.out x hm).1.1)
      have hG1 := gives_has k (okR k R j) (fun x hx => by
        have hm := List.mem_of_mem_take (List.mem_filter.1 hx).1
        exact (HR.out x hm).1.1)
      obtain ⟨OK, hOK⟩ : ∃ O, O = okR k R j := ⟨_, rfl⟩
      rw [← hOK] at hO hM hol hom hkl hkl2 hG0 hG1
      clear hOK
      obtain ⟨hn1, hn2, hn3⟩ := fil_not (inR OK) (sentL k)
      have hl := HL.out.below hb2
      have hbad : badR OK = false := by
        unfold badR
        rw [List.any_eq_false]
        intro x hx
        have := hom x hx
        simp; omega
      have hfar : farR (sentN k) OK = false := by
        unfold farR
        rw [List.any_eq_false]
        intro x hx
        have := hom x hx
        unfold sentN
        rw [if_neg (by omega)]
        simp; omega
      have hog : ov.ownBlock ≠ some g := fun e => by have := (hO.lt _ e).1; omega
      have hmg : some w2.heap.size ≠ some g := by simp; omega
      obtain ⟨Ao, co, rfl, _, hnco, hcmo, hpo⟩ := prs_of_own hO
      have hcmo' : co ≤ 9223372036854775807 := by unfold maxLen at hcmo; omega
      have hAg : ∀ b off, Ao = some ⟨b, off, none⟩ → b ≠ g := by
        rintro b off rfl e
        subst e
        exact hog (by simp [Value.ownBlock])
      have hG0 := Lib.hid hG0
      have hG1 := Lib.hid hG1
      have HN1 := Lib.hid hn1
      have HN2 := Lib.hid hn2
      rw [sentL_len] at hn3
      have hok := sentL_ok k (by omega)
      have hokG : ∀ p ∈ (sentL k).filter (inR OK), PkOk p := fun p hp => hok p (List.mem_filter.1 hp).1
      have hokL : ∀ p ∈ (sentL k).filter (fun p => !(inR OK) p), PkOk p := fun p hp => hok p (List.mem_filter.1 hp).1
      obtain ⟨G, hGe⟩ : ∃ G, G = (sentL k).filter (inR OK) := ⟨_, rfl⟩
      obtain ⟨L', hLe⟩ : ∃ L', L' = (sentL k).filter (fun p => !(inR OK) p) := ⟨_, rfl⟩
      rw [← hGe] at hG0 hG1 hn3 hokG
      rw [← hLe] at HN1 HN2 hn3 hokL
      clear hn1 hn2
      go_wp2_with fail
      refine (ack_ok w.heap.size g (sentL k) (sentN k) 0 false Ao OK.length co OK wr hl (by rw [sentL_len]; omega) hok hpo hnco hcmo hbad hfar hAg).mono ?_
      rintro e w5 ⟨v5, rfl, ho5, hl5, hg5⟩
      rw [← hGe] at ho5
      rw [← hLe] at hl5
      clear hGe hLe hok hl
      have hM5 := hM.grown hg5 hmg
      have hO5 := own_grown hO hg5 (.inr hog)
      have hB5 := hB.grown hg5 hB.size (fun b hb => by injection hb with hb; have := hl5.1; omega)
      have hlen5 : (Builtin.len_ #[33] 3 #[.map (some w2.heap.size)]).run Try.prog w5 = .ok (.int .i64 (G.length : Nat)) w5 := by
        have := World.ownsMap.len hM5 Try.underlying33 3
        rw [setU_size, hG0.out] at this
        exact this
      obtain ⟨A5, c5, rfl, _, hnc5, hcm5, _⟩ := pks_of_own ho5
      have hcm5' : c5 ≤ 9223372036854775807 := by unfold maxLen at hcm5; omega
      have HM5 := Lib.hid hM5
      have HO5 := Lib.hid hO5
      have Ho5 := Lib.hid ho5
      have Hl5 := Lib.hid hl5
      clear hM hO hb2 hB hpo hg5 hM5 hO5 ho5 hl5 hcm5 hcmo
      go_wp2_with fail
      clear hlen5
      go_loopw [82] (fun i wz => ∃ (t : Nat), t ≤ G.length ∧ i = .int .i64 t ∧ Below w5.heap.size w5 wz) (fun i _ => G.length - (intOf i).toNat)
      case atStart => exact ⟨0, Nat.zero_le _, rfl, Below.refl _ _⟩
      case round =>
        obtain ⟨t, htn, rfl, hbz⟩ := hrel
        by_cases htl : t < G.length
        · obtain ⟨_, _, e5, _, _, _, hk5⟩ := pks_of_own (own_same Ho5.out hbz)
          simp only [Value.slice.injEq] at e5
          obtain ⟨rfl, _, rfl⟩ := e5
          obtain ⟨b, off, rfl, hb, d0, d1, d2, d3⟩ := hk5.2 t htl
          have eG : G.getD t pk0 = G[t] := by simp [List.getD, htl]
          have hpo : PkOk (G.getD t pk0) := by rw [eG]; exact hokG _ (List.getElem_mem htl)
          have hpc : (keysOf OK).contains (G.getD t pk0).num = true := by rw [eG]; exact hG1.out _ (List.getElem_mem htl)
          obtain ⟨p, hpp⟩ : ∃ p, p = G.getD t pk0 := ⟨_, rfl⟩
          rw [← hpp] at d0 d1 d2 d3 hpo hpc
          clear hpp eG hk5
          obtain ⟨pn, ps, pz, pa⟩ := p
          obtain ⟨hpn, _, _⟩ := hpo
          simp only at d0 d1 d2 d3 hpn hpc
          have HPC := Lib.hid hpc
          clear hpc
          have hbz2 := hbz.alloc hbz.size (.cells #[.int .u64 pn, .int .u64 ps, .int .i64 pz, .bool pa] 36)
          have hMz := HM5.out.below hbz2
          go_wp2_with (first | (at_lookup; refine wpList_look_set _ rfl _ _ rfl w2.heap.size _ rfl hMz pn rfl (by omega) ?_; rw [HPC.out]) | fail)
          go_roundw
          case rel => exact ⟨t + 1, by omega, by go_num, hbz2⟩
          case measure => simp [intOf]; omega
        · have hBz := hB5.trans (hbz.mono hB5.size)
          have hlz := Hl5.out.below hbz
          have hOz := own_same HO5.out hbz
          have hMz := HM5.out.below hbz
          obtain ⟨_, _, e5, _, _, _, hpo⟩ := prs_of_own hOz
          simp only [Value.slice.injEq] at e5
          obtain ⟨rfl, _, rfl⟩ := e5
          clear hOz
          go_wp2_with fail
          refine (ack_ok w.heap.size g L' (sentN k) _ _ Ao OK.length co OK wr hlz (by omega) hokL hpo hnco (by unfold maxLen; omega) hbad hfar hAg).mono ?_
          rintro e w6 ⟨v6, rfl, ho6, hl6, hg6⟩
          rw [HN1.out] at ho6
          rw [HN2.out] at hl6
          have hM6 := hMz.grown hg6 hmg
          have hB6 := hBz.grown hg6 hBz.size (fun b hb => by injection hb with hb; have := hl6.1; omega)
          obtain ⟨A6, c6, rfl, _⟩ := sl_of_own ho6
          clear hlz hMz hpo hg6 hbz hBz ho6
          go_wp2_with fail
          refine (open_any w.heap.size g L' _ _ _ w6 hl6 (by omega)).mono ?_
          rintro e w7 ⟨v7, rfl, ho7, hb7⟩
          obtain ⟨A7, c7, rfl, _⟩ := sl_of_own ho7
          have hB7 := hB6.trans (hb7.mono hB6.size)
          have hM7 := hM6.below hb7
          have hlen7 : (Builtin.len_ #[33] 3 #[.map (some w2.heap.size)]).run Try.prog w7 = .ok (.int .i64 (G.length : Nat)) w7 := by
            have := World.ownsMap.len hM7 Try.underlying33 3
            rw [setU_size, hG0.out] at this
            exact this
          have hfin : (k : Int) - (G.length : Int) = (L'.length : Int) := by omega
          clear hM6 hM7 hb7 ho7 hl6 hB6
          go_wp2_with fail
          go_ret
          exact ⟨by simp [hfin], hB7⟩
open Go.ChangeShapes Go.WideShapes Go.ChangeAt
set_option maxRecDepth 100000 in
theorem gives_lifted (os : Os) (started : os.Started) (H : Type) (enc : TypeId × Value → H) :
    ReturnsInHanded {} Try.checked os 5 .any (Rows.lossGivesSpec.pre6 enc Try.prog Try.f5 Rows.lossGivesRow.domain false) (Rows.lossGivesSpec.post enc Try.prog Try.f5 false true false false) := by
  refine returnsInHanded_of_change (C := Try.checked) own started (by kernel_rfl) Try.func5
    (ChangeSpec.witness6 (enc := enc) (C := Try.checked) false ⟨#[], #[.int .u8 0, .slice none 0 0], []⟩ 8 (by kernel_rfl) (by kernel_rfl) (by kernel_rfl) (by kernel_rfl)) ?_
  intro W base args ds gs before hval0 hW hcnd _
  have hval : ∀ (j : Nat) t v, Try.f5.params[j]? = some t → args[j]? = some v → Value.okWide Try.prog W .any base t v := hval0
  have hW' := hW
  obtain ⟨p, q, hA0, hV, rfl, hfz, hnd⟩ := hW
  have hA : DataW.TrodAll enc Try.prog W 0 (fun _ => true) true Try.f5.params.toList args.toList ds p := hA0
  rw [Try.params5] at hA hval
  obtain ⟨v0, vs0, d0, ds0, p0, q0, hargs, rfl, rfl, h0, r0⟩ := trodAll_cons hA
  obtain ⟨v1, vs1, d1, ds1, p1, q1, rfl, rfl, rfl, h1, r1⟩ := trodAll_cons r0
  obtain ⟨rfl, rfl, rfl⟩ := trodAll_nil r1
  obtain rfl : args = #[v0, v1] := by cases args; simp_all
  obtain ⟨rfl, rfl⟩ := trodVars_none hV
  obtain ⟨a0, rfl, rfl, rfl, w0⟩ := open_int Try.underlying5 (hval 0 5 v0 rfl rfl) h0
  obtain ⟨A1, len1, cap1, rfl⟩ := okWide_slice Try.underlying32 (hval 1 32 v1 rfl rfl)
  have k1 := h1
  have lt1 : ∀ x ∈ p1, x.block < W.heap.size := by obtain ⟨m, hm⟩ := k1; exact DataW.trod_lt m _ _ _ hm
  obtain ⟨n1, c1, L1, hR1, hK1⟩ := ranges_of h1
  clear hA0 hval0
  refine (gives_walk a0 _ _ _ L1 W (bounds_u8 w0) hR1 hK1 n1 c1).mono fun e W' ⟨he, bel⟩ => ?_
  subst he
  exact ⟨_, rfl, _, _, _, [], _, [], hW', trodAll_mk1 (shut_bool Try.underlying4 _), (trodAll_cons_mk (shut_int Try.underlying5 w0) (trodAll_cons_mk (Below.trod laidOut (by kernel_rfl) (of_decide_eq_true (by kernel_rfl)) k1 bel lt1) trodAll_mk0)), rfl, bel.frame _, fun h => by cases h⟩

theorem gives_holds : Rows.LossGivesSaid :=
  OpenClaim.holds_of_wide 5 Try.f5 rfl rfl rfl rfl rfl rfl rfl ⟨rfl, rfl, rfl, rfl, rfl⟩ rfl rfl rfl rfl rfl (by kernel_rfl) Try.func5 (by kernel_rfl)
    (of_decide_eq_true (by kernel_rfl)) (by unfold Func.isWrapper; first | (rw [if_pos (by decide +kernel)]; kernel_rfl) | (rw [if_neg (by decide +kernel)]; exact ⟨rfl, rfl⟩))
    (fun os started H enc _ => gives_lifted os started H enc)
#print axioms gives_holds

end Go.Proofs.Ytohjifbkjfnkfaa
