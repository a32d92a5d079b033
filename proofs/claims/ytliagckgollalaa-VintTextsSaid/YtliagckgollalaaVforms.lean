/-
  VintForms: every number has its forms, of each size, or none, and is read out of each of them; just the shortest is the least one. For every input; no condition.
-/
import Derived.Test.YtliagckgollalaaVawake
import Derived.Test.YtliagckgollalaaVref
namespace Go.Proofs.Ytliagckgollalaa
open Go.RowKit
set_option linter.unusedVariables false
set_option linter.unusedSimpArgs false


theorem hide {p : Prop} (h : p) : Hid p := h
open Go.ChangeShapes Go.WideShapes Go.ChangeAt in
theorem bytes_of {H : Type} {enc : TypeId × Value → H} {W : World} {A : Option Addr} {len cap : Nat} {d1 : DataW H} {p1 : List MemPlace}
    (h : DataW.Trod enc Try.prog W 0 (fun _ => true) true 23 (.slice A len cap) d1 p1) : ∃ l, Rd W .u8 (.slice A len cap) l ∧ BytesOk l := by
  obtain ⟨fuel, hf⟩ := h
  rcases open_ints Try.underlying23 Try.underlying5 (by kernel_rfl) hf with ⟨hcs, _⟩ | ⟨x, l, c, zs, hcs, _, hl, hm, hz, _, hcell, hwz⟩
  · simp [Value.cells] at hcs
    obtain ⟨rfl, rfl, rfl⟩ := hcs
    exact ⟨[], Rd.nil _ _, fun x hx => by simp at hx⟩
  · simp [Value.cells] at hcs
    obtain ⟨rfl, rfl, rfl⟩ := hcs
    have hz' : zs.length = cap := by simpa using hz
    have hlen : (zs.take len).length = len := by simp; omega
    refine ⟨zs.take len, ⟨some x, cap, by rw [hlen], by omega, hm, fun e => (by cases e), fun i hi => ?_⟩, fun n hn => bounds_u8 (hwz n (List.mem_of_mem_take hn))⟩
    rw [hlen] at hi
    have hc := hcell i (by omega)
    have hsp : x.spot = none := by
      have h0 := World.cell?_spot (hcell 0 (by omega))
      simpa [Addr.add] using h0
    obtain ⟨b, o, s⟩ := x
    simp only at hsp
    subst hsp
    have hlt := World.block_lt_of_cell? W _ hc
    rw [addr_add] at hc hlt
    refine ⟨b, o, rfl, hlt, fun j hj => ?_⟩
    obtain rfl : j = 0 := by omega
    rw [show o + (i * 1 + 0) = o + i by omega, hc]
    simp [List.getD, List.getElem?_take, hi]

set_option maxHeartbeats 4000000 in
set_option maxRecDepth 100000 in
theorem forms_walk (n size : Int) (v : Value) (l : List Int) (w : World) (h0 : 0 ≤ n) (hn : n ≤ 18446744073709551615) (hl : Rd w .u8 v l) (hk : BytesOk l) :
    Calls Try.prog 3 #[.int .u64 n, .int .i64 size, v] w fun e w' => e = .returned (.bool true) ∧ Below w.heap.size w w' := by
  obtain ⟨i0, hi, hz0, hz1, hz2⟩ := info_parts infoB
  obtain ⟨A0, cap0, rfl⟩ := hl.form
  have HL := Lib.hid hl
  clear hl
  go_enter Try.func3, Try.ntmps3
  go_wp2_with fail
  refine (awake_any _).mono ?_
  rintro e w1 ⟨rfl, hB⟩
  have hl := HL.out.below hB
  go_wp2_with fail
  refine (show Calls Try.prog 9 #[_, .int .i64 40] w1 _ from cut_any _ l 40 w1 hl (by omega)).mono ?_
  rintro e w2 ⟨bv, rfl, ho, hb⟩
  have rb := rd_of_own ho
  have kb := hk.take 40
  obtain ⟨bl, hbl⟩ : ∃ bl, bl = l.take 40 := ⟨_, rfl⟩
  have hbn : bl.length ≤ 40 := by rw [hbl]; simp; omega
  rw [← hbl] at rb kb
  have hB := hB.trans (hb.mono hB.size)
  clear ho hb hl hbl HL hk
  go_wp2_with fail
  refine (num_all n _ h0 hn).mono ?_
  rintro e w3 ⟨v1, rfl, r1, hb⟩
  have rb := rb.below hb
  have hB := hB.trans (hb.mono hB.size)
  clear hb
  go_wp2_with fail
  refine (rnum_all n _ h0 hn).mono ?_
  rintro e w4 ⟨v2, rfl, r2, hb⟩
  have rb := rb.below hb
  have r1 := r1.below hb
  have hB := hB.trans (hb.mono hB.size)
  clear hb
  go_wp2_with fail
  refine (wide_all n size _ h0 hn).mono ?_
  rintro e w5 ⟨v3, rfl, r3, hb⟩
  have rb := rb.below hb
  have r1 := r1.below hb
  have r2 := r2.below hb
  have hB := hB.trans (hb.mono hB.size)
  clear hb
  go_wp2_with fail
  refine (rwide_all n size _ h0 hn).mono ?_
  rintro e w6 ⟨v4, rfl, r4, hb⟩
  have rb := rb.below hb
  have r1 := r1.below hb
  have r2 := r2.below hb
  have r3 := r3.below hb
  have hB := hB.trans (hb.mono hB.size)
  clear hb
  go_wp2_with fail
  refine (same_yes v1 v2 _ _ r1 r2).mono ?_
  rintro e w7 ⟨rfl, rfl⟩
  go_wp2_with fail
  refine (same_yes v3 v4 _ _ r3 r4).mono ?_
  rintro e w7 ⟨rfl, rfl⟩
  go_wp2_with fail
  refine (size_any n _ h0 hn).mono ?_
  rintro e w7 ⟨rfl, rfl⟩
  go_wp2_with fail
  refine (rsize_any n _ h0 hn).mono ?_
  rintro e w7 ⟨rfl, rfl⟩
  clear r1 r2 r3 r4
  go_wp2_with fail
  have hT := Blk.new w6 3 #[.int .i64 1, .int .i64 2, .int .i64 4, .int .i64 8]
  have hB := hB.alloc hB.size (.cells #[.int .i64 1, .int .i64 2, .int .i64 4, .int .i64 8] 3)
  have rb := rb.alloc (.cells #[.int .i64 1, .int .i64 2, .int .i64 4, .int .i64 8] 3)
  obtain ⟨g, hg⟩ : ∃ g, g = w6.heap.size := ⟨_, rfl⟩
  rw [← hg] at hT ⊢
  obtain ⟨W, hW⟩ : ∃ W, W = w6.alloc (.cells #[.int .i64 1, .int .i64 2, .int .i64 4, .int .i64 8] 3) := ⟨_, rfl⟩
  rw [← hW] at hT hB rb ⊢
  clear hW hg
  obtain ⟨zz, hzz⟩ : ∃ zz : Int, zz = (vsz n : Int) := ⟨_, rfl⟩
  rw [← hzz]
  clear hzz
  go_loopw [77] (fun i wr => ∃ j : Nat, j ≤ 4 ∧ i = .int .i64 j ∧ Blk wr g 3 #[.int .i64 1, .int .i64 2, .int .i64 4, .int .i64 8] ∧ Rd wr .u8 bv bl ∧ Below w.heap.size w wr) (fun i _ => 4 - (intOf i).toNat)
  case atStart => exact ⟨0, by omega, rfl, hT, rb, hB⟩
  case round =>
    obtain ⟨j, hj, rfl, hT, rb, hB⟩ := hrel
    have hlt4 : j = 4 ∨ j = 0 ∨ j = 1 ∨ j = 2 ∨ j = 3 := by omega
    rcases hlt4 with rfl | hlt4
    · go_wp2
      go_ret
      exact ⟨rfl, hB⟩
    · have tok : True := trivial
      have c0 := hT.cell 0
      have c1 := hT.cell 1
      have c2 := hT.cell 2
      have c3 := hT.cell 3
      simp only [List.getElem?_toArray, List.getElem?_cons_succ, List.getElem?_cons_zero] at c0 c1 c2 c3
      rcases hlt4 with rfl | rfl | rfl | rfl
      · by_cases hfit : vsz n = 0 ∨ 1 < vsz n
        · have e3 : wideR n 1 = ([], 3) := wideR_long (by omega) (by omega)
          have hw := wide_all n 1 wr h0 hn
          rw [e3] at hw
          have HW := hide hw
          clear hw e3
          go_wp2_with fail
          refine HW.out.mono ?_
          rintro e w8 ⟨v8, rfl, r8, hb⟩
          have rb := rb.below hb
          have hT := hT.same hb
          have hB := hB.trans (hb.mono hB.size)
          clear hb r8
          go_wp2_with fail
          go_roundw
          case rel => first | exact ⟨1, by omega, rfl, hT, rb, hB⟩ | ((repeat apply Exists.intro); exact ⟨⟨1, by omega, rfl, hT, rb, hB⟩, rfl⟩)
          case measure => first | (simp [intOf]; done) | (simp [intOf]; omega)
        · have e3 : wideR n 1 = (vform n 1, 0) := wideR_fits (by omega) (by omega)
          have hw := wide_all n 1 wr h0 hn
          rw [e3] at hw
          have HW := hide hw
          clear hw e3
          have kf : BytesOk (vform n 1) := vform_ok n 1 h0 (by omega) (by omega) (by omega)
          have hlen : (vform n 1).length = 1 := vform_len n 1 (by omega)
          have ht1 := vtake_form n 1 bl h0 (by omega) (by omega) (by omega)
          have ht2 := vtake_form n 1 [] h0 (by omega) (by omega) (by omega)
          rw [List.append_nil] at ht2
          have HT1 := Lib.hid ht1
          have HT2 := Lib.hid ht2
          clear ht1 ht2
          obtain ⟨fl, hfl⟩ : ∃ fl, fl = vform n 1 := ⟨_, rfl⟩
          rw [← hfl] at HW kf hlen HT1 HT2
          clear hfl
          go_wp2_with fail
          refine HW.out.mono ?_
          rintro e w8 ⟨v8, rfl, r8, hb⟩
          have rb := rb.below hb
          have hT := hT.same hb
          have hB := hB.trans (hb.mono hB.size)
          clear hb
          go_wp2_with fail
          refine (copy_any v8 fl _ r8 (by omega)).mono ?_
          rintro e w9 ⟨v9, rfl, ho9, hb9⟩
          have rb9 := rb.below hb9
          have hs9 : w8.heap.size ≤ w9.heap.size := hb9.size
          obtain ⟨A, cap, rfl⟩ := rb.form
          have HR := Lib.hid rb9.rdv
          clear rb9
          go_wp2_with (at_builtin; refine wpList_append_any _ rfl _ _ 23 rfl w8.heap.size 5 i0 _ 1 1 Try.underlying23 hi hz0 hz1 hz2 rfl (by decide) v9 fl.length (fl.map (Value.int .u8)) rfl ho9 A bl.length cap _ rfl HR.out.2.2.2.2 (oneInts _ _) (by unfold maxLen; omega) (by omega) hs9 HR.out.2.1 ?_; intro v10 w10 hown hgrow hat)
          have hrow : ∀ b, v9.ownBlock = some b → w8.heap.size ≤ b := fun b hb => (ho9.lt b hb).1
          have hown' : w10.ownsRow w8.heap.size 5 1 v10 (fl.length + bl.length) ((fl ++ bl).map (Value.int .u8)) := by rw [List.map_append]; exact hown
          have ro : Rd w10 .u8 v10 (fl ++ bl) := rd_of_own hown'
          have hbx := hb9.trans (below_of_grown hgrow hs9 hrow)
          have rb := rb.below hbx
          have r8 := r8.below hbx
          have hT := hT.same hbx
          have hB := hB.trans (hbx.mono hB.size)
          clear hbx hb9 hgrow hown hown' hat ho9 HR hrow
          go_wp2_with fail
          refine (take_some v10 (fl ++ bl) n bl _ ro (kf.append kb) (by simp; omega) HT1.out).mono ?_
          rintro e w11 ⟨v11, rfl, ho11, hb⟩
          have r11 := rd_of_own ho11
          have rb := rb.below hb
          have r8 := r8.below hb
          have hT := hT.same hb
          have hB := hB.trans (hb.mono hB.size)
          clear hb ho11 ro
          go_wp2_with fail
          refine (same_yes _ _ bl _ r11 rb).mono ?_
          rintro e w12 ⟨rfl, rfl⟩
          by_cases hkv : vsz n = 1
          · have hkv1 : ((1 : Int) == (vsz n : Int)) = true := by simp; omega
            go_wp2_with fail
            refine (least_any _ fl n [] true _ r8 kf (by omega) HT2.out (by simp [hlen]; omega)).mono ?_
            rintro e w13 ⟨rfl, hb⟩
            have rb := rb.below hb
            have hT := hT.same hb
            have hB := hB.trans (hb.mono hB.size)
            clear hb
            go_wp2_with fail
            refine (rsize_any n _ h0 hn).mono ?_
            rintro e w14 ⟨rfl, rfl⟩
            have HK := Lib.hid hkv
            clear hkv
            go_wp2_with fail
            go_roundw
            case rel => first | exact ⟨1, by omega, rfl, hT, rb, hB⟩ | ((repeat apply Exists.intro); exact ⟨⟨1, by omega, rfl, hT, rb, hB⟩, rfl⟩)
            case measure => first | (simp [intOf]; done) | (simp [intOf]; omega)
          · have hkv1 : ((1 : Int) == (vsz n : Int)) = false := by simp; omega
            go_wp2_with fail
            refine (least_any _ fl n [] false _ r8 kf (by omega) HT2.out (by simp [hlen]; omega)).mono ?_
            rintro e w13 ⟨rfl, hb⟩
            have rb := rb.below hb
            have hT := hT.same hb
            have hB := hB.trans (hb.mono hB.size)
            clear hb
            go_wp2_with fail
            refine (rsize_any n _ h0 hn).mono ?_
            rintro e w14 ⟨rfl, rfl⟩
            have HK := Lib.hid hkv
            clear hkv
            go_wp2_with fail
            go_roundw
            case rel => first | exact ⟨1, by omega, rfl, hT, rb, hB⟩ | ((repeat apply Exists.intro); exact ⟨⟨1, by omega, rfl, hT, rb, hB⟩, rfl⟩)
            case measure => first | (simp [intOf]; done) | (simp [intOf]; omega)
      · by_cases hfit : vsz n = 0 ∨ 2 < vsz n
        · have e3 : wideR n 2 = ([], 3) := wideR_long (by omega) (by omega)
          have hw := wide_all n 2 wr h0 hn
          rw [e3] at hw
          have HW := hide hw
          clear hw e3
          go_wp2_with fail
          refine HW.out.mono ?_
          rintro e w8 ⟨v8, rfl, r8, hb⟩
          have rb := rb.below hb
          have hT := hT.same hb
          have hB := hB.trans (hb.mono hB.size)
          clear hb r8
          go_wp2_with fail
          go_roundw
          case rel => first | exact ⟨2, by omega, rfl, hT, rb, hB⟩ | ((repeat apply Exists.intro); exact ⟨⟨2, by omega, rfl, hT, rb, hB⟩, rfl⟩)
          case measure => first | (simp [intOf]; done) | (simp [intOf]; omega)
        · have e3 : wideR n 2 = (vform n 2, 0) := wideR_fits (by omega) (by omega)
          have hw := wide_all n 2 wr h0 hn
          rw [e3] at hw
          have HW := hide hw
          clear hw e3
          have kf : BytesOk (vform n 2) := vform_ok n 2 h0 (by omega) (by omega) (by omega)
          have hlen : (vform n 2).length = 2 := vform_len n 2 (by omega)
          have ht1 := vtake_form n 2 bl h0 (by omega) (by omega) (by omega)
          have ht2 := vtake_form n 2 [] h0 (by omega) (by omega) (by omega)
          rw [List.append_nil] at ht2
          have HT1 := Lib.hid ht1
          have HT2 := Lib.hid ht2
          clear ht1 ht2
          obtain ⟨fl, hfl⟩ : ∃ fl, fl = vform n 2 := ⟨_, rfl⟩
          rw [← hfl] at HW kf hlen HT1 HT2
          clear hfl
          go_wp2_with fail
          refine HW.out.mono ?_
          rintro e w8 ⟨v8, rfl, r8, hb⟩
          have rb := rb.below hb
          have hT := hT.same hb
          have hB := hB.trans (hb.mono hB.size)
          clear hb
          go_wp2_with fail
          refine (copy_any v8 fl _ r8 (by omega)).mono ?_
          rintro e w9 ⟨v9, rfl, ho9, hb9⟩
          have rb9 := rb.below hb9
          have hs9 : w8.heap.size ≤ w9.heap.size := hb9.size
          obtain ⟨A, cap, rfl⟩ := rb.form
          have HR := Lib.hid rb9.rdv
          clear rb9
          go_wp2_with (at_builtin; refine wpList_append_any _ rfl _ _ 23 rfl w8.heap.size 5 i0 _ 1 1 Try.underlying23 hi hz0 hz1 hz2 rfl (by decide) v9 fl.length (fl.map (Value.int .u8)) rfl ho9 A bl.length cap _ rfl HR.out.2.2.2.2 (oneInts _ _) (by unfold maxLen; omega) (by omega) hs9 HR.out.2.1 ?_; intro v10 w10 hown hgrow hat)
          have hrow : ∀ b, v9.ownBlock = some b → w8.heap.size ≤ b := fun b hb => (ho9.lt b hb).1
          have hown' : w10.ownsRow w8.heap.size 5 1 v10 (fl.length + bl.length) ((fl ++ bl).map (Value.int .u8)) := by rw [List.map_append]; exact hown
          have ro : Rd w10 .u8 v10 (fl ++ bl) := rd_of_own hown'
          have hbx := hb9.trans (below_of_grown hgrow hs9 hrow)
          have rb := rb.below hbx
          have r8 := r8.below hbx
          have hT := hT.same hbx
          have hB := hB.trans (hbx.mono hB.size)
          clear hbx hb9 hgrow hown hown' hat ho9 HR hrow
          go_wp2_with fail
          refine (take_some v10 (fl ++ bl) n bl _ ro (kf.append kb) (by simp; omega) HT1.out).mono ?_
          rintro e w11 ⟨v11, rfl, ho11, hb⟩
          have r11 := rd_of_own ho11
          have rb := rb.below hb
          have r8 := r8.below hb
          have hT := hT.same hb
          have hB := hB.trans (hb.mono hB.size)
          clear hb ho11 ro
          go_wp2_with fail
          refine (same_yes _ _ bl _ r11 rb).mono ?_
          rintro e w12 ⟨rfl, rfl⟩
          by_cases hkv : vsz n = 2
          · have hkv1 : ((2 : Int) == (vsz n : Int)) = true := by simp; omega
            go_wp2_with fail
            refine (least_any _ fl n [] true _ r8 kf (by omega) HT2.out (by simp [hlen]; omega)).mono ?_
            rintro e w13 ⟨rfl, hb⟩
            have rb := rb.below hb
            have hT := hT.same hb
            have hB := hB.trans (hb.mono hB.size)
            clear hb
            go_wp2_with fail
            refine (rsize_any n _ h0 hn).mono ?_
            rintro e w14 ⟨rfl, rfl⟩
            have HK := Lib.hid hkv
            clear hkv
            go_wp2_with fail
            go_roundw
            case rel => first | exact ⟨2, by omega, rfl, hT, rb, hB⟩ | ((repeat apply Exists.intro); exact ⟨⟨2, by omega, rfl, hT, rb, hB⟩, rfl⟩)
            case measure => first | (simp [intOf]; done) | (simp [intOf]; omega)
          · have hkv1 : ((2 : Int) == (vsz n : Int)) = false := by simp; omega
            go_wp2_with fail
            refine (least_any _ fl n [] false _ r8 kf (by omega) HT2.out (by simp [hlen]; omega)).mono ?_
            rintro e w13 ⟨rfl, hb⟩
            have rb := rb.below hb
            have hT := hT.same hb
            have hB := hB.trans (hb.mono hB.size)
            clear hb
            go_wp2_with fail
            refine (rsize_any n _ h0 hn).mono ?_
            rintro e w14 ⟨rfl, rfl⟩
            have HK := Lib.hid hkv
            clear hkv
            go_wp2_with fail
            go_roundw
            case rel => first | exact ⟨2, by omega, rfl, hT, rb, hB⟩ | ((repeat apply Exists.intro); exact ⟨⟨2, by omega, rfl, hT, rb, hB⟩, rfl⟩)
            case measure => first | (simp [intOf]; done) | (simp [intOf]; omega)
      · by_cases hfit : vsz n = 0 ∨ 4 < vsz n
        · have e3 : wideR n 4 = ([], 3) := wideR_long (by omega) (by omega)
          have hw := wide_all n 4 wr h0 hn
          rw [e3] at hw
          have HW := hide hw
          clear hw e3
          go_wp2_with fail
          refine HW.out.mono ?_
          rintro e w8 ⟨v8, rfl, r8, hb⟩
          have rb := rb.below hb
          have hT := hT.same hb
          have hB := hB.trans (hb.mono hB.size)
          clear hb r8
          go_wp2_with fail
          go_roundw
          case rel => first | exact ⟨3, by omega, rfl, hT, rb, hB⟩ | ((repeat apply Exists.intro); exact ⟨⟨3, by omega, rfl, hT, rb, hB⟩, rfl⟩)
          case measure => first | (simp [intOf]; done) | (simp [intOf]; omega)
        · have e3 : wideR n 4 = (vform n 4, 0) := wideR_fits (by omega) (by omega)
          have hw := wide_all n 4 wr h0 hn
          rw [e3] at hw
          have HW := hide hw
          clear hw e3
          have kf : BytesOk (vform n 4) := vform_ok n 4 h0 (by omega) (by omega) (by omega)
          have hlen : (vform n 4).length = 4 := vform_len n 4 (by omega)
          have ht1 := vtake_form n 4 bl h0 (by omega) (by omega) (by omega)
          have ht2 := vtake_form n 4 [] h0 (by omega) (by omega) (by omega)
          rw [List.append_nil] at ht2
          have HT1 := Lib.hid ht1
          have HT2 := Lib.hid ht2
          clear ht1 ht2
          obtain ⟨fl, hfl⟩ : ∃ fl, fl = vform n 4 := ⟨_, rfl⟩
          rw [← hfl] at HW kf hlen HT1 HT2
          clear hfl
          go_wp2_with fail
          refine HW.out.mono ?_
          rintro e w8 ⟨v8, rfl, r8, hb⟩
          have rb := rb.below hb
          have hT := hT.same hb
          have hB := hB.trans (hb.mono hB.size)
          clear hb
          go_wp2_with fail
          refine (copy_any v8 fl _ r8 (by omega)).mono ?_
          rintro e w9 ⟨v9, rfl, ho9, hb9⟩
          have rb9 := rb.below hb9
          have hs9 : w8.heap.size ≤ w9.heap.size := hb9.size
          obtain ⟨A, cap, rfl⟩ := rb.form
          have HR := Lib.hid rb9.rdv
          clear rb9
          go_wp2_with (at_builtin; refine wpList_append_any _ rfl _ _ 23 rfl w8.heap.size 5 i0 _ 1 1 Try.underlying23 hi hz0 hz1 hz2 rfl (by decide) v9 fl.length (fl.map (Value.int .u8)) rfl ho9 A bl.length cap _ rfl HR.out.2.2.2.2 (oneInts _ _) (by unfold maxLen; omega) (by omega) hs9 HR.out.2.1 ?_; intro v10 w10 hown hgrow hat)
          have hrow : ∀ b, v9.ownBlock = some b → w8.heap.size ≤ b := fun b hb => (ho9.lt b hb).1
          have hown' : w10.ownsRow w8.heap.size 5 1 v10 (fl.length + bl.length) ((fl ++ bl).map (Value.int .u8)) := by rw [List.map_append]; exact hown
          have ro : Rd w10 .u8 v10 (fl ++ bl) := rd_of_own hown'
          have hbx := hb9.trans (below_of_grown hgrow hs9 hrow)
          have rb := rb.below hbx
          have r8 := r8.below hbx
          have hT := hT.same hbx
          have hB := hB.trans (hbx.mono hB.size)
          clear hbx hb9 hgrow hown hown' hat ho9 HR hrow
          go_wp2_with fail
          refine (take_some v10 (fl ++ bl) n bl _ ro (kf.append kb) (by simp; omega) HT1.out).mono ?_
          rintro e w11 ⟨v11, rfl, ho11, hb⟩
          have r11 := rd_of_own ho11
          have rb := rb.below hb
          have r8 := r8.below hb
          have hT := hT.same hb
          have hB := hB.trans (hb.mono hB.size)
          clear hb ho11 ro
          go_wp2_with fail
          refine (same_yes _ _ bl _ r11 rb).mono ?_
          rintro e w12 ⟨rfl, rfl⟩
          by_cases hkv : vsz n = 4
          · have hkv1 : ((4 : Int) == (vsz n : Int)) = true := by simp; omega
            go_wp2_with fail
            refine (least_any _ fl n [] true _ r8 kf (by omega) HT2.out (by simp [hlen]; omega)).mono ?_
            rintro e w13 ⟨rfl, hb⟩
            have rb := rb.below hb
            have hT := hT.same hb
            have hB := hB.trans (hb.mono hB.size)
            clear hb
            go_wp2_with fail
            refine (rsize_any n _ h0 hn).mono ?_
            rintro e w14 ⟨rfl, rfl⟩
            have HK := Lib.hid hkv
            clear hkv
            go_wp2_with fail
            go_roundw
            case rel => first | exact ⟨3, by omega, rfl, hT, rb, hB⟩ | ((repeat apply Exists.intro); exact ⟨⟨3, by omega, rfl, hT, rb, hB⟩, rfl⟩)
            case measure => first | (simp [intOf]; done) | (simp [intOf]; omega)
          · have hkv1 : ((4 : Int) == (vsz n : Int)) = false := by simp; omega
            go_wp2_with fail
            refine (least_any _ fl n [] false _ r8 kf (by omega) HT2.out (by simp [hlen]; omega)).mono ?_
            rintro e w13 ⟨rfl, hb⟩
            have rb := rb.below hb
            have hT := hT.same hb
            have hB := hB.trans (hb.mono hB.size)
            clear hb
            go_wp2_with fail
            refine (rsize_any n _ h0 hn).mono ?_
            rintro e w14 ⟨rfl, rfl⟩
            have HK := Lib.hid hkv
            clear hkv
            go_wp2_with fail
            go_roundw
            case rel => first | exact ⟨3, by omega, rfl, hT, rb, hB⟩ | ((repeat apply Exists.intro); exact ⟨⟨3, by omega, rfl, hT, rb, hB⟩, rfl⟩)
            case measure => first | (simp [intOf]; done) | (simp [intOf]; omega)
      · by_cases hfit : vsz n = 0 ∨ 8 < vsz n
        · have e3 : wideR n 8 = ([], 3) := wideR_long (by omega) (by omega)
          have hw := wide_all n 8 wr h0 hn
          rw [e3] at hw
          have HW := hide hw
          clear hw e3
          go_wp2_with fail
          refine HW.out.mono ?_
          rintro e w8 ⟨v8, rfl, r8, hb⟩
          have rb := rb.below hb
          have hT := hT.same hb
          have hB := hB.trans (hb.mono hB.size)
          clear hb r8
          go_wp2_with fail
          go_roundw
          case rel => first | exact ⟨4, by omega, rfl, hT, rb, hB⟩ | ((repeat apply Exists.intro); exact ⟨⟨4, by omega, rfl, hT, rb, hB⟩, rfl⟩)
          case measure => first | (simp [intOf]; done) | (simp [intOf]; omega)
        · have e3 : wideR n 8 = (vform n 8, 0) := wideR_fits (by omega) (by omega)
          have hw := wide_all n 8 wr h0 hn
          rw [e3] at hw
          have HW := hide hw
          clear hw e3
          have kf : BytesOk (vform n 8) := vform_ok n 8 h0 (by omega) (by omega) (by omega)
          have hlen : (vform n 8).length = 8 := vform_len n 8 (by omega)
          have ht1 := vtake_form n 8 bl h0 (by omega) (by omega) (by omega)
          have ht2 := vtake_form n 8 [] h0 (by omega) (by omega) (by omega)
          rw [List.append_nil] at ht2
          have HT1 := Lib.hid ht1
          have HT2 := Lib.hid ht2
          clear ht1 ht2
          obtain ⟨fl, hfl⟩ : ∃ fl, fl = vform n 8 := ⟨_, rfl⟩
          rw [← hfl] at HW kf hlen HT1 HT2
          clear hfl
          go_wp2_with fail
          refine HW.out.mono ?_
          rintro e w8 ⟨v8, rfl, r8, hb⟩
          have rb := rb.below hb
          have hT := hT.same hb
          have hB := hB.trans (hb.mono hB.size)
          clear hb
          go_wp2_with fail
          refine (copy_any v8 fl _ r8 (by omega)).mono ?_
          rintro e w9 ⟨v9, rfl, ho9, hb9⟩
          have rb9 := rb.below hb9
          have hs9 : w8.heap.size ≤ w9.heap.size := hb9.size
          obtain ⟨A, cap, rfl⟩ := rb.form
          have HR := Lib.hid rb9.rdv
          clear rb9
          go_wp2_with (at_builtin; refine wpList_append_any _ rfl _ _ 23 rfl w8.heap.size 5 i0 _ 1 1 Try.underlying23 hi hz0 hz1 hz2 rfl (by decide) v9 fl.length (fl.map (Value.int .u8)) rfl ho9 A bl.length cap _ rfl HR.out.2.2.2.2 (oneInts _ _) (by unfold maxLen; omega) (by omega) hs9 HR.out.2.1 ?_; intro v10 w10 hown hgrow hat)
          have hrow : ∀ b, v9.ownBlock = some b → w8.heap.size ≤ b := fun b hb => (ho9.lt b hb).1
          have hown' : w10.ownsRow w8.heap.size 5 1 v10 (fl.length + bl.length) ((fl ++ bl).map (Value.int .u8)) := by rw [List.map_append]; exact hown
          have ro : Rd w10 .u8 v10 (fl ++ bl) := rd_of_own hown'
          have hbx := hb9.trans (below_of_grown hgrow hs9 hrow)
          have rb := rb.below hbx
          have r8 := r8.below hbx
          have hT := hT.same hbx
          have hB := hB.trans (hbx.mono hB.size)
          clear hbx hb9 hgrow hown hown' hat ho9 HR hrow
          go_wp2_with fail
          refine (take_some v10 (fl ++ bl) n bl _ ro (kf.append kb) (by simp; omega) HT1.out).mono ?_
          rintro e w11 ⟨v11, rfl, ho11, hb⟩
          have r11 := rd_of_own ho11
          have rb := rb.below hb
          have r8 := r8.below hb
          have hT := hT.same hb
          have hB := hB.trans (hb.mono hB.size)
          clear hb ho11 ro
          go_wp2_with fail
          refine (same_yes _ _ bl _ r11 rb).mono ?_
          rintro e w12 ⟨rfl, rfl⟩
          by_cases hkv : vsz n = 8
          · have hkv1 : ((8 : Int) == (vsz n : Int)) = true := by simp; omega
            go_wp2_with fail
            refine (least_any _ fl n [] true _ r8 kf (by omega) HT2.out (by simp [hlen]; omega)).mono ?_
            rintro e w13 ⟨rfl, hb⟩
            have rb := rb.below hb
            have hT := hT.same hb
            have hB := hB.trans (hb.mono hB.size)
            clear hb
            go_wp2_with fail
            refine (rsize_any n _ h0 hn).mono ?_
            rintro e w14 ⟨rfl, rfl⟩
            have HK := Lib.hid hkv
            clear hkv
            go_wp2_with fail
            go_roundw
            case rel => first | exact ⟨4, by omega, rfl, hT, rb, hB⟩ | ((repeat apply Exists.intro); exact ⟨⟨4, by omega, rfl, hT, rb, hB⟩, rfl⟩)
            case measure => first | (simp [intOf]; done) | (simp [intOf]; omega)
          · have hkv1 : ((8 : Int) == (vsz n : Int)) = false := by simp; omega
            go_wp2_with fail
            refine (least_any _ fl n [] false _ r8 kf (by omega) HT2.out (by simp [hlen]; omega)).mono ?_
            rintro e w13 ⟨rfl, hb⟩
            have rb := rb.below hb
            have hT := hT.same hb
            have hB := hB.trans (hb.mono hB.size)
            clear hb
            go_wp2_with fail
            refine (rsize_any n _ h0 hn).mono ?_
            rintro e w14 ⟨rfl, rfl⟩
            have HK := Lib.hid hkv
            clear hkv
            go_wp2_with fail
            go_roundw
            case rel => first | exact ⟨4, by omega, rfl, hT, rb, hB⟩ | ((repeat apply Exists.intro); exact ⟨⟨4, by omega, rfl, hT, rb, hB⟩, rfl⟩)
            case measure => first | (simp [intOf]; done) | (simp [intOf]; omega)

open Go.ChangeShapes Go.WideShapes Go.ChangeAt
set_option maxRecDepth 100000 in
theorem forms_lifted (os : Os) (started : os.Started) (H : Type) (enc : TypeId × Value → H) :
    ReturnsInHanded {} Try.checked os 3 .any (Rows.vintFormsSpec.pre6 enc Try.prog Try.f3 Rows.vintFormsRow.domain false) (Rows.vintFormsSpec.post enc Try.prog Try.f3 false true false false) := by
  refine returnsInHanded_of_change (C := Try.checked) own started (by kernel_rfl) Try.func3
    (ChangeSpec.witness6 (enc := enc) (C := Try.checked) false ⟨#[], #[.int .u64 0, .int .i64 0, .slice none 0 0], []⟩ 8 (by kernel_rfl) (by kernel_rfl) (by kernel_rfl) (by kernel_rfl)) ?_
  intro W base args ds gs before hval0 hW hcnd _
  have hval : ∀ (j : Nat) t v, Try.f3.params[j]? = some t → args[j]? = some v → Value.okWide Try.prog W .any base t v := hval0
  have hW' := hW
  obtain ⟨p, q, hA0, hV, rfl, hfz, hnd⟩ := hW
  have hA : DataW.TrodAll enc Try.prog W 0 (fun _ => true) true Try.f3.params.toList args.toList ds p := hA0
  rw [Try.params3] at hA hval
  obtain ⟨v0, vs0, d0, ds0, p0, q0, hargs, rfl, rfl, h0, r0⟩ := trodAll_cons hA
  obtain ⟨v1, vs1, d1, ds1, p1, q1, rfl, rfl, rfl, h1, r1⟩ := trodAll_cons r0
  obtain ⟨v2, vs2, d2, ds2, p2, q2, rfl, rfl, rfl, h2, r2⟩ := trodAll_cons r1
  obtain ⟨rfl, rfl, rfl⟩ := trodAll_nil r2
  obtain rfl : args = #[v0, v1, v2] := by cases args; simp_all
  obtain ⟨rfl, rfl⟩ := trodVars_none hV
  obtain ⟨a0, rfl, rfl, rfl, w0⟩ := open_int Try.underlying22 (hval 0 22 v0 rfl rfl) h0
  obtain ⟨a1, rfl, rfl, rfl, w1⟩ := open_int Try.underlying3 (hval 1 3 v1 rfl rfl) h1
  obtain ⟨A2, len2, cap2, rfl⟩ := okWide_slice Try.underlying23 (hval 2 23 v2 rfl rfl)
  have k2 := h2
  have lt2 : ∀ x ∈ p2, x.block < W.heap.size := by obtain ⟨m, hm⟩ := k2; exact DataW.trod_lt m _ _ _ hm
  obtain ⟨l2, hR2, hK2⟩ := bytes_of h2
  clear hA0 hval0
  refine (forms_walk a0 a1 _ l2 W (bounds_u64 w0).1 (bounds_u64 w0).2 hR2 hK2).mono fun e W' ⟨he, bel⟩ => ?_
  subst he
  exact ⟨_, rfl, _, _, _, [], _, [], hW', trodAll_mk1 (shut_bool Try.underlying4 _), (trodAll_cons_mk (shut_int Try.underlying22 w0) (trodAll_cons_mk (shut_int Try.underlying3 w1) (trodAll_cons_mk (Below.trod laidOut (by kernel_rfl) (of_decide_eq_true (by kernel_rfl)) k2 bel lt2) trodAll_mk0))), rfl, bel.frame _, fun h => by cases h⟩

theorem forms_holds : Rows.VintFormsSaid :=
  OpenClaim.holds_of_wide 3 Try.f3 rfl rfl rfl rfl rfl rfl rfl ⟨rfl, rfl, rfl, rfl, rfl⟩ rfl rfl rfl rfl rfl (by kernel_rfl) Try.func3 (by kernel_rfl)
    (of_decide_eq_true (by kernel_rfl)) (by unfold Func.isWrapper; first | (rw [if_pos (by decide +kernel)]; kernel_rfl) | (rw [if_neg (by decide +kernel)]; exact ⟨rfl, rfl⟩))
    (fun os started H enc _ => forms_lifted os started H enc)
#print axioms forms_holds

end Go.Proofs.Ytliagckgollalaa
