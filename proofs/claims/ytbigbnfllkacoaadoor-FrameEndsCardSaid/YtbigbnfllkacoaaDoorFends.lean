/-
  FrameEnds: a Stream or a Datagram without its length goes up to the end, as the same frame as with it.
-/
import Derived.Test.YtbigbnfllkacoaaDoorFtr
import Derived.Test.YtbigbnfllkacoaaDoorFsame
namespace Go.Proofs.YtbigbnfllkacoaaDoor
open Go.RowKit
set_option linter.unusedVariables false
set_option linter.unusedSimpArgs false


set_option maxHeartbeats 8000000 in
set_option maxRecDepth 100000 in
theorem ends_gram (x : Int) (v : Value) (l : List Int) (fin : Bool) (w : World) (hr : Rd w .u8 v l) (hk : BytesOk l) :
    Calls Tryd.prog 6 #[.int .u64 x, v, .bool fin, .bool true] w fun e w' => e = .returned (.bool true) ∧ Below w.heap.size w w' := by
  obtain ⟨i0, hi0, hz0, hz1, hz2⟩ := info_parts infoB
  obtain ⟨dat, hdd⟩ : ∃ d, d = l.take 300 := ⟨_, rfl⟩
  have hdl : dat.length ≤ 300 := by rw [hdd, List.length_take]; omega
  have hdk : BytesOk dat := by rw [hdd]; exact hk.take 300
  have HDD := Lib.hid hdd
  clear hdd
  have haw := awake_any w
  obtain ⟨Av, cv, rfl⟩ := hr.form
  go_enter Tryd.func6, Tryd.ntmps6
  go_wp2_with fail
  (with_reducible refine haw.mono ?_)
  rintro e w1 ⟨rfl, hB1⟩
  have hcu := cut_any _ l 300 w1 (hr.below hB1) (by decide)
  rw [← HDD.out] at hcu
  clear haw hr
  go_wp2_with fail
  refine hcu.mono ?_
  rintro e w2 ⟨vd, rfl, hoD, hb2⟩
  have hB2 := hB1.trans (hb2.mono hB1.size)
  have hs2 := hB2.size
  have hoD0 := own_b0 hoD (Nat.zero_le _)
  obtain ⟨AD, cD, rfl, _⟩ := sl_of_own hoD0
  obtain ⟨n, hn⟩ : ∃ n, n = dat.length := ⟨_, rfl⟩
  rw [← hn] at hoD0 hdl ⊢
  have HN := Lib.hid hn
  have hb3 := ((Below.refl w2.heap.size w2).alloc (Nat.le_refl _) (.cells #[.int .u64 48, .int .u64 0, .int .u64 0, .int .u64 0, .int .u64 0, .bool false, .slice AD n cD, .slice none 0 0, .slice none 0 0] 26)).alloc (by simp) (.cells #[.int .u8 48] 5)
  have hW3 := (Blk.new w2 26 #[.int .u64 48, .int .u64 0, .int .u64 0, .int .u64 0, .int .u64 0, .bool false, .slice AD n cD, .slice none 0 0, .slice none 0 0]).alloc (.cells #[.int .u8 48] 5)
  have hD3 := own_same hoD0 hb3
  have hP3 := World.ownsRow_lit (size := 1) (e := 5) (w2.alloc (.cells #[.int .u64 48, .int .u64 0, .int .u64 0, .int .u64 0, .int .u64 0, .bool false, .slice AD n cD, .slice none 0 0, .slice none 0 0] 26)) #[.int .u8 48] 1 (Nat.le_refl _) (by decide) rfl
  rw [World.size_alloc] at hP3
  have hP4 : World.ownsRow _ w2.heap.size 5 1 _ 1 ([48].map (Value.int .u8)) := own_b0 hP3 (by omega)
  have hD31 : World.ownsRow _ 0 5 1 (.slice AD n cD) n (dat.map (Value.int .u8)) := hD3
  obtain ⟨-, hAD, -, -, hrvD⟩ := (rd_of_own (k := .u8) hD31).rdv
  clear hn hcu hoD hb2 hB1 hP3 hD31
  go_wp2_with (first | (at_builtin; go_loud (refine wpList_append_any _ rfl _ _ 23 rfl w2.heap.size 5 i0 _ 1 1 Tryd.underlying23 hi0 hz0 hz1 hz2 rfl (by decide) _ 1 _ rfl hP4 AD n cD _ rfl hrvD (oneInts _ _) (by unfold maxLen; omega) (by omega) (by simp; omega) hAD ?_; intro vp w4 hown4 hgrow4 hat4; have hb4 := hb3.grown hgrow4 (by simp only [World.size_alloc]; omega) (fun m hm => (hP4.lt m hm).1); have hW4 := hW3.grown hgrow4 (fun e => own_blk_ne hP4 hW3 (by decide) e.symm); have hD4 := own_same hoD0 hb4)) | fail)
  have e4 : 1 + n = (48 :: dat : List Int).length := by rw [HN.out]; simp; omega
  rw [e4] at hown4
  have hP5 : w4.ownsRow 0 5 1 vp (48 :: dat).length ((48 :: dat).map (Value.int .u8)) := own_b0 hown4 (Nat.zero_le _)
  have hkp : BytesOk (48 :: dat) := fun x hx => by
    rcases List.mem_cons.1 hx with h | h
    · subst h; decide
    · exact hdk x h
  have hl0 : dat.length ≤ 1000 := by have := HN.out; omega
  have ht0 : vtake (48 :: dat) = some (48, dat) := vtake_form 48 1 dat (by decide) (.inl rfl) (by decide) (by decide)
  clear hown4 hgrow4 hat4 hP4 hW3 hb3 hrvD hD3 hoD0 e4

  have hrd := readE48 vp dat w4 hP5 hkp hl0 (by have := HN.out; omega) ht0
  clear hP5 hkp hl0 ht0
  go_wp2_with fail
  (with_reducible refine hrd.mono ?_)
  rintro e w5 ⟨A5, c5, rv, rfl, hD5, hrv, hb5⟩
  obtain ⟨Arv, crv, rfl⟩ := hrv.form
  have hba : Below w5.heap.size w5 (w5.alloc (.cells #[.int .u64 48, .int .u64 0, .int .u64 0, .int .u64 0, .int .u64 0, .bool false, .slice A5 dat.length c5, .slice none 0 0, .slice none 0 0] 26)) := (Below.refl _ _).alloc (Nat.le_refl _) _
  have hW6 := (hW4.same hb5).same hba
  have hD6 := (rd_of_own (k := .u8) (own_same (own_same hD4 hb5) hba))
  have hD7 := hD5.below hba
  have hb6 := hb4.trans ((hb5.trans (hba.mono hb5.size)).mono hb4.size)
  have y0 : World.cell? (w5.alloc (.cells #[.int .u64 48, .int .u64 0, .int .u64 0, .int .u64 0, .int .u64 0, .bool false, .slice A5 dat.length c5, .slice none 0 0, .slice none 0 0] 26)) ⟨w2.heap.size, 0, none⟩ = some (.int .u64 48) := hW6.cell 0
  have y1 : World.cell? (w5.alloc (.cells #[.int .u64 48, .int .u64 0, .int .u64 0, .int .u64 0, .int .u64 0, .bool false, .slice A5 dat.length c5, .slice none 0 0, .slice none 0 0] 26)) ⟨w2.heap.size, 1, none⟩ = some (.int .u64 0) := hW6.cell 1
  have y2 : World.cell? (w5.alloc (.cells #[.int .u64 48, .int .u64 0, .int .u64 0, .int .u64 0, .int .u64 0, .bool false, .slice A5 dat.length c5, .slice none 0 0, .slice none 0 0] 26)) ⟨w2.heap.size, 2, none⟩ = some (.int .u64 0) := hW6.cell 2
  have y3 : World.cell? (w5.alloc (.cells #[.int .u64 48, .int .u64 0, .int .u64 0, .int .u64 0, .int .u64 0, .bool false, .slice A5 dat.length c5, .slice none 0 0, .slice none 0 0] 26)) ⟨w2.heap.size, 3, none⟩ = some (.int .u64 0) := hW6.cell 3
  have y4 : World.cell? (w5.alloc (.cells #[.int .u64 48, .int .u64 0, .int .u64 0, .int .u64 0, .int .u64 0, .bool false, .slice A5 dat.length c5, .slice none 0 0, .slice none 0 0] 26)) ⟨w2.heap.size, 4, none⟩ = some (.int .u64 0) := hW6.cell 4
  have y5 : World.cell? (w5.alloc (.cells #[.int .u64 48, .int .u64 0, .int .u64 0, .int .u64 0, .int .u64 0, .bool false, .slice A5 dat.length c5, .slice none 0 0, .slice none 0 0] 26)) ⟨w2.heap.size, 5, none⟩ = some (.bool false) := hW6.cell 5
  have y6 : World.cell? (w5.alloc (.cells #[.int .u64 48, .int .u64 0, .int .u64 0, .int .u64 0, .int .u64 0, .bool false, .slice A5 dat.length c5, .slice none 0 0, .slice none 0 0] 26)) ⟨w2.heap.size, 6, none⟩ = some (.slice AD n cD) := hW6.cell 6
  have y7 : World.cell? (w5.alloc (.cells #[.int .u64 48, .int .u64 0, .int .u64 0, .int .u64 0, .int .u64 0, .bool false, .slice A5 dat.length c5, .slice none 0 0, .slice none 0 0] 26)) ⟨w2.heap.size, 7, none⟩ = some (.slice none 0 0) := hW6.cell 7
  have y8 : World.cell? (w5.alloc (.cells #[.int .u64 48, .int .u64 0, .int .u64 0, .int .u64 0, .int .u64 0, .bool false, .slice A5 dat.length c5, .slice none 0 0, .slice none 0 0] 26)) ⟨w2.heap.size, 8, none⟩ = some (.slice none 0 0) := hW6.cell 8
  have hsm := sameF_yes 48 (0) 0 0 0 false (.slice A5 dat.length c5) (.slice none 0 0) (.slice none 0 0) (.slice AD n cD) (.slice none 0 0) (.slice none 0 0) dat [] [] (w5.alloc (.cells #[.int .u64 48, .int .u64 0, .int .u64 0, .int .u64 0, .int .u64 0, .bool false, .slice A5 dat.length c5, .slice none 0 0, .slice none 0 0] 26)) hD7 (Rd.nil _ _) (RdP.nil _) hD6 (Rd.nil _ _) (RdP.nil _)
  clear hrd hrv hb5 hba hW4 hW6 hD4 hD5 hb4
  go_wp2_with fail
  (with_reducible refine hsm.mono ?_)
  rintro e w7 ⟨rfl, hb7⟩
  have hend := hB2.trans ((hb6.trans (hb7.mono hb6.size)).mono hs2)
  go_wp2_with fail
  go_ret
  exact ⟨rfl, hend⟩

set_option maxHeartbeats 8000000 in
set_option maxRecDepth 100000 in
theorem ends_str0 (x : Int) (v : Value) (l : List Int) (w : World) (hx : 0 ≤ x ∧ x ≤ 18446744073709551615) (hr : Rd w .u8 v l) (hk : BytesOk l) :
    Calls Tryd.prog 6 #[.int .u64 x, v, .bool false, .bool false] w fun e w' => e = .returned (.bool true) ∧ Below w.heap.size w w' := by
  obtain ⟨m, hm⟩ : ∃ m, m = x % 4611686018427387904 := ⟨_, rfl⟩
  have htm : x.tmod 4611686018427387904 = m := by rw [Int.tmod_eq_emod_of_nonneg hx.1, hm]
  have hmb : 0 ≤ m ∧ m ≤ 4611686018427387903 := by omega
  have hvz := vsz_some hmb.2
  have hor : bits .or .u8 8 1 = 9 := by decide +kernel
  clear hm
  obtain ⟨i0, hi0, hz0, hz1, hz2⟩ := info_parts infoB
  obtain ⟨dat, hdd⟩ : ∃ d, d = l.take 300 := ⟨_, rfl⟩
  have hdl : dat.length ≤ 300 := by rw [hdd, List.length_take]; omega
  have hdk : BytesOk dat := by rw [hdd]; exact hk.take 300
  have HDD := Lib.hid hdd
  clear hdd
  have haw := awake_any w
  obtain ⟨Av, cv, rfl⟩ := hr.form
  go_enter Tryd.func6, Tryd.ntmps6
  go_wp2_with fail
  (with_reducible refine haw.mono ?_)
  rintro e w1 ⟨rfl, hB1⟩
  have hcu := cut_any _ l 300 w1 (hr.below hB1) (by decide)
  rw [← HDD.out] at hcu
  clear haw hr
  go_wp2_with fail
  refine hcu.mono ?_
  rintro e w2 ⟨vd, rfl, hoD, hb2⟩
  have hB2 := hB1.trans (hb2.mono hB1.size)
  have hs2 := hB2.size
  have hoD0 := own_b0 hoD (Nat.zero_le _)
  obtain ⟨AD, cD, rfl, _⟩ := sl_of_own hoD0
  obtain ⟨n, hn⟩ : ∃ n, n = dat.length := ⟨_, rfl⟩
  rw [← hn] at hoD0 hdl ⊢
  have HN := Lib.hid hn
  have hb3 := ((Below.refl w2.heap.size w2).alloc (Nat.le_refl _) (.cells #[.int .u64 48, .int .u64 0, .int .u64 0, .int .u64 0, .int .u64 0, .bool false, .slice AD n cD, .slice none 0 0, .slice none 0 0] 26)).alloc (by simp) (.cells #[.int .u8 48] 5)
  have hW3 := (Blk.new w2 26 #[.int .u64 48, .int .u64 0, .int .u64 0, .int .u64 0, .int .u64 0, .bool false, .slice AD n cD, .slice none 0 0, .slice none 0 0]).alloc (.cells #[.int .u8 48] 5)
  have hD3 := own_same hoD0 hb3
  have hP3 := World.ownsRow_lit (size := 1) (e := 5) (w2.alloc (.cells #[.int .u64 48, .int .u64 0, .int .u64 0, .int .u64 0, .int .u64 0, .bool false, .slice AD n cD, .slice none 0 0, .slice none 0 0] 26)) #[.int .u8 48] 1 (Nat.le_refl _) (by decide) rfl
  rw [World.size_alloc] at hP3
  have hP4 : World.ownsRow _ w2.heap.size 5 1 _ 1 ([48].map (Value.int .u8)) := own_b0 hP3 (by omega)
  have hD31 : World.ownsRow _ 0 5 1 (.slice AD n cD) n (dat.map (Value.int .u8)) := hD3
  obtain ⟨-, hAD, -, -, hrvD⟩ := (rd_of_own (k := .u8) hD31).rdv
  clear hn hcu hoD hb2 hB1 hP3 hD31
  have htok : True := trivial
  go_wp2_with (first | (at_builtin; clear htok; refine wpList_append_any _ rfl _ _ 23 rfl w2.heap.size 5 i0 _ 1 1 Tryd.underlying23 hi0 hz0 hz1 hz2 rfl (by decide) _ 1 _ rfl hP4 AD n cD _ rfl hrvD (oneInts _ _) (by unfold maxLen; omega) (by omega) (by simp; omega) hAD ?_; intro v0 wA hownA hgrowA hatA; obtain ⟨A0, c0, rfl, _⟩ := sl_of_own hownA; have hbA := hb3.grown hgrowA (by simp only [World.size_alloc]; omega) (fun m hm => (hP4.lt m hm).1); have hWA := hW3.grown hgrowA (fun e => own_blk_ne hP4 hW3 (by decide) e.symm); have hDA := own_same hoD0 hbA; have y0 : World.cell? wA ⟨w2.heap.size, 0, none⟩ = some (.int .u64 48) := hWA.cell 0; have y1 : World.cell? wA ⟨w2.heap.size, 1, none⟩ = some (.int .u64 0) := hWA.cell 1; have y2 : World.cell? wA ⟨w2.heap.size, 2, none⟩ = some (.int .u64 0) := hWA.cell 2; have y3 : World.cell? wA ⟨w2.heap.size, 3, none⟩ = some (.int .u64 0) := hWA.cell 3; have y4 : World.cell? wA ⟨w2.heap.size, 4, none⟩ = some (.int .u64 0) := hWA.cell 4; have y5 : World.cell? wA ⟨w2.heap.size, 5, none⟩ = some (.bool false) := hWA.cell 5; have y6 : World.cell? wA ⟨w2.heap.size, 6, none⟩ = some (.slice AD n cD) := hWA.cell 6; have y7 : World.cell? wA ⟨w2.heap.size, 7, none⟩ = some (.slice none 0 0) := hWA.cell 7; have y8 : World.cell? wA ⟨w2.heap.size, 8, none⟩ = some (.slice none 0 0) := hWA.cell 8; have f0 := hWA.frozen 0; have f1 := hWA.frozen 1; have f2 := hWA.frozen 2; have f3 := hWA.frozen 3; have f4 := hWA.frozen 4; have f5 := hWA.frozen 5; have f6 := hWA.frozen 6; have f7 := hWA.frozen 7; have f8 := hWA.frozen 8; clear hownA hgrowA hatA hP4 hW3 hb3 hrvD hD3) | fail)
  obtain ⟨W6, hW6⟩ : ∃ W6, W6 = (((((((((wA.setCell ⟨w2.heap.size, 0, none⟩ (.int .u64 8)).setCell ⟨w2.heap.size, 1, none⟩ (.int .u64 m)).setCell ⟨w2.heap.size, 2, none⟩ (.int .u64 0)).setCell ⟨w2.heap.size, 3, none⟩ (.int .u64 0)).setCell ⟨w2.heap.size, 4, none⟩ (.int .u64 0)).setCell ⟨w2.heap.size, 5, none⟩ (.bool false)).setCell ⟨w2.heap.size, 6, none⟩ (.slice AD n cD)).setCell ⟨w2.heap.size, 7, none⟩ (.slice none 0 0)).setCell ⟨w2.heap.size, 8, none⟩ (.slice none 0 0)) := ⟨_, rfl⟩
  have hg6 : wA.grownBy W6 (some w2.heap.size) := by rw [hW6]; exact grown9 _ _ _ _ _ _ _ _ _ _ _
  have hWB : Blk W6 w2.heap.size 26 #[.int .u64 8, .int .u64 m, .int .u64 0, .int .u64 0, .int .u64 0, .bool false, .slice AD n cD, .slice none 0 0, .slice none 0 0] := by rw [hW6]; exact hWA.set9 (.int .u64 8) (.int .u64 m) (.int .u64 0) (.int .u64 0) (.int .u64 0) (.bool false) (.slice AD n cD) (.slice none 0 0) (.slice none 0 0)
  rw [← hW6]
  have hDB := own_grown hDA hg6 (.inr (own_blk_ne hDA hWA (by decide)))
  have hbB : Below w2.heap.size w2 W6 := hbA.grown hg6 hbA.size (fun m hm => by simp only [Option.some.injEq] at hm; omega)
  have hnr : numR m = (vform m (vsz m), 0) := if_neg hvz
  have hnum := rnum_all m W6 hmb.1 (by omega)
  rw [hnr] at hnum
  clear hg6 hW6 hWA hDA hbA hnr htm y0 f0 y1 f1 y2 f2 y3 f3 y4 f4 y5 f5 y6 f6 y7 f7 y8 f8
  (with_reducible refine hnum.mono ?_)
  rintro e w7 ⟨vn, rfl, hvn, hb7⟩
  have hWC := hWB.same hb7
  have hDC := own_same hDB hb7
  have hbC := hbB.trans (hb7.mono hbB.size)
  have hsC := hbC.size
  obtain ⟨kn, hkn⟩ : ∃ kn, kn = (vform m (vsz m)).length := ⟨_, rfl⟩
  have hkn8 : kn ≤ 8 := by rw [hkn]; exact vf_len m hvz
  obtain ⟨An, cn, rfl⟩ := hvn.form
  rw [← hkn] at hvn ⊢
  have hvn2 := hvn.below ((Below.refl w7.heap.size w7).alloc (Nat.le_refl _) (.cells #[.int .u8 8] 5))
  obtain ⟨-, hAn, -, -, hrvn⟩ := hvn2.rdv
  have hPl : (w7.alloc (.cells #[.int .u8 8] 5)).ownsRow w2.heap.size 5 1 (.slice (some ⟨w7.heap.size, 0, none⟩) 1 1) 1 ([8].map (Value.int .u8)) := own_b0 (World.ownsRow_lit (size := 1) (e := 5) w7 #[.int .u8 8] 1 (Nat.le_refl _) (by decide) rfl) hsC
  have hbl := (Below.refl w7.heap.size w7).alloc (Nat.le_refl _) (.cells #[.int .u8 8] 5)
  have hWl := hWC.same hbl
  have hDl := own_same hDC hbl
  have hbL := hbC.trans (hbl.mono hsC)
  have HKN := Lib.hid hkn
  clear hnum hWB hDB hbB hb7 hvn hvn2 hWC hDC hbC hkn hbl
  have htok2 : True := trivial
  go_wp2_with (first | (at_builtin; clear htok2; refine wpList_append_any _ rfl _ _ 23 rfl w2.heap.size 5 i0 _ 1 1 Tryd.underlying23 hi0 hz0 hz1 hz2 rfl (by decide) _ 1 _ rfl hPl An kn cn _ rfl hrvn (oneInts _ _) (by unfold maxLen; omega) (by omega) (by simp; omega) hAn ?_; intro v8 w8 hown8 hgrow8 hat8; obtain ⟨A8, c8, rfl, _⟩ := sl_of_own hown8; have hbM := hbL.grown hgrow8 hbL.size (fun m hm => (hPl.lt m hm).1); have hWM := hWl.grown hgrow8 (fun e => own_blk_ne hPl hWl (by decide) e.symm); have hDM := own_same hoD0 hbM; obtain ⟨-, hAM, -, -, hrvM⟩ := (rd_of_own (k := .u8) (show w8.ownsRow 0 5 1 (.slice AD n cD) n (dat.map (Value.int .u8)) from hDM)).rdv; clear hgrow8 hat8 hPl hWl hDl hbL hrvn) | (at_builtin; refine wpList_append_any _ rfl _ _ 23 rfl w2.heap.size 5 i0 _ 1 1 Tryd.underlying23 hi0 hz0 hz1 hz2 rfl (by decide) _ (1 + kn) _ rfl hown8 AD n cD _ rfl hrvM (oneInts _ _) (by unfold maxLen; omega) (by omega) hbM.size hAM ?_; intro vp w4 hown4 hgrow4 hat4; have hb4 := hbM.grown hgrow4 hbM.size (fun m hm => (hown8.lt m hm).1); have hW4 := hWM.grown hgrow4 (fun e => own_blk_ne hown8 hWM (by decide) e.symm); have hD4 := own_same hoD0 hb4) | fail)
  have hmN := HN.out
  have hmK := HKN.out
  obtain ⟨L, hLL⟩ : ∃ L, L = vform m (vsz m) ++ dat := ⟨_, rfl⟩
  have hLl : L.length = kn + n := by rw [hLL, List.length_append, ← hmK, ← hmN]
  have e4 : 1 + kn + n = (8 :: L : List Int).length := by rw [List.length_cons, hLl]; omega
  have hmp : ([8].map (Value.int .u8) ++ (vform m (vsz m)).map (Value.int .u8)) ++ dat.map (Value.int .u8) = (8 :: L : List Int).map (Value.int .u8) := by rw [hLL]; simp
  rw [e4, hmp] at hown4
  have hP5 : w4.ownsRow 0 5 1 vp (8 :: L).length ((8 :: L).map (Value.int .u8)) := own_b0 hown4 (Nat.zero_le _)
  have hsz := vsz_in m hvz
  have hkL : BytesOk L := by rw [hLL]; exact (vform_ok m (vsz m) hmb.1 hsz hvz (Nat.le_refl _)).append hdk
  have hkp : BytesOk (8 :: L) := fun x hx => by
    rcases List.mem_cons.1 hx with h | h
    · subst h; decide
    · exact hkL x h
  have hl0 : L.length ≤ 1000 := by omega
  have ht0 : vtake (8 :: L) = some (8, L) := vtake_form 8 1 L (by decide) (.inl rfl) (by decide) (by decide)
  have ht1 : vtake L = some (m, dat) := by rw [hLL]; exact vtake_form m (vsz m) dat hmb.1 hsz hvz (Nat.le_refl _)
  clear hown4 hgrow4 hat4 hown8 hWM hDM hrvM hbM e4 hmp hmN hmK hLl hLL hkL hsz hoD0 hor

  have hrd := readE8 vp (L) dat m ht1 hmb w4 hP5 hkp hl0 (by have := HN.out; omega) ht0
  clear hP5 hkp hl0 ht0
  go_wp2_with fail
  (with_reducible refine hrd.mono ?_)
  rintro e w5 ⟨A5, c5, rv, rfl, hD5, hrv, hb5⟩
  obtain ⟨Arv, crv, rfl⟩ := hrv.form
  have hba : Below w5.heap.size w5 (w5.alloc (.cells #[.int .u64 8, .int .u64 m, .int .u64 0, .int .u64 0, .int .u64 0, .bool false, .slice A5 dat.length c5, .slice none 0 0, .slice none 0 0] 26)) := (Below.refl _ _).alloc (Nat.le_refl _) _
  have hW6 := (hW4.same hb5).same hba
  have hD6 := (rd_of_own (k := .u8) (own_same (own_same hD4 hb5) hba))
  have hD7 := hD5.below hba
  have hb6 := hb4.trans ((hb5.trans (hba.mono hb5.size)).mono hb4.size)
  have y0 : World.cell? (w5.alloc (.cells #[.int .u64 8, .int .u64 m, .int .u64 0, .int .u64 0, .int .u64 0, .bool false, .slice A5 dat.length c5, .slice none 0 0, .slice none 0 0] 26)) ⟨w2.heap.size, 0, none⟩ = some (.int .u64 8) := hW6.cell 0
  have y1 : World.cell? (w5.alloc (.cells #[.int .u64 8, .int .u64 m, .int .u64 0, .int .u64 0, .int .u64 0, .bool false, .slice A5 dat.length c5, .slice none 0 0, .slice none 0 0] 26)) ⟨w2.heap.size, 1, none⟩ = some (.int .u64 m) := hW6.cell 1
  have y2 : World.cell? (w5.alloc (.cells #[.int .u64 8, .int .u64 m, .int .u64 0, .int .u64 0, .int .u64 0, .bool false, .slice A5 dat.length c5, .slice none 0 0, .slice none 0 0] 26)) ⟨w2.heap.size, 2, none⟩ = some (.int .u64 0) := hW6.cell 2
  have y3 : World.cell? (w5.alloc (.cells #[.int .u64 8, .int .u64 m, .int .u64 0, .int .u64 0, .int .u64 0, .bool false, .slice A5 dat.length c5, .slice none 0 0, .slice none 0 0] 26)) ⟨w2.heap.size, 3, none⟩ = some (.int .u64 0) := hW6.cell 3
  have y4 : World.cell? (w5.alloc (.cells #[.int .u64 8, .int .u64 m, .int .u64 0, .int .u64 0, .int .u64 0, .bool false, .slice A5 dat.length c5, .slice none 0 0, .slice none 0 0] 26)) ⟨w2.heap.size, 4, none⟩ = some (.int .u64 0) := hW6.cell 4
  have y5 : World.cell? (w5.alloc (.cells #[.int .u64 8, .int .u64 m, .int .u64 0, .int .u64 0, .int .u64 0, .bool false, .slice A5 dat.length c5, .slice none 0 0, .slice none 0 0] 26)) ⟨w2.heap.size, 5, none⟩ = some (.bool false) := hW6.cell 5
  have y6 : World.cell? (w5.alloc (.cells #[.int .u64 8, .int .u64 m, .int .u64 0, .int .u64 0, .int .u64 0, .bool false, .slice A5 dat.length c5, .slice none 0 0, .slice none 0 0] 26)) ⟨w2.heap.size, 6, none⟩ = some (.slice AD n cD) := hW6.cell 6
  have y7 : World.cell? (w5.alloc (.cells #[.int .u64 8, .int .u64 m, .int .u64 0, .int .u64 0, .int .u64 0, .bool false, .slice A5 dat.length c5, .slice none 0 0, .slice none 0 0] 26)) ⟨w2.heap.size, 7, none⟩ = some (.slice none 0 0) := hW6.cell 7
  have y8 : World.cell? (w5.alloc (.cells #[.int .u64 8, .int .u64 m, .int .u64 0, .int .u64 0, .int .u64 0, .bool false, .slice A5 dat.length c5, .slice none 0 0, .slice none 0 0] 26)) ⟨w2.heap.size, 8, none⟩ = some (.slice none 0 0) := hW6.cell 8
  have hsm := sameF_yes 8 (m) 0 0 0 false (.slice A5 dat.length c5) (.slice none 0 0) (.slice none 0 0) (.slice AD n cD) (.slice none 0 0) (.slice none 0 0) dat [] [] (w5.alloc (.cells #[.int .u64 8, .int .u64 m, .int .u64 0, .int .u64 0, .int .u64 0, .bool false, .slice A5 dat.length c5, .slice none 0 0, .slice none 0 0] 26)) hD7 (Rd.nil _ _) (RdP.nil _) hD6 (Rd.nil _ _) (RdP.nil _)
  clear hrd hrv hb5 hba hW4 hW6 hD4 hD5 hb4
  go_wp2_with fail
  (with_reducible refine hsm.mono ?_)
  rintro e w7 ⟨rfl, hb7⟩
  have hend := hB2.trans ((hb6.trans (hb7.mono hb6.size)).mono hs2)
  go_wp2_with fail
  go_ret
  exact ⟨rfl, hend⟩

set_option maxHeartbeats 8000000 in
set_option maxRecDepth 100000 in
theorem ends_str1 (x : Int) (v : Value) (l : List Int) (w : World) (hx : 0 ≤ x ∧ x ≤ 18446744073709551615) (hr : Rd w .u8 v l) (hk : BytesOk l) :
    Calls Tryd.prog 6 #[.int .u64 x, v, .bool true, .bool false] w fun e w' => e = .returned (.bool true) ∧ Below w.heap.size w w' := by
  obtain ⟨m, hm⟩ : ∃ m, m = x % 4611686018427387904 := ⟨_, rfl⟩
  have htm : x.tmod 4611686018427387904 = m := by rw [Int.tmod_eq_emod_of_nonneg hx.1, hm]
  have hmb : 0 ≤ m ∧ m ≤ 4611686018427387903 := by omega
  have hvz := vsz_some hmb.2
  have hor : bits .or .u8 8 1 = 9 := by decide +kernel
  clear hm
  obtain ⟨i0, hi0, hz0, hz1, hz2⟩ := info_parts infoB
  obtain ⟨dat, hdd⟩ : ∃ d, d = l.take 300 := ⟨_, rfl⟩
  have hdl : dat.length ≤ 300 := by rw [hdd, List.length_take]; omega
  have hdk : BytesOk dat := by rw [hdd]; exact hk.take 300
  have HDD := Lib.hid hdd
  clear hdd
  have haw := awake_any w
  obtain ⟨Av, cv, rfl⟩ := hr.form
  go_enter Tryd.func6, Tryd.ntmps6
  go_wp2_with fail
  (with_reducible refine haw.mono ?_)
  rintro e w1 ⟨rfl, hB1⟩
  have hcu := cut_any _ l 300 w1 (hr.below hB1) (by decide)
  rw [← HDD.out] at hcu
  clear haw hr
  go_wp2_with fail
  refine hcu.mono ?_
  rintro e w2 ⟨vd, rfl, hoD, hb2⟩
  have hB2 := hB1.trans (hb2.mono hB1.size)
  have hs2 := hB2.size
  have hoD0 := own_b0 hoD (Nat.zero_le _)
  obtain ⟨AD, cD, rfl, _⟩ := sl_of_own hoD0
  obtain ⟨n, hn⟩ : ∃ n, n = dat.length := ⟨_, rfl⟩
  rw [← hn] at hoD0 hdl ⊢
  have HN := Lib.hid hn
  have hb3 := ((Below.refl w2.heap.size w2).alloc (Nat.le_refl _) (.cells #[.int .u64 48, .int .u64 0, .int .u64 0, .int .u64 0, .int .u64 0, .bool false, .slice AD n cD, .slice none 0 0, .slice none 0 0] 26)).alloc (by simp) (.cells #[.int .u8 48] 5)
  have hW3 := (Blk.new w2 26 #[.int .u64 48, .int .u64 0, .int .u64 0, .int .u64 0, .int .u64 0, .bool false, .slice AD n cD, .slice none 0 0, .slice none 0 0]).alloc (.cells #[.int .u8 48] 5)
  have hD3 := own_same hoD0 hb3
  have hP3 := World.ownsRow_lit (size := 1) (e := 5) (w2.alloc (.cells #[.int .u64 48, .int .u64 0, .int .u64 0, .int .u64 0, .int .u64 0, .bool false, .slice AD n cD, .slice none 0 0, .slice none 0 0] 26)) #[.int .u8 48] 1 (Nat.le_refl _) (by decide) rfl
  rw [World.size_alloc] at hP3
  have hP4 : World.ownsRow _ w2.heap.size 5 1 _ 1 ([48].map (Value.int .u8)) := own_b0 hP3 (by omega)
  have hD31 : World.ownsRow _ 0 5 1 (.slice AD n cD) n (dat.map (Value.int .u8)) := hD3
  obtain ⟨-, hAD, -, -, hrvD⟩ := (rd_of_own (k := .u8) hD31).rdv
  clear hn hcu hoD hb2 hB1 hP3 hD31
  have htok : True := trivial
  go_wp2_with (first | (at_builtin; clear htok; refine wpList_append_any _ rfl _ _ 23 rfl w2.heap.size 5 i0 _ 1 1 Tryd.underlying23 hi0 hz0 hz1 hz2 rfl (by decide) _ 1 _ rfl hP4 AD n cD _ rfl hrvD (oneInts _ _) (by unfold maxLen; omega) (by omega) (by simp; omega) hAD ?_; intro v0 wA hownA hgrowA hatA; obtain ⟨A0, c0, rfl, _⟩ := sl_of_own hownA; have hbA := hb3.grown hgrowA (by simp only [World.size_alloc]; omega) (fun m hm => (hP4.lt m hm).1); have hWA := hW3.grown hgrowA (fun e => own_blk_ne hP4 hW3 (by decide) e.symm); have hDA := own_same hoD0 hbA; have y0 : World.cell? wA ⟨w2.heap.size, 0, none⟩ = some (.int .u64 48) := hWA.cell 0; have y1 : World.cell? wA ⟨w2.heap.size, 1, none⟩ = some (.int .u64 0) := hWA.cell 1; have y2 : World.cell? wA ⟨w2.heap.size, 2, none⟩ = some (.int .u64 0) := hWA.cell 2; have y3 : World.cell? wA ⟨w2.heap.size, 3, none⟩ = some (.int .u64 0) := hWA.cell 3; have y4 : World.cell? wA ⟨w2.heap.size, 4, none⟩ = some (.int .u64 0) := hWA.cell 4; have y5 : World.cell? wA ⟨w2.heap.size, 5, none⟩ = some (.bool false) := hWA.cell 5; have y6 : World.cell? wA ⟨w2.heap.size, 6, none⟩ = some (.slice AD n cD) := hWA.cell 6; have y7 : World.cell? wA ⟨w2.heap.size, 7, none⟩ = some (.slice none 0 0) := hWA.cell 7; have y8 : World.cell? wA ⟨w2.heap.size, 8, none⟩ = some (.slice none 0 0) := hWA.cell 8; have f0 := hWA.frozen 0; have f1 := hWA.frozen 1; have f2 := hWA.frozen 2; have f3 := hWA.frozen 3; have f4 := hWA.frozen 4; have f5 := hWA.frozen 5; have f6 := hWA.frozen 6; have f7 := hWA.frozen 7; have f8 := hWA.frozen 8; clear hownA hgrowA hatA hP4 hW3 hb3 hrvD hD3) | fail)
  obtain ⟨W6, hW6⟩ : ∃ W6, W6 = (((((((((wA.setCell ⟨w2.heap.size, 0, none⟩ (.int .u64 8)).setCell ⟨w2.heap.size, 1, none⟩ (.int .u64 m)).setCell ⟨w2.heap.size, 2, none⟩ (.int .u64 0)).setCell ⟨w2.heap.size, 3, none⟩ (.int .u64 0)).setCell ⟨w2.heap.size, 4, none⟩ (.int .u64 0)).setCell ⟨w2.heap.size, 5, none⟩ (.bool true)).setCell ⟨w2.heap.size, 6, none⟩ (.slice AD n cD)).setCell ⟨w2.heap.size, 7, none⟩ (.slice none 0 0)).setCell ⟨w2.heap.size, 8, none⟩ (.slice none 0 0)) := ⟨_, rfl⟩
  have hg6 : wA.grownBy W6 (some w2.heap.size) := by rw [hW6]; exact grown9 _ _ _ _ _ _ _ _ _ _ _
  have hWB : Blk W6 w2.heap.size 26 #[.int .u64 8, .int .u64 m, .int .u64 0, .int .u64 0, .int .u64 0, .bool true, .slice AD n cD, .slice none 0 0, .slice none 0 0] := by rw [hW6]; exact hWA.set9 (.int .u64 8) (.int .u64 m) (.int .u64 0) (.int .u64 0) (.int .u64 0) (.bool true) (.slice AD n cD) (.slice none 0 0) (.slice none 0 0)
  rw [← hW6]
  have hDB := own_grown hDA hg6 (.inr (own_blk_ne hDA hWA (by decide)))
  have hbB : Below w2.heap.size w2 W6 := hbA.grown hg6 hbA.size (fun m hm => by simp only [Option.some.injEq] at hm; omega)
  have hnr : numR m = (vform m (vsz m), 0) := if_neg hvz
  have hnum := rnum_all m W6 hmb.1 (by omega)
  rw [hnr] at hnum
  clear hg6 hW6 hWA hDA hbA hnr htm y0 f0 y1 f1 y2 f2 y3 f3 y4 f4 y5 f5 y6 f6 y7 f7 y8 f8
  (with_reducible refine hnum.mono ?_)
  rintro e w7 ⟨vn, rfl, hvn, hb7⟩
  have hWC := hWB.same hb7
  have hDC := own_same hDB hb7
  have hbC := hbB.trans (hb7.mono hbB.size)
  have hsC := hbC.size
  obtain ⟨kn, hkn⟩ : ∃ kn, kn = (vform m (vsz m)).length := ⟨_, rfl⟩
  have hkn8 : kn ≤ 8 := by rw [hkn]; exact vf_len m hvz
  obtain ⟨An, cn, rfl⟩ := hvn.form
  rw [← hkn] at hvn ⊢
  have hvn2 := hvn.below ((Below.refl w7.heap.size w7).alloc (Nat.le_refl _) (.cells #[.int .u8 9] 5))
  obtain ⟨-, hAn, -, -, hrvn⟩ := hvn2.rdv
  have hPl : (w7.alloc (.cells #[.int .u8 9] 5)).ownsRow w2.heap.size 5 1 (.slice (some ⟨w7.heap.size, 0, none⟩) 1 1) 1 ([9].map (Value.int .u8)) := own_b0 (World.ownsRow_lit (size := 1) (e := 5) w7 #[.int .u8 9] 1 (Nat.le_refl _) (by decide) rfl) hsC
  have hbl := (Below.refl w7.heap.size w7).alloc (Nat.le_refl _) (.cells #[.int .u8 9] 5)
  have hWl := hWC.same hbl
  have hDl := own_same hDC hbl
  have hbL := hbC.trans (hbl.mono hsC)
  have HKN := Lib.hid hkn
  clear hnum hWB hDB hbB hb7 hvn hvn2 hWC hDC hbC hkn hbl
  have htok2 : True := trivial
  go_wp2_with (first | (at_builtin; clear htok2; refine wpList_append_any _ rfl _ _ 23 rfl w2.heap.size 5 i0 _ 1 1 Tryd.underlying23 hi0 hz0 hz1 hz2 rfl (by decide) _ 1 _ rfl hPl An kn cn _ rfl hrvn (oneInts _ _) (by unfold maxLen; omega) (by omega) (by simp; omega) hAn ?_; intro v8 w8 hown8 hgrow8 hat8; obtain ⟨A8, c8, rfl, _⟩ := sl_of_own hown8; have hbM := hbL.grown hgrow8 hbL.size (fun m hm => (hPl.lt m hm).1); have hWM := hWl.grown hgrow8 (fun e => own_blk_ne hPl hWl (by decide) e.symm); have hDM := own_same hoD0 hbM; obtain ⟨-, hAM, -, -, hrvM⟩ := (rd_of_own (k := .u8) (show w8.ownsRow 0 5 1 (.slice AD n cD) n (dat.map (Value.int .u8)) from hDM)).rdv; clear hgrow8 hat8 hPl hWl hDl hbL hrvn) | (at_builtin; refine wpList_append_any _ rfl _ _ 23 rfl w2.heap.size 5 i0 _ 1 1 Tryd.underlying23 hi0 hz0 hz1 hz2 rfl (by decide) _ (1 + kn) _ rfl hown8 AD n cD _ rfl hrvM (oneInts _ _) (by unfold maxLen; omega) (by omega) hbM.size hAM ?_; intro vp w4 hown4 hgrow4 hat4; have hb4 := hbM.grown hgrow4 hbM.size (fun m hm => (hown8.lt m hm).1); have hW4 := hWM.grown hgrow4 (fun e => own_blk_ne hown8 hWM (by decide) e.symm); have hD4 := own_same hoD0 hb4) | fail)
  have hmN := HN.out
  have hmK := HKN.out
  obtain ⟨L, hLL⟩ : ∃ L, L = vform m (vsz m) ++ dat := ⟨_, rfl⟩
  have hLl : L.length = kn + n := by rw [hLL, List.length_append, ← hmK, ← hmN]
  have e4 : 1 + kn + n = (9 :: L : List Int).length := by rw [List.length_cons, hLl]; omega
  have hmp : ([9].map (Value.int .u8) ++ (vform m (vsz m)).map (Value.int .u8)) ++ dat.map (Value.int .u8) = (9 :: L : List Int).map (Value.int .u8) := by rw [hLL]; simp
  rw [e4, hmp] at hown4
  have hP5 : w4.ownsRow 0 5 1 vp (9 :: L).length ((9 :: L).map (Value.int .u8)) := own_b0 hown4 (Nat.zero_le _)
  have hsz := vsz_in m hvz
  have hkL : BytesOk L := by rw [hLL]; exact (vform_ok m (vsz m) hmb.1 hsz hvz (Nat.le_refl _)).append hdk
  have hkp : BytesOk (9 :: L) := fun x hx => by
    rcases List.mem_cons.1 hx with h | h
    · subst h; decide
    · exact hkL x h
  have hl0 : L.length ≤ 1000 := by omega
  have ht0 : vtake (9 :: L) = some (9, L) := vtake_form 9 1 L (by decide) (.inl rfl) (by decide) (by decide)
  have ht1 : vtake L = some (m, dat) := by rw [hLL]; exact vtake_form m (vsz m) dat hmb.1 hsz hvz (Nat.le_refl _)
  clear hown4 hgrow4 hat4 hown8 hWM hDM hrvM hbM e4 hmp hmN hmK hLl hLL hkL hsz hoD0 hor

  have hrd := readE9 vp (L) dat m ht1 hmb w4 hP5 hkp hl0 (by have := HN.out; omega) ht0
  clear hP5 hkp hl0 ht0
  go_wp2_with fail
  (with_reducible refine hrd.mono ?_)
  rintro e w5 ⟨A5, c5, rv, rfl, hD5, hrv, hb5⟩
  obtain ⟨Arv, crv, rfl⟩ := hrv.form
  have hba : Below w5.heap.size w5 (w5.alloc (.cells #[.int .u64 8, .int .u64 m, .int .u64 0, .int .u64 0, .int .u64 0, .bool true, .slice A5 dat.length c5, .slice none 0 0, .slice none 0 0] 26)) := (Below.refl _ _).alloc (Nat.le_refl _) _
  have hW6 := (hW4.same hb5).same hba
  have hD6 := (rd_of_own (k := .u8) (own_same (own_same hD4 hb5) hba))
  have hD7 := hD5.below hba
  have hb6 := hb4.trans ((hb5.trans (hba.mono hb5.size)).mono hb4.size)
  have y0 : World.cell? (w5.alloc (.cells #[.int .u64 8, .int .u64 m, .int .u64 0, .int .u64 0, .int .u64 0, .bool true, .slice A5 dat.length c5, .slice none 0 0, .slice none 0 0] 26)) ⟨w2.heap.size, 0, none⟩ = some (.int .u64 8) := hW6.cell 0
  have y1 : World.cell? (w5.alloc (.cells #[.int .u64 8, .int .u64 m, .int .u64 0, .int .u64 0, .int .u64 0, .bool true, .slice A5 dat.length c5, .slice none 0 0, .slice none 0 0] 26)) ⟨w2.heap.size, 1, none⟩ = some (.int .u64 m) := hW6.cell 1
  have y2 : World.cell? (w5.alloc (.cells #[.int .u64 8, .int .u64 m, .int .u64 0, .int .u64 0, .int .u64 0, .bool true, .slice A5 dat.length c5, .slice none 0 0, .slice none 0 0] 26)) ⟨w2.heap.size, 2, none⟩ = some (.int .u64 0) := hW6.cell 2
  have y3 : World.cell? (w5.alloc (.cells #[.int .u64 8, .int .u64 m, .int .u64 0, .int .u64 0, .int .u64 0, .bool true, .slice A5 dat.length c5, .slice none 0 0, .slice none 0 0] 26)) ⟨w2.heap.size, 3, none⟩ = some (.int .u64 0) := hW6.cell 3
  have y4 : World.cell? (w5.alloc (.cells #[.int .u64 8, .int .u64 m, .int .u64 0, .int .u64 0, .int .u64 0, .bool true, .slice A5 dat.length c5, .slice none 0 0, .slice none 0 0] 26)) ⟨w2.heap.size, 4, none⟩ = some (.int .u64 0) := hW6.cell 4
  have y5 : World.cell? (w5.alloc (.cells #[.int .u64 8, .int .u64 m, .int .u64 0, .int .u64 0, .int .u64 0, .bool true, .slice A5 dat.length c5, .slice none 0 0, .slice none 0 0] 26)) ⟨w2.heap.size, 5, none⟩ = some (.bool true) := hW6.cell 5
  have y6 : World.cell? (w5.alloc (.cells #[.int .u64 8, .int .u64 m, .int .u64 0, .int .u64 0, .int .u64 0, .bool true, .slice A5 dat.length c5, .slice none 0 0, .slice none 0 0] 26)) ⟨w2.heap.size, 6, none⟩ = some (.slice AD n cD) := hW6.cell 6
  have y7 : World.cell? (w5.alloc (.cells #[.int .u64 8, .int .u64 m, .int .u64 0, .int .u64 0, .int .u64 0, .bool true, .slice A5 dat.length c5, .slice none 0 0, .slice none 0 0] 26)) ⟨w2.heap.size, 7, none⟩ = some (.slice none 0 0) := hW6.cell 7
  have y8 : World.cell? (w5.alloc (.cells #[.int .u64 8, .int .u64 m, .int .u64 0, .int .u64 0, .int .u64 0, .bool true, .slice A5 dat.length c5, .slice none 0 0, .slice none 0 0] 26)) ⟨w2.heap.size, 8, none⟩ = some (.slice none 0 0) := hW6.cell 8
  have hsm := sameF_yes 8 (m) 0 0 0 true (.slice A5 dat.length c5) (.slice none 0 0) (.slice none 0 0) (.slice AD n cD) (.slice none 0 0) (.slice none 0 0) dat [] [] (w5.alloc (.cells #[.int .u64 8, .int .u64 m, .int .u64 0, .int .u64 0, .int .u64 0, .bool true, .slice A5 dat.length c5, .slice none 0 0, .slice none 0 0] 26)) hD7 (Rd.nil _ _) (RdP.nil _) hD6 (Rd.nil _ _) (RdP.nil _)
  clear hrd hrv hb5 hba hW4 hW6 hD4 hD5 hb4
  go_wp2_with fail
  (with_reducible refine hsm.mono ?_)
  rintro e w7 ⟨rfl, hb7⟩
  have hend := hB2.trans ((hb6.trans (hb7.mono hb6.size)).mono hs2)
  go_wp2_with fail
  go_ret
  exact ⟨rfl, hend⟩

end Go.Proofs.YtbigbnfllkacoaaDoor
