/-
  What fields of a pen writes.
-/
import Derived.Test.YtjijmbpgfabgcaaDoorZG
import Derived.Test.YtjijmbpgfabgcaaDoorZA
import Derived.Deep.DeepCutAuto
namespace Go.Proofs.YtjijmbpgfabgcaaDoor
open Go.RowKit
set_option linter.unusedVariables false
set_option linter.unusedSimpArgs false

set_option maxHeartbeats 4000000 in
set_option maxRecDepth 100000 in
theorem pf289 (B pb : Nat) (kd id al : Int) (nA : Option Addr) (nl nc : Nat) (pr od sg so eg eo : Int) (sm : Bool) (cd : Int) (rA : Option Addr) (rl rc : Nat) (n ve : Int) (vA : Option Addr) (vl vc : Nat) (nm rs vs : List Int) (w : World) (hPn : Pen B w pb []) (hBs : B ≤ w.heap.size) (hNM : ∀ w', PenK B w w' → Rd w' .u8 (.slice nA nl nc) nm) (hRS : ∀ w', PenK B w w' → Rd w' .u8 (.slice rA rl rc) rs) (hVS : ∀ w', PenK B w w' → Rd w' .u64 (.slice vA vl vc) vs)
    (hkd : 0 ≤ kd ∧ kd ≤ 18446744073709551615) (hid : 0 ≤ id ∧ id ≤ 18446744073709551615) (hal : 0 ≤ al ∧ al ≤ 18446744073709551615) (hsg : 0 ≤ sg ∧ sg ≤ 18446744073709551615) (hso : 0 ≤ so ∧ so ≤ 18446744073709551615) (heg : 0 ≤ eg ∧ eg ≤ 18446744073709551615) (heo : 0 ≤ eo ∧ eo ≤ 18446744073709551615) (hcd : 0 ≤ cd ∧ cd ≤ 18446744073709551615) (hn : 0 ≤ n ∧ n ≤ 18446744073709551615) (hve : 0 ≤ ve ∧ ve ≤ 18446744073709551615) (fid : vsz id ≠ 0) (fal : vsz al ≠ 0) (fsg : vsz sg ≠ 0) (fso : vsz so ≠ 0) (feg : vsz eg ≠ 0) (feo : vsz eo ≠ 0) (fcd : vsz cd ≠ 0) (fn : vsz n ≠ 0) (fve : vsz ve ≠ 0) (hnl : nl ≤ 100000) (hrl : rl ≤ 100000) (hvn20 : vs.length ≤ 20) (hvan : AllN vs) (hvfn : FitN vs) :
    Calls Tryd.prog 27 #[.pointer (some ⟨pb, 0, none⟩), .agg #[.int .u64 kd, .int .u64 id, .int .u64 al, .slice nA nl nc, .int .u8 pr, .int .u8 od, .int .u64 sg, .int .u64 so, .int .u64 eg, .int .u64 eo, .bool sm, .int .u64 cd, .slice rA rl rc, .int .u64 n, .int .u64 ve, .slice vA vl vc], .int .i64 289] w fun e w' => e = .returned (.tuple #[]) ∧ Pen B w' pb (((([] : List Int) ++ joinN [id]) ++ [b01 sm]) ++ joinN [sg, so]) ∧ PenK B w w' := by
  obtain ⟨i0, hi, hz0, hz1, hz2⟩ := info_parts infoB
  have hl1 := (hNM w (PenK.refl hBs)).rdv.1
  have hl2 := (hRS w (PenK.refl hBs)).rdv.1
  have hl3 := (hVS w (PenK.refl hBs)).rdv.1
  have hvl64 : (0 : Int) ≤ vl ∧ (vl : Int) ≤ 18446744073709551615 := by omega
  have hvlf : vsz (vl : Int) ≠ 0 := vsz_some (by omega)
  have HL1 := Lib.hid hl1
  have HL2 := Lib.hid hl2
  have HL3 := Lib.hid hl3
  clear hl1 hl2 hl3
  have hO0 := Blk.new w 31 #[.int .u64 kd, .int .u64 id, .int .u64 al, .slice nA nl nc, .int .u8 pr, .int .u8 od, .int .u64 sg, .int .u64 so, .int .u64 eg, .int .u64 eo, .bool sm, .int .u64 cd, .slice rA rl rc, .int .u64 n, .int .u64 ve, .slice vA vl vc]
  have hK0 : PenK B w (w.alloc (.cells #[.int .u64 kd, .int .u64 id, .int .u64 al, .slice nA nl nc, .int .u8 pr, .int .u8 od, .int .u64 sg, .int .u64 so, .int .u64 eg, .int .u64 eo, .bool sm, .int .u64 cd, .slice rA rl rc, .int .u64 n, .int .u64 ve, .slice vA vl vc] 31)) := (PenK.refl hBs).alloc _
  have hP0 := hPn.alloc (.cells #[.int .u64 kd, .int .u64 id, .int .u64 al, .slice nA nl nc, .int .u8 pr, .int .u8 od, .int .u64 sg, .int .u64 so, .int .u64 eg, .int .u64 eo, .bool sm, .int .u64 cd, .slice rA rl rc, .int .u64 n, .int .u64 ve, .slice vA vl vc] 31)
  have hJ0 : ([] : List Int).length ≤ 0 := Nat.le_refl _
  have HN := Lib.hid hNM
  have HR := Lib.hid hRS
  have HV := Lib.hid hVS
  clear hNM hRS hVS
  go_enter Tryd.func27, Tryd.ntmps27
  have x0_1 : World.cell? (w.alloc (.cells #[.int .u64 kd, .int .u64 id, .int .u64 al, .slice nA nl nc, .int .u8 pr, .int .u8 od, .int .u64 sg, .int .u64 so, .int .u64 eg, .int .u64 eo, .bool sm, .int .u64 cd, .slice rA rl rc, .int .u64 n, .int .u64 ve, .slice vA vl vc] 31)) ⟨w.heap.size, 1, none⟩ = some (.int .u64 id) := hO0.cell 1
  go_wp2_with fail
  have hlit : ∀ w', PenK B ((w.alloc (.cells #[.int .u64 kd, .int .u64 id, .int .u64 al, .slice nA nl nc, .int .u8 pr, .int .u8 od, .int .u64 sg, .int .u64 so, .int .u64 eg, .int .u64 eo, .bool sm, .int .u64 cd, .slice rA rl rc, .int .u64 n, .int .u64 ve, .slice vA vl vc] 31)).alloc (.cells #[.int .u64 id] 22)) w' → Rd w' .u64 (.slice (some ⟨w.heap.size + 1, 0, none⟩) 1 1) [id] := fun w' hk => pk_lit [id] (by simp) hk (by simp) (by simp)
  have hnum := pnum B pb ([] : List Int) [id] (some ⟨w.heap.size + 1, 0, none⟩) 1 1 ((w.alloc (.cells #[.int .u64 kd, .int .u64 id, .int .u64 al, .slice nA nl nc, .int .u8 pr, .int .u8 od, .int .u64 sg, .int .u64 so, .int .u64 eg, .int .u64 eo, .bool sm, .int .u64 cd, .slice rA rl rc, .int .u64 n, .int .u64 ve, .slice vA vl vc] 31)).alloc (.cells #[.int .u64 id] 22)) (hP0.alloc _) ((hK0.alloc _).sz) hlit (by have := hJ0; omega) (by simp) (an1 hid) (fn1 fid)
  clear hlit
  (with_reducible refine hnum.mono ?_)
  clear hnum
  rintro e w1 ⟨rfl, hP1, hk⟩
  have hK1 := (hK0.alloc _).trans hk
  have hO1 := hk.kept (hO0.alloc _) (by decide) (by decide)
  clear hk
  have hJ1 : (([] : List Int) ++ joinN [id]).length ≤ 8 := by rw [List.length_append]; have hjl := joinN_len [id] (fn1 fid); simp only [List.length_cons, List.length_nil] at hjl; have := hJ0; omega
  have hsz1 := hK1.sz
  go_upto_if 89 with fail
  go_cut [] (fun wc => Blk wc w.heap.size 31 #[.int .u64 kd, .int .u64 id, .int .u64 al, .slice nA nl nc, .int .u8 pr, .int .u8 od, .int .u64 sg, .int .u64 so, .int .u64 eg, .int .u64 eo, .bool sm, .int .u64 cd, .slice rA rl rc, .int .u64 n, .int .u64 ve, .slice vA vl vc] ∧ Pen B wc pb ((([] : List Int) ++ joinN [id]) ++ [b01 sm]) ∧ PenK B w wc)
  case first =>
    cases sm
    · have x10 : World.cell? w1 ⟨w.heap.size, 10, none⟩ = some (.bool false) := hO1.cell 10
      obtain ⟨hBp1, pv, hQ1, hop1⟩ := hP1
      have z0 : w1.cell? ⟨pb, 0, none⟩ = some pv := hQ1.cell 0
      obtain ⟨J, hJJ⟩ : ∃ J, J = (([] : List Int) ++ joinN [id]) := ⟨_, rfl⟩
      rw [← hJJ] at hop1
      have hJb : J.length ≤ 8 := by rw [hJJ]; exact hJ1
      have HJ := Lib.hid hJJ
      clear hJJ
      have hba : Below w1.heap.size w1 (w1.alloc (.cells #[.int .u8 0] 5)) := (Below.refl w1.heap.size w1).alloc (Nat.le_refl _) _
      have hopD := own_same hop1 hba
      have hQD := hQ1.same hba
      have hOD := hO1.same hba
      have hKD := hK1.trans (PenK.same hba hsz1)
      have d0 : (w1.alloc (.cells #[.int .u8 0] 5)).cell? ⟨pb, 0, none⟩ = some pv := hQD.cell 0
      have hszD := Nat.le_trans hsz1 hba.size
      have hrL : RdV (w1.alloc (.cells #[.int .u8 0] 5)) 1 (some ⟨w1.heap.size, 0, none⟩) 1 [.int .u8 0] := rdv_lit1 w1 _
      go_wp2_with (at_builtin; refine wpList_append_any _ rfl _ _ 23 rfl B 5 i0 _ 1 1 Tryd.underlying23 hi hz0 hz1 hz2 rfl (by decide) pv J.length _ rfl hopD (some ⟨w1.heap.size, 0, none⟩) 1 1 [.int .u8 0] rfl hrL (oneInts .u8 [0]) (by unfold maxLen; omega) (by omega) hszD (fun h => by cases h) ?_; intro v4 w4 hown4 hgrow4 hat4; obtain ⟨A4, c4, rfl, _⟩ := sl_of_own hown4; have hQ4 : Blk w4 pb 63 #[pv] := Blk.grown hQD hgrow4 (Ne.symm (own_blk_ne hopD hQD (by decide))); have e0 : w4.cell? ⟨pb, 0, none⟩ = some pv := hQ4.cell 0; have ef := hQ4.frozen 0; have hK4 := penk_grown hKD hopD hgrow4; have hO4 := Blk.grown hOD hgrow4 (Ne.symm (own_blk_ne hopD hOD (by decide))))
      all_goals have hown5 : w4.ownsRow B 5 1 (.slice A4 (J.length + 1) c4) ((([] : List Int) ++ joinN [id]) ++ [b01 false]).length (((([] : List Int) ++ joinN [id]) ++ [b01 false]).map (Value.int .u8)) := by rw [← HJ.out, List.length_append, List.map_append]; exact hown4
      all_goals go_meet
      all_goals exact ⟨hO4.far (p := ⟨pb, 0, none⟩) (fun e => (hO4.ne_ hQ4 (by decide)) e) _, pen_put hQ4 hBp1 hown5, penk_set hK4 hQ4 hBp1 0 _⟩
    · have x10 : World.cell? w1 ⟨w.heap.size, 10, none⟩ = some (.bool true) := hO1.cell 10
      obtain ⟨hBp1, pv, hQ1, hop1⟩ := hP1
      have z0 : w1.cell? ⟨pb, 0, none⟩ = some pv := hQ1.cell 0
      obtain ⟨J, hJJ⟩ : ∃ J, J = (([] : List Int) ++ joinN [id]) := ⟨_, rfl⟩
      rw [← hJJ] at hop1
      have hJb : J.length ≤ 8 := by rw [hJJ]; exact hJ1
      have HJ := Lib.hid hJJ
      clear hJJ
      have hba : Below w1.heap.size w1 (w1.alloc (.cells #[.int .u8 1] 5)) := (Below.refl w1.heap.size w1).alloc (Nat.le_refl _) _
      have hopD := own_same hop1 hba
      have hQD := hQ1.same hba
      have hOD := hO1.same hba
      have hKD := hK1.trans (PenK.same hba hsz1)
      have d0 : (w1.alloc (.cells #[.int .u8 1] 5)).cell? ⟨pb, 0, none⟩ = some pv := hQD.cell 0
      have hszD := Nat.le_trans hsz1 hba.size
      have hrL : RdV (w1.alloc (.cells #[.int .u8 1] 5)) 1 (some ⟨w1.heap.size, 0, none⟩) 1 [.int .u8 1] := rdv_lit1 w1 _
      go_wp2_with (at_builtin; refine wpList_append_any _ rfl _ _ 23 rfl B 5 i0 _ 1 1 Tryd.underlying23 hi hz0 hz1 hz2 rfl (by decide) pv J.length _ rfl hopD (some ⟨w1.heap.size, 0, none⟩) 1 1 [.int .u8 1] rfl hrL (oneInts .u8 [1]) (by unfold maxLen; omega) (by omega) hszD (fun h => by cases h) ?_; intro v4 w4 hown4 hgrow4 hat4; obtain ⟨A4, c4, rfl, _⟩ := sl_of_own hown4; have hQ4 : Blk w4 pb 63 #[pv] := Blk.grown hQD hgrow4 (Ne.symm (own_blk_ne hopD hQD (by decide))); have e0 : w4.cell? ⟨pb, 0, none⟩ = some pv := hQ4.cell 0; have ef := hQ4.frozen 0; have hK4 := penk_grown hKD hopD hgrow4; have hO4 := Blk.grown hOD hgrow4 (Ne.symm (own_blk_ne hopD hOD (by decide))))
      all_goals have hown5 : w4.ownsRow B 5 1 (.slice A4 (J.length + 1) c4) ((([] : List Int) ++ joinN [id]) ++ [b01 true]).length (((([] : List Int) ++ joinN [id]) ++ [b01 true]).map (Value.int .u8)) := by rw [← HJ.out, List.length_append, List.map_append]; exact hown4
      all_goals go_meet
      all_goals exact ⟨hO4.far (p := ⟨pb, 0, none⟩) (fun e => (hO4.ne_ hQ4 (by decide)) e) _, pen_put hQ4 hBp1 hown5, penk_set hK4 hQ4 hBp1 0 _⟩
  obtain ⟨w2, hwe⟩ : ∃ x, x = wc := ⟨_, rfl⟩
  subst hwe
  obtain ⟨hO2, hP2, hK2⟩ := hcut
  have hJ2 : ((([] : List Int) ++ joinN [id]) ++ [b01 sm]).length ≤ 9 := by rw [List.length_append]; simp only [List.length_cons, List.length_nil]; have := hJ1; omega
  have x2_6 : World.cell? w2 ⟨w.heap.size, 6, none⟩ = some (.int .u64 sg) := hO2.cell 6
  have x2_7 : World.cell? w2 ⟨w.heap.size, 7, none⟩ = some (.int .u64 so) := hO2.cell 7
  go_wp2_with fail
  have hlit : ∀ w', PenK B (w2.alloc (.cells #[.int .u64 sg, .int .u64 so] 22)) w' → Rd w' .u64 (.slice (some ⟨w2.heap.size, 0, none⟩) 2 2) [sg, so] := fun w' hk => pk_lit [sg, so] (by simp) hk (by simp) (by simp)
  have hnum := pnum B pb ((([] : List Int) ++ joinN [id]) ++ [b01 sm]) [sg, so] (some ⟨w2.heap.size, 0, none⟩) 2 2 (w2.alloc (.cells #[.int .u64 sg, .int .u64 so] 22)) (hP2.alloc _) ((hK2.alloc _).sz) hlit (by have := hJ2; omega) (by simp) (an2 hsg hso) (fn2 fsg fso)
  clear hlit
  (with_reducible refine hnum.mono ?_)
  clear hnum
  rintro e w3 ⟨rfl, hP3, hk⟩
  have hK3 := (hK2.alloc _).trans hk
  have hO3 := hk.kept (hO2.alloc _) (by decide) (by decide)
  clear hk
  have hJ3 : (((([] : List Int) ++ joinN [id]) ++ [b01 sm]) ++ joinN [sg, so]).length ≤ 25 := by rw [List.length_append]; have hjl := joinN_len [sg, so] (fn2 fsg fso); simp only [List.length_cons, List.length_nil] at hjl; have := hJ2; omega
  go_wp2_with fail
  (first | go_end0 | ((try simp only [Exit.inBlock, Exit.then]); refine bodyPost_ret (results_none rfl _ _ _) rfl ?_))
  exact ⟨rfl, hP3, hK3⟩
set_option maxHeartbeats 4000000 in
set_option maxRecDepth 100000 in
theorem pf1537 (B pb : Nat) (kd id al : Int) (nA : Option Addr) (nl nc : Nat) (pr od sg so eg eo : Int) (sm : Bool) (cd : Int) (rA : Option Addr) (rl rc : Nat) (n ve : Int) (vA : Option Addr) (vl vc : Nat) (nm rs vs : List Int) (w : World) (hPn : Pen B w pb []) (hBs : B ≤ w.heap.size) (hNM : ∀ w', PenK B w w' → Rd w' .u8 (.slice nA nl nc) nm) (hRS : ∀ w', PenK B w w' → Rd w' .u8 (.slice rA rl rc) rs) (hVS : ∀ w', PenK B w w' → Rd w' .u64 (.slice vA vl vc) vs)
    (hkd : 0 ≤ kd ∧ kd ≤ 18446744073709551615) (hid : 0 ≤ id ∧ id ≤ 18446744073709551615) (hal : 0 ≤ al ∧ al ≤ 18446744073709551615) (hsg : 0 ≤ sg ∧ sg ≤ 18446744073709551615) (hso : 0 ≤ so ∧ so ≤ 18446744073709551615) (heg : 0 ≤ eg ∧ eg ≤ 18446744073709551615) (heo : 0 ≤ eo ∧ eo ≤ 18446744073709551615) (hcd : 0 ≤ cd ∧ cd ≤ 18446744073709551615) (hn : 0 ≤ n ∧ n ≤ 18446744073709551615) (hve : 0 ≤ ve ∧ ve ≤ 18446744073709551615) (fid : vsz id ≠ 0) (fal : vsz al ≠ 0) (fsg : vsz sg ≠ 0) (fso : vsz so ≠ 0) (feg : vsz eg ≠ 0) (feo : vsz eo ≠ 0) (fcd : vsz cd ≠ 0) (fn : vsz n ≠ 0) (fve : vsz ve ≠ 0) (hnl : nl ≤ 100000) (hrl : rl ≤ 100000) (hvn20 : vs.length ≤ 20) (hvan : AllN vs) (hvfn : FitN vs) :
    Calls Tryd.prog 27 #[.pointer (some ⟨pb, 0, none⟩), .agg #[.int .u64 kd, .int .u64 id, .int .u64 al, .slice nA nl nc, .int .u8 pr, .int .u8 od, .int .u64 sg, .int .u64 so, .int .u64 eg, .int .u64 eo, .bool sm, .int .u64 cd, .slice rA rl rc, .int .u64 n, .int .u64 ve, .slice vA vl vc], .int .i64 1537] w fun e w' => e = .returned (.tuple #[]) ∧ Pen B w' pb (((([] : List Int) ++ joinN [id]) ++ joinN [cd]) ++ txtB rs) ∧ PenK B w w' := by
  obtain ⟨i0, hi, hz0, hz1, hz2⟩ := info_parts infoB
  have hl1 := (hNM w (PenK.refl hBs)).rdv.1
  have hl2 := (hRS w (PenK.refl hBs)).rdv.1
  have hl3 := (hVS w (PenK.refl hBs)).rdv.1
  have hvl64 : (0 : Int) ≤ vl ∧ (vl : Int) ≤ 18446744073709551615 := by omega
  have hvlf : vsz (vl : Int) ≠ 0 := vsz_some (by omega)
  have HL1 := Lib.hid hl1
  have HL2 := Lib.hid hl2
  have HL3 := Lib.hid hl3
  clear hl1 hl2 hl3
  have hO0 := Blk.new w 31 #[.int .u64 kd, .int .u64 id, .int .u64 al, .slice nA nl nc, .int .u8 pr, .int .u8 od, .int .u64 sg, .int .u64 so, .int .u64 eg, .int .u64 eo, .bool sm, .int .u64 cd, .slice rA rl rc, .int .u64 n, .int .u64 ve, .slice vA vl vc]
  have hK0 : PenK B w (w.alloc (.cells #[.int .u64 kd, .int .u64 id, .int .u64 al, .slice nA nl nc, .int .u8 pr, .int .u8 od, .int .u64 sg, .int .u64 so, .int .u64 eg, .int .u64 eo, .bool sm, .int .u64 cd, .slice rA rl rc, .int .u64 n, .int .u64 ve, .slice vA vl vc] 31)) := (PenK.refl hBs).alloc _
  have hP0 := hPn.alloc (.cells #[.int .u64 kd, .int .u64 id, .int .u64 al, .slice nA nl nc, .int .u8 pr, .int .u8 od, .int .u64 sg, .int .u64 so, .int .u64 eg, .int .u64 eo, .bool sm, .int .u64 cd, .slice rA rl rc, .int .u64 n, .int .u64 ve, .slice vA vl vc] 31)
  have hJ0 : ([] : List Int).length ≤ 0 := Nat.le_refl _
  have HN := Lib.hid hNM
  have HR := Lib.hid hRS
  have HV := Lib.hid hVS
  clear hNM hRS hVS
  go_enter Tryd.func27, Tryd.ntmps27
  have x0_1 : World.cell? (w.alloc (.cells #[.int .u64 kd, .int .u64 id, .int .u64 al, .slice nA nl nc, .int .u8 pr, .int .u8 od, .int .u64 sg, .int .u64 so, .int .u64 eg, .int .u64 eo, .bool sm, .int .u64 cd, .slice rA rl rc, .int .u64 n, .int .u64 ve, .slice vA vl vc] 31)) ⟨w.heap.size, 1, none⟩ = some (.int .u64 id) := hO0.cell 1
  go_wp2_with fail
  have hlit : ∀ w', PenK B ((w.alloc (.cells #[.int .u64 kd, .int .u64 id, .int .u64 al, .slice nA nl nc, .int .u8 pr, .int .u8 od, .int .u64 sg, .int .u64 so, .int .u64 eg, .int .u64 eo, .bool sm, .int .u64 cd, .slice rA rl rc, .int .u64 n, .int .u64 ve, .slice vA vl vc] 31)).alloc (.cells #[.int .u64 id] 22)) w' → Rd w' .u64 (.slice (some ⟨w.heap.size + 1, 0, none⟩) 1 1) [id] := fun w' hk => pk_lit [id] (by simp) hk (by simp) (by simp)
  have hnum := pnum B pb ([] : List Int) [id] (some ⟨w.heap.size + 1, 0, none⟩) 1 1 ((w.alloc (.cells #[.int .u64 kd, .int .u64 id, .int .u64 al, .slice nA nl nc, .int .u8 pr, .int .u8 od, .int .u64 sg, .int .u64 so, .int .u64 eg, .int .u64 eo, .bool sm, .int .u64 cd, .slice rA rl rc, .int .u64 n, .int .u64 ve, .slice vA vl vc] 31)).alloc (.cells #[.int .u64 id] 22)) (hP0.alloc _) ((hK0.alloc _).sz) hlit (by have := hJ0; omega) (by simp) (an1 hid) (fn1 fid)
  clear hlit
  (with_reducible refine hnum.mono ?_)
  clear hnum
  rintro e w1 ⟨rfl, hP1, hk⟩
  have hK1 := (hK0.alloc _).trans hk
  have hO1 := hk.kept (hO0.alloc _) (by decide) (by decide)
  clear hk
  have hJ1 : (([] : List Int) ++ joinN [id]).length ≤ 8 := by rw [List.length_append]; have hjl := joinN_len [id] (fn1 fid); simp only [List.length_cons, List.length_nil] at hjl; have := hJ0; omega
  have x1_11 : World.cell? w1 ⟨w.heap.size, 11, none⟩ = some (.int .u64 cd) := hO1.cell 11
  go_wp2_with fail
  have hlit : ∀ w', PenK B (w1.alloc (.cells #[.int .u64 cd] 22)) w' → Rd w' .u64 (.slice (some ⟨w1.heap.size, 0, none⟩) 1 1) [cd] := fun w' hk => pk_lit [cd] (by simp) hk (by simp) (by simp)
  have hnum := pnum B pb (([] : List Int) ++ joinN [id]) [cd] (some ⟨w1.heap.size, 0, none⟩) 1 1 (w1.alloc (.cells #[.int .u64 cd] 22)) (hP1.alloc _) ((hK1.alloc _).sz) hlit (by have := hJ1; omega) (by simp) (an1 hcd) (fn1 fcd)
  clear hlit
  (with_reducible refine hnum.mono ?_)
  clear hnum
  rintro e w2 ⟨rfl, hP2, hk⟩
  have hK2 := (hK1.alloc _).trans hk
  have hO2 := hk.kept (hO1.alloc _) (by decide) (by decide)
  clear hk
  have hJ2 : ((([] : List Int) ++ joinN [id]) ++ joinN [cd]).length ≤ 16 := by rw [List.length_append]; have hjl := joinN_len [cd] (fn1 fcd); simp only [List.length_cons, List.length_nil] at hjl; have := hJ1; omega
  have hsz2 := hK2.sz
  go_wp2_with fail
  go_cut [] (fun wc => Blk wc w.heap.size 31 #[.int .u64 kd, .int .u64 id, .int .u64 al, .slice nA nl nc, .int .u8 pr, .int .u8 od, .int .u64 sg, .int .u64 so, .int .u64 eg, .int .u64 eo, .bool sm, .int .u64 cd, .slice rA rl rc, .int .u64 n, .int .u64 ve, .slice vA vl vc] ∧ Pen B wc pb (((([] : List Int) ++ joinN [id]) ++ joinN [cd]) ++ txtB rs) ∧ PenK B w wc)
  case first =>
    obtain ⟨hBp2, pv, hQ2, hop2⟩ := hP2
    have z0 : w2.cell? ⟨pb, 0, none⟩ = some pv := hQ2.cell 0
    have z1 : w2.cell? ⟨w.heap.size, 12, none⟩ = some (.slice rA rl rc) := hO2.cell 12
    have hnD : Rd w2.drew .u8 (.slice rA rl rc) rs := ((HR.out w2 hK2).drew)
    have hll : rs.length ≤ 100000 := by have := HL2.out; omega
    have htl := txtB_len rs (by omega)
    obtain ⟨J, hJJ⟩ : ∃ J, J = ((([] : List Int) ++ joinN [id]) ++ joinN [cd]) := ⟨_, rfl⟩
    rw [← hJJ] at hop2
    have hJb : J.length ≤ 16 := by rw [hJJ]; exact hJ2
    have HJ := Lib.hid hJJ
    clear hJJ
    obtain ⟨T, hT⟩ : ∃ T, T = txtB rs := ⟨_, rfl⟩
    rw [← hT] at htl
    have hJt : J.length + T.length ≤ 1000000 := by omega
    have HT := Lib.hid hT
    clear hT
    go_region_law (first | (go_simp; go_at_call 45; (with_reducible refine (txt_any _ rs w2.drew hnD (by omega)).mono ?_); rintro e wD ⟨tv, rfl, hoD, hbD⟩; rw [← HT.out] at hoD; obtain ⟨AT, cT, rfl, _⟩ := sl_of_own hoD; have hopD := own_same (own_drewN hop2 1) hbD; have hQD := hQ2.drew.same hbD; have hOD := hO2.drew.same hbD; have hKD := hK2.drew.trans (PenK.same hbD hsz2); have d0 : wD.cell? ⟨pb, 0, none⟩ = some pv := hQD.cell 0; have hszD := Nat.le_trans hsz2 hbD.size; have d1 : wD.cell? ⟨w.heap.size, 12, none⟩ = some (.slice rA rl rc) := hOD.cell 12) | (refine step_append_any _ rfl _ _ 23 rfl B 5 i0 _ 1 1 Tryd.underlying23 hi hz0 hz1 hz2 rfl (by decide) pv J.length _ rfl hopD AT T.length cT _ rfl (rd_of_own hoD).rdv.2.2.2.2 (oneInts _ _) (by unfold maxLen; omega) (by omega) hszD (rd_of_own hoD).rdv.2.1 ?_; intro v4 w4 hown4 hgrow4 hat4; obtain ⟨A4, c4, rfl, _⟩ := sl_of_own hown4; have hQ4 : Blk w4 pb 63 #[pv] := Blk.grown hQD hgrow4 (Ne.symm (own_blk_ne hopD hQD (by decide))); have e0 : w4.cell? ⟨pb, 0, none⟩ = some pv := hQ4.cell 0; have ef := hQ4.frozen 0; have hK4 := penk_grown hKD hopD hgrow4; have hO4 := Blk.grown hOD hgrow4 (Ne.symm (own_blk_ne hopD hOD (by decide)))))
    all_goals have hown5 : w4.ownsRow B 5 1 (.slice A4 (J.length + T.length) c4) (((([] : List Int) ++ joinN [id]) ++ joinN [cd]) ++ txtB rs).length ((((([] : List Int) ++ joinN [id]) ++ joinN [cd]) ++ txtB rs).map (Value.int .u8)) := by rw [← HJ.out, ← HT.out, List.length_append, List.map_append]; exact hown4
    all_goals go_wp2_with fail
    all_goals go_meet
    all_goals exact ⟨hO4.far (p := ⟨pb, 0, none⟩) (fun e => (hO4.ne_ hQ4 (by decide)) e) _, pen_put hQ4 hBp2 hown5, penk_set hK4 hQ4 hBp2 0 _⟩
  obtain ⟨w3, hwe⟩ : ∃ x, x = wc := ⟨_, rfl⟩
  subst hwe
  obtain ⟨hO3, hP3, hK3⟩ := hcut
  have hJ3 : (((([] : List Int) ++ joinN [id]) ++ joinN [cd]) ++ txtB rs).length ≤ 100024 := by rw [List.length_append]; have hjl := txtB_len rs (by have := HL2.out; omega); have := HL2.out; have := hJ2; omega
  go_wp2_with fail
  (first | go_end0 | ((try simp only [Exit.inBlock, Exit.then]); refine bodyPost_ret (results_none rfl _ _ _) rfl ?_))
  exact ⟨rfl, hP3, hK3⟩
set_option maxHeartbeats 4000000 in
set_option maxRecDepth 100000 in
theorem pf5 (B pb : Nat) (kd id al : Int) (nA : Option Addr) (nl nc : Nat) (pr od sg so eg eo : Int) (sm : Bool) (cd : Int) (rA : Option Addr) (rl rc : Nat) (n ve : Int) (vA : Option Addr) (vl vc : Nat) (nm rs vs : List Int) (w : World) (hPn : Pen B w pb []) (hBs : B ≤ w.heap.size) (hNM : ∀ w', PenK B w w' → Rd w' .u8 (.slice nA nl nc) nm) (hRS : ∀ w', PenK B w w' → Rd w' .u8 (.slice rA rl rc) rs) (hVS : ∀ w', PenK B w w' → Rd w' .u64 (.slice vA vl vc) vs)
    (hkd : 0 ≤ kd ∧ kd ≤ 18446744073709551615) (hid : 0 ≤ id ∧ id ≤ 18446744073709551615) (hal : 0 ≤ al ∧ al ≤ 18446744073709551615) (hsg : 0 ≤ sg ∧ sg ≤ 18446744073709551615) (hso : 0 ≤ so ∧ so ≤ 18446744073709551615) (heg : 0 ≤ eg ∧ eg ≤ 18446744073709551615) (heo : 0 ≤ eo ∧ eo ≤ 18446744073709551615) (hcd : 0 ≤ cd ∧ cd ≤ 18446744073709551615) (hn : 0 ≤ n ∧ n ≤ 18446744073709551615) (hve : 0 ≤ ve ∧ ve ≤ 18446744073709551615) (fid : vsz id ≠ 0) (fal : vsz al ≠ 0) (fsg : vsz sg ≠ 0) (fso : vsz so ≠ 0) (feg : vsz eg ≠ 0) (feo : vsz eo ≠ 0) (fcd : vsz cd ≠ 0) (fn : vsz n ≠ 0) (fve : vsz ve ≠ 0) (hnl : nl ≤ 100000) (hrl : rl ≤ 100000) (hvn20 : vs.length ≤ 20) (hvan : AllN vs) (hvfn : FitN vs) :
    Calls Tryd.prog 27 #[.pointer (some ⟨pb, 0, none⟩), .agg #[.int .u64 kd, .int .u64 id, .int .u64 al, .slice nA nl nc, .int .u8 pr, .int .u8 od, .int .u64 sg, .int .u64 so, .int .u64 eg, .int .u64 eo, .bool sm, .int .u64 cd, .slice rA rl rc, .int .u64 n, .int .u64 ve, .slice vA vl vc], .int .i64 5] w fun e w' => e = .returned (.tuple #[]) ∧ Pen B w' pb ((([] : List Int) ++ joinN [id]) ++ txtB nm) ∧ PenK B w w' := by
  obtain ⟨i0, hi, hz0, hz1, hz2⟩ := info_parts infoB
  have hl1 := (hNM w (PenK.refl hBs)).rdv.1
  have hl2 := (hRS w (PenK.refl hBs)).rdv.1
  have hl3 := (hVS w (PenK.refl hBs)).rdv.1
  have hvl64 : (0 : Int) ≤ vl ∧ (vl : Int) ≤ 18446744073709551615 := by omega
  have hvlf : vsz (vl : Int) ≠ 0 := vsz_some (by omega)
  have HL1 := Lib.hid hl1
  have HL2 := Lib.hid hl2
  have HL3 := Lib.hid hl3
  clear hl1 hl2 hl3
  have hO0 := Blk.new w 31 #[.int .u64 kd, .int .u64 id, .int .u64 al, .slice nA nl nc, .int .u8 pr, .int .u8 od, .int .u64 sg, .int .u64 so, .int .u64 eg, .int .u64 eo, .bool sm, .int .u64 cd, .slice rA rl rc, .int .u64 n, .int .u64 ve, .slice vA vl vc]
  have hK0 : PenK B w (w.alloc (.cells #[.int .u64 kd, .int .u64 id, .int .u64 al, .slice nA nl nc, .int .u8 pr, .int .u8 od, .int .u64 sg, .int .u64 so, .int .u64 eg, .int .u64 eo, .bool sm, .int .u64 cd, .slice rA rl rc, .int .u64 n, .int .u64 ve, .slice vA vl vc] 31)) := (PenK.refl hBs).alloc _
  have hP0 := hPn.alloc (.cells #[.int .u64 kd, .int .u64 id, .int .u64 al, .slice nA nl nc, .int .u8 pr, .int .u8 od, .int .u64 sg, .int .u64 so, .int .u64 eg, .int .u64 eo, .bool sm, .int .u64 cd, .slice rA rl rc, .int .u64 n, .int .u64 ve, .slice vA vl vc] 31)
  have hJ0 : ([] : List Int).length ≤ 0 := Nat.le_refl _
  have HN := Lib.hid hNM
  have HR := Lib.hid hRS
  have HV := Lib.hid hVS
  clear hNM hRS hVS
  go_enter Tryd.func27, Tryd.ntmps27
  have x0_1 : World.cell? (w.alloc (.cells #[.int .u64 kd, .int .u64 id, .int .u64 al, .slice nA nl nc, .int .u8 pr, .int .u8 od, .int .u64 sg, .int .u64 so, .int .u64 eg, .int .u64 eo, .bool sm, .int .u64 cd, .slice rA rl rc, .int .u64 n, .int .u64 ve, .slice vA vl vc] 31)) ⟨w.heap.size, 1, none⟩ = some (.int .u64 id) := hO0.cell 1
  go_wp2_with fail
  have hlit : ∀ w', PenK B ((w.alloc (.cells #[.int .u64 kd, .int .u64 id, .int .u64 al, .slice nA nl nc, .int .u8 pr, .int .u8 od, .int .u64 sg, .int .u64 so, .int .u64 eg, .int .u64 eo, .bool sm, .int .u64 cd, .slice rA rl rc, .int .u64 n, .int .u64 ve, .slice vA vl vc] 31)).alloc (.cells #[.int .u64 id] 22)) w' → Rd w' .u64 (.slice (some ⟨w.heap.size + 1, 0, none⟩) 1 1) [id] := fun w' hk => pk_lit [id] (by simp) hk (by simp) (by simp)
  have hnum := pnum B pb ([] : List Int) [id] (some ⟨w.heap.size + 1, 0, none⟩) 1 1 ((w.alloc (.cells #[.int .u64 kd, .int .u64 id, .int .u64 al, .slice nA nl nc, .int .u8 pr, .int .u8 od, .int .u64 sg, .int .u64 so, .int .u64 eg, .int .u64 eo, .bool sm, .int .u64 cd, .slice rA rl rc, .int .u64 n, .int .u64 ve, .slice vA vl vc] 31)).alloc (.cells #[.int .u64 id] 22)) (hP0.alloc _) ((hK0.alloc _).sz) hlit (by have := hJ0; omega) (by simp) (an1 hid) (fn1 fid)
  clear hlit
  (with_reducible refine hnum.mono ?_)
  clear hnum
  rintro e w1 ⟨rfl, hP1, hk⟩
  have hK1 := (hK0.alloc _).trans hk
  have hO1 := hk.kept (hO0.alloc _) (by decide) (by decide)
  clear hk
  have hJ1 : (([] : List Int) ++ joinN [id]).length ≤ 8 := by rw [List.length_append]; have hjl := joinN_len [id] (fn1 fid); simp only [List.length_cons, List.length_nil] at hjl; have := hJ0; omega
  have hsz1 := hK1.sz
  go_wp2_with fail
  go_cut [] (fun wc => Blk wc w.heap.size 31 #[.int .u64 kd, .int .u64 id, .int .u64 al, .slice nA nl nc, .int .u8 pr, .int .u8 od, .int .u64 sg, .int .u64 so, .int .u64 eg, .int .u64 eo, .bool sm, .int .u64 cd, .slice rA rl rc, .int .u64 n, .int .u64 ve, .slice vA vl vc] ∧ Pen B wc pb ((([] : List Int) ++ joinN [id]) ++ txtB nm) ∧ PenK B w wc)
  case first =>
    obtain ⟨hBp1, pv, hQ1, hop1⟩ := hP1
    have z0 : w1.cell? ⟨pb, 0, none⟩ = some pv := hQ1.cell 0
    have z1 : w1.cell? ⟨w.heap.size, 3, none⟩ = some (.slice nA nl nc) := hO1.cell 3
    have hnD : Rd w1.drew .u8 (.slice nA nl nc) nm := ((HN.out w1 hK1).drew)
    have hll : nm.length ≤ 100000 := by have := HL1.out; omega
    have htl := txtB_len nm (by omega)
    obtain ⟨J, hJJ⟩ : ∃ J, J = (([] : List Int) ++ joinN [id]) := ⟨_, rfl⟩
    rw [← hJJ] at hop1
    have hJb : J.length ≤ 8 := by rw [hJJ]; exact hJ1
    have HJ := Lib.hid hJJ
    clear hJJ
    obtain ⟨T, hT⟩ : ∃ T, T = txtB nm := ⟨_, rfl⟩
    rw [← hT] at htl
    have hJt : J.length + T.length ≤ 1000000 := by omega
    have HT := Lib.hid hT
    clear hT
    go_region_law (first | (go_simp; go_at_call 45; (with_reducible refine (txt_any _ nm w1.drew hnD (by omega)).mono ?_); rintro e wD ⟨tv, rfl, hoD, hbD⟩; rw [← HT.out] at hoD; obtain ⟨AT, cT, rfl, _⟩ := sl_of_own hoD; have hopD := own_same (own_drewN hop1 1) hbD; have hQD := hQ1.drew.same hbD; have hOD := hO1.drew.same hbD; have hKD := hK1.drew.trans (PenK.same hbD hsz1); have d0 : wD.cell? ⟨pb, 0, none⟩ = some pv := hQD.cell 0; have hszD := Nat.le_trans hsz1 hbD.size; have d1 : wD.cell? ⟨w.heap.size, 3, none⟩ = some (.slice nA nl nc) := hOD.cell 3) | (refine step_append_any _ rfl _ _ 23 rfl B 5 i0 _ 1 1 Tryd.underlying23 hi hz0 hz1 hz2 rfl (by decide) pv J.length _ rfl hopD AT T.length cT _ rfl (rd_of_own hoD).rdv.2.2.2.2 (oneInts _ _) (by unfold maxLen; omega) (by omega) hszD (rd_of_own hoD).rdv.2.1 ?_; intro v4 w4 hown4 hgrow4 hat4; obtain ⟨A4, c4, rfl, _⟩ := sl_of_own hown4; have hQ4 : Blk w4 pb 63 #[pv] := Blk.grown hQD hgrow4 (Ne.symm (own_blk_ne hopD hQD (by decide))); have e0 : w4.cell? ⟨pb, 0, none⟩ = some pv := hQ4.cell 0; have ef := hQ4.frozen 0; have hK4 := penk_grown hKD hopD hgrow4; have hO4 := Blk.grown hOD hgrow4 (Ne.symm (own_blk_ne hopD hOD (by decide)))))
    all_goals have hown5 : w4.ownsRow B 5 1 (.slice A4 (J.length + T.length) c4) ((([] : List Int) ++ joinN [id]) ++ txtB nm).length (((([] : List Int) ++ joinN [id]) ++ txtB nm).map (Value.int .u8)) := by rw [← HJ.out, ← HT.out, List.length_append, List.map_append]; exact hown4
    all_goals go_wp2_with fail
    all_goals go_meet
    all_goals exact ⟨hO4.far (p := ⟨pb, 0, none⟩) (fun e => (hO4.ne_ hQ4 (by decide)) e) _, pen_put hQ4 hBp1 hown5, penk_set hK4 hQ4 hBp1 0 _⟩
  obtain ⟨w2, hwe⟩ : ∃ x, x = wc := ⟨_, rfl⟩
  subst hwe
  obtain ⟨hO2, hP2, hK2⟩ := hcut
  have hJ2 : ((([] : List Int) ++ joinN [id]) ++ txtB nm).length ≤ 100016 := by rw [List.length_append]; have hjl := txtB_len nm (by have := HL1.out; omega); have := HL1.out; have := hJ1; omega
  go_wp2_with fail
  (first | go_end0 | ((try simp only [Exit.inBlock, Exit.then]); refine bodyPost_ret (results_none rfl _ _ _) rfl ?_))
  exact ⟨rfl, hP2, hK2⟩

end Go.Proofs.YtjijmbpgfabgcaaDoor
