/-
  Drop: the walk. No condition.
-/
import Derived.Test.YtiaabbflchdcbaaShdrop
namespace Go.Proofs.Ytiaabbflchdcbaa
open Go.RowKit
set_option linter.unusedVariables false
set_option linter.unusedSimpArgs false

theorem KM.tdel {w : World} {tb : Nat} {T : List (List Int × Int × Int)} {x : List Int} (h : KM Try.prog 82 w tb (T.map tkv)) (hx : T32 x) :
    ∃ w', (Builtin.delete_ #[78, 82] 0 #[.map (some tb), .agg (trkC x)]).run Try.prog w = .ok (.tuple #[]) w' ∧ KM Try.prog 82 w' tb ((T.filter (fun z => !decide (z.1 = x))).map tkv) ∧ w.grownBy w' (some tb) ∧ w'.heap.size = w.heap.size := by
  rcases t_split (x := x) h.tnd with hn | ⟨A, v, B, rfl, hA⟩
  · have e : T.filter (fun z => !decide (z.1 = x)) = T := List.filter_eq_self.2 (fun z hz => by have := hn z hz; simpa using this)
    rw [e]
    exact h.drop_no law82 (t := 78) Try.underlying78 (key := .agg (trkC x)) (ok_trk hx) (fun y hy e => by
      obtain ⟨z, hzm, rfl⟩ := List.mem_map.1 hy
      exact hn z hzm (trk_inj (by injection e))) 0
  · have hnd := h.tnd
    rw [List.map_append, List.map_cons, List.nodup_append] at hnd
    have e : (A ++ (x, v) :: B).filter (fun z => !decide (z.1 = x)) = A ++ B := by
      rw [List.filter_append, List.filter_cons]
      simp only [decide_true, Bool.not_true, Bool.false_eq_true, if_false]
      congr 1
      · exact List.filter_eq_self.2 (fun z hz => by have := hA z hz; simpa using this)
      · refine List.filter_eq_self.2 (fun z hz => ?_)
        have : z.1 ≠ x := fun e2 => (List.nodup_cons.1 hnd.2.1).1 (by rw [← e2]; exact List.mem_map.2 ⟨z, hz, rfl⟩)
        simpa using this
    rw [e, List.map_append]
    rw [List.map_append, List.map_cons] at h
    exact KM.drop (key := .agg (trkC x)) h law82 (t := 78) Try.underlying78 0
/-- While a track goes: what is kept. -/
def dE (P : List Int) (C : List Lot) (E : List (En × Value)) : List (En × Value) := E.filter (fun y => dk P C y.1.lot)
def dZ (P : List Int) (C : List Lot) (Z : List (Lot × Int)) : List (Lot × Int) := Z.filter (fun z => dk P C z.1)
theorem dE_yes {P : List Int} {C : List Lot} {i : Nat} {hi : i < C.length} (h : C[i].1 = P) (E : List (En × Value)) : dE P (C.take (i + 1)) E = (dE P (C.take i) E).filter (fun y => !decide (y.1.lot = C[i])) := by
  unfold dE
  rw [List.filter_filter]
  congr 1
  funext y
  rw [dk_yes h]
theorem dZ_yes {P : List Int} {C : List Lot} {i : Nat} {hi : i < C.length} (h : C[i].1 = P) (Z : List (Lot × Int)) : dZ P (C.take (i + 1)) Z = (dZ P (C.take i) Z).filter (fun z => !decide (z.1 = C[i])) := by
  unfold dZ
  rw [List.filter_filter]
  congr 1
  funext y
  rw [dk_yes h]
theorem dE_no {P : List Int} {C : List Lot} {i : Nat} {hi : i < C.length} (h : C[i].1 ≠ P) (E : List (En × Value)) : dE P (C.take (i + 1)) E = dE P (C.take i) E := by unfold dE; rw [dk_no h]
theorem dZ_no {P : List Int} {C : List Lot} {i : Nat} {hi : i < C.length} (h : C[i].1 ≠ P) (Z : List (Lot × Int)) : dZ P (C.take (i + 1)) Z = dZ P (C.take i) Z := by unfold dZ; rw [dk_no h]
theorem dE_zero (P : List Int) (E : List (En × Value)) : dE P [] E = E := by unfold dE; rw [dk_nil]; simp
theorem dZ_zero (P : List Int) (Z : List (Lot × Int)) : dZ P [] Z = Z := by unfold dZ; rw [dk_nil]; simp
theorem dZ_at {P : List Int} {Z : List (Lot × Int)} (hnd : (Z.map (·.1)).Nodup) {i : Nat} (hi : i < (Z.map (·.1)).length) : ∃ (j : Nat) (z : Int), (dZ P ((Z.map (·.1)).take i) Z)[j]? = some ((Z.map (·.1))[i], z) := by
  have hi' : i < Z.length := by simpa using hi
  have hm : Z[i] ∈ dZ P ((Z.map (·.1)).take i) Z := by
    refine List.mem_filter.2 ⟨List.getElem_mem hi', ?_⟩
    unfold dk
    rw [decide_eq_true_iff]
    rintro ⟨_, h⟩
    obtain ⟨k, hk, e⟩ := List.mem_iff_getElem.1 h
    rw [List.length_take] at hk
    rw [List.getElem_take] at e
    have hkl : k < (Z.map (·.1)).length := by omega
    have := nodup_ix (x := (Z.map (·.1))[i]) hnd (by rw [List.getElem?_eq_getElem hkl, e]; simp) (List.getElem?_eq_getElem hi)
    omega
  obtain ⟨j, hj⟩ := List.getElem?_of_mem hm
  exact ⟨j, Z[i].2, by rw [hj]; simp⟩
set_option maxHeartbeats 4000000 in
set_option maxRecDepth 100000 in
theorem drop_bad (B sb lb zb tb : Nat) (v : Value) (room : Int) (l : List Int) (s : PS) (w : World) (hH : HS w B sb lb zb tb room s) (hv : Rd w .u8 v l) (hk : BytesOk l) (hll : l.length ≤ 1000000) (hne : nameE l ≠ 0) :
    Calls Try.prog 19 #[.pointer (some ⟨sb, 0, none⟩), v] w fun e w' => e = .returned (.tuple #[]) ∧ HS w' B sb lb zb tb room s ∧ Below w.heap.size w w' := by
  have hnm := name_any v l 0 0 w hv hk (by omega)
  have hks := keyR_size (g := 0) (n := 0) hk
  obtain ⟨KV, hKV⟩ : ∃ KV, KV = keyR l 0 0 := ⟨_, rfl⟩
  have hk1 := keyR_one l 0 0
  rw [← hKV] at hnm hks hk1
  have HKV := Lib.hid hKV
  clear hKV
  obtain ⟨vA, vc, rfl⟩ := hv.form
  obtain ⟨ec, hec⟩ : ∃ ec, ec = nameE l := ⟨_, rfl⟩
  rw [← hec] at hnm
  have HEC := Lib.hid hec
  clear hec
  go_enter Try.func19, Try.ntmps19
  go_upto_region 1 with (first | (go_at_call 29; (with_reducible refine hnm.mono ?_); rintro e w2 ⟨rfl, hb2⟩) | (refine wpList_store_new rfl 71 (.tmp 4) (.tmp 12) rfl 71 _ KV rfl rfl (by rw [info71, hks]) (by rw [hks]; rfl) hk1 ?_) | fail)
  clear hnm
  have hba : Below w2.heap.size w2 (w2.alloc (.cells KV 71)) := (Below.refl _ _).alloc (Nat.le_refl _) _
  have hz : (ec == 0) = false := by rw [HEC.out]; simpa using hne
  have hH2 := (hH.kept hb2).kept hba
  have hbb := hb2.trans (hba.mono hb2.size)
  clear hne
  go_wp2_with fail
  (first | go_end0 | ((try simp only [Exit.inBlock, Exit.then]); refine bodyPost_ret (results_none rfl _ _ _) rfl ?_))
  exact ⟨rfl, hH2, hbb⟩
set_option maxHeartbeats 4000000 in
set_option maxRecDepth 100000 in
theorem drop_ok (B sb lb zb tb : Nat) (v : Value) (room : Int) (l : List Int) (s : PS) (w : World) (hH : HS w B sb lb zb tb room s) (hv : Rd w .u8 v l) (hk : BytesOk l) (hll : l.length ≤ 1000000) (hok : s.Ok room) (hroom : room ≤ 1048576) (hne : nameE l = 0) :
    Calls Try.prog 19 #[.pointer (some ⟨sb, 0, none⟩), v] w fun e w' => e = .returned (.tuple #[]) ∧ HS w' B sb lb zb tb room (pdrop s (padT l)) ∧ KX lb zb tb w w' ∧ Below B w w' := by
  obtain ⟨lv, E, hE, hS⟩ := hH
  have hBw : B ≤ w.heap.size := Nat.le_trans hS.hs (Nat.le_of_lt hS.blk.lt)
  have hpt := padT32 hne hk
  have hpl := hpt.1
  have HFIN := Lib.hid (fun w' (h : KB (fun g => g = sb ∨ g = lb ∨ g = zb ∨ g = tb ∨ lv.ownBlock = some g) w w') => And.intro (KX.kb hS h) (kb_below hS h))
  have hfar := hS.far
  have HLI := Lib.hid (fun e he => lot_in hok (e := e) he)
  have HSUM := Lib.hid hok.sum
  have HPOS := Lib.hid hok.pos
  have hfit := hok.fit
  have hlen : (s.Z.length : Int) * 16 ≤ 1048576 := by have := zsum_len hok.pos; rw [← hok.sum] at this; omega
  obtain ⟨used, hu⟩ : ∃ used, used = s.used := ⟨_, rfl⟩
  obtain ⟨Z, hZ⟩ : ∃ Z, Z = s.Z := ⟨_, rfl⟩
  obtain ⟨T, hT⟩ : ∃ T, T = s.T := ⟨_, rfl⟩
  rw [← hu, ← hZ, ← hT] at hS
  rw [← hu] at hfit
  rw [← hZ] at hlen
  have HU := Lib.hid hu
  have HZ := Lib.hid hZ
  have HT := Lib.hid hT
  have HE := Lib.hid hE
  clear hu hZ hT hE hok
  have hnm := name_any v l 0 0 w hv hk (by omega)
  have hks := keyR_size (g := 0) (n := 0) hk
  obtain ⟨KV, hKV⟩ : ∃ KV, KV = keyR l 0 0 := ⟨_, rfl⟩
  have hk1 := keyR_one l 0 0
  rw [← hKV] at hnm hks hk1
  have HKV := Lib.hid hKV
  clear hKV
  obtain ⟨vA, vc, rfl⟩ := hv.form
  obtain ⟨ec, hec⟩ : ∃ ec, ec = nameE l := ⟨_, rfl⟩
  rw [← hec] at hnm
  have HEC := Lib.hid hec
  clear hec
  go_enter Try.func19, Try.ntmps19
  go_upto_region 1 with (first | (go_at_call 29; (with_reducible refine hnm.mono ?_); rintro e w2 ⟨rfl, hb2⟩) | (refine wpList_store_new rfl 71 (.tmp 4) (.tmp 12) rfl 71 _ KV rfl rfl (by rw [info71, hks]) (by rw [hks]; rfl) hk1 ?_) | fail)
  clear hnm
  have hba : Below w2.heap.size w2 (w2.alloc (.cells KV 71)) := (Below.refl _ _).alloc (Nat.le_refl _) _
  have he0 : ec = 0 := by rw [HEC.out]; exact hne
  subst he0
  have hKe : KV = (keyC (padT l) 0 0) := by rw [HKV.out, keyR, if_pos hne]
  subst hKe
  have HNE := Lib.hid hne
  clear hne HKV
  have hbb := hb2.trans (hba.mono hb2.size)
  go_upto_region 2 with fail
  refine wp_world (fun wz => SX wz B sb lb zb tb lv room used E Z T ∧ Blk wz w2.heap.size 71 (keyC (padT l) 0 0) ∧ w.heap.size ≤ w2.heap.size ∧ KB (fun g => g = sb ∨ g = lb ∨ g = zb ∨ g = tb ∨ lv.ownBlock = some g) w wz) ⟨(hS.kept hb2).kept hba, Blk.new w2 71 (keyC (padT l) 0 0), hb2.size, KB.of hbb⟩ ?_
  obtain ⟨kb, hkb⟩ : ∃ kb, kb = w2.heap.size := ⟨_, rfl⟩
  rw [← hkb]
  clear hS hv hb2 hba hbb hkb hks hk1
  rintro w3 ⟨hS, hV, hwk, hB⟩
  have c3 : World.cell? w3 ⟨sb, 3, none⟩ = some lv := hS.blk.cell 3
  have hcl := clone_lots B lv (Z.map (·.1)) w3 hS.lr (by rw [List.length_map]; omega)
  obtain ⟨C, hC⟩ : ∃ C, C = Z.map (·.1) := ⟨_, rfl⟩
  have hfar3 := hS.far
  rw [← hC] at hcl
  have HC := Lib.hid hC
  have hCl : C.length ≤ 70000 := by rw [hC, List.length_map]; omega
  clear hC
  go_upto_block 0 with (first | (go_at_call 36; (with_reducible refine hcl.mono ?_); clear hcl; rintro e w4 ⟨cv, rfl, hR4, hb4⟩; obtain ⟨cA, cc, rfl, _⟩ := sl_of_own hR4) | fail)
  have HND := Lib.hid hS.lots
  have hzok : ∀ x ∈ C, LotOk x := fun x hx => by rw [HC.out] at hx; obtain ⟨z, hz, rfl⟩ := List.mem_map.1 hx; exact hS.zok z hz
  obtain ⟨M, hM⟩ : ∃ M, M = C.length := ⟨_, rfl⟩
  have hcb : ∃ (cb : Nat) (CC : Array Value), (M = 0 ∨ Blk w4 cb 84 CC) ∧ (M ≠ 0 → cA = some ⟨cb, 0, none⟩ ∧ w3.heap.size ≤ cb ∧ ∀ i (hi : i < C.length) j v, (lotC C[i].1 C[i].2).toList[j]? = some v → CC[i * 33 + j]? = some v) := by
    rcases hR4.2 with ⟨e, h0⟩ | ⟨g', cap, cur, e, hg, hb, hn, hc, hs, htk⟩
    · exact ⟨0, #[], .inl (by rw [hM, h0]), fun h => absurd (by rw [hM, h0]) h⟩
    · refine ⟨g', cur, .inr hb, fun _ => ⟨?_, hg, fun i hi j v hv => ?_⟩⟩
      · simp only [Value.slice.injEq] at e; exact e.1
      · have h1 := flat_at hzok hi hv
        rw [← htk, List.getElem?_take] at h1
        split at h1
        · rw [← Array.getElem?_toList]; exact h1
        · cases h1
  obtain ⟨cb, CC, hCV, hCF⟩ := hcb
  have HCF := Lib.hid hCF
  have HZOK := Lib.hid hzok
  have hS4 := hS.kept hb4
  have hV4 := hV.same hb4
  have hB4 := hB.trans (KB.of hb4)
  rw [← hM]
  have HM := Lib.hid hM
  have hMb : M ≤ 70000 := by omega
  clear hM hCF hR4 hS hV hB c3 hb4 hzok
  refine wp_world (fun wz => SX wz B sb lb zb tb lv room used E Z T ∧ (M = 0 ∨ Blk wz cb 84 CC) ∧ Blk wz kb 71 (keyC (padT l) 0 0) ∧ KB (fun g => g = sb ∨ g = lb ∨ g = zb ∨ g = tb ∨ lv.ownBlock = some g) w wz) ⟨hS4, hCV, hV4, hB4⟩ ?_
  clear hS4 hCV hV4 hB4
  rintro w5 ⟨hS, hCV, hV, hB⟩
  go_wp2_with fail
  go_loopg [26] M (fun gk s26 wr => ∃ (i : Nat) (lv' : Value), gk = M - i ∧ i ≤ M ∧ s26 = .int .i64 i ∧ SX wr B sb lb zb tb lv' room (zsum (dZ (padT l) (C.take i) Z)) (dE (padT l) (C.take i) E) (dZ (padT l) (C.take i) Z) T ∧ lv'.ownBlock = lv.ownBlock ∧ (M = 0 ∨ Blk wr cb 84 CC) ∧ Blk wr kb 71 (keyC (padT l) 0 0) ∧ KB (fun g => g = sb ∨ g = lb ∨ g = zb ∨ g = tb ∨ lv.ownBlock = some g) w wr)
  case atStart => exact ⟨0, lv, rfl, Nat.zero_le _, rfl, by rw [List.take_zero, dZ_zero, dE_zero]; rw [show zsum Z = used by rw [HU.out, HSUM.out, ← HZ.out]]; exact hS, rfl, hCV, hV, hB⟩
  case round =>
    clear hS hCV hV hB
    obtain ⟨i, lv', hgk, hiM, rfl, hS, hlb, hCV, hV, hB⟩ := hrel
    by_cases hlt : i < M
    · obtain ⟨hcA, hcb3, hrow⟩ := HCF.out (by omega)
      subst hcA
      have hCb : Blk wr cb 84 CC := hCV.resolve_left (by omega)
      have hiC : i < C.length := by have := HM.out; omega
      obtain ⟨x, hx⟩ : ∃ x, x = C[i] := ⟨_, rfl⟩
      have hxo : LotOk x := HZOK.out x (by rw [hx]; exact List.getElem_mem hiC)
      have hrng : wr.rangeAt cb (i * 33) (lotC x.1 x.2).toList := fun j v hv => by rw [hCb.cell]; exact hrow i hiC j v (by rw [← hx]; exact hv)
      have hxl : (lotC x.1 x.2).toList.length = 33 := by rw [Array.length_toList, lot_size hxo.1]
      have hxs := lot_size (g := x.2) hxo.1
      have htA : (lotC x.1 x.2).toList.toArray = lotC x.1 x.2 := toA _
      have HX := Lib.hid hx
      have HRNG := Lib.hid hrng
      clear hrow hrng hx
      have hba : Below wr.heap.size wr (wr.alloc (.cells (lotC x.1 x.2) 84)) := (Below.refl _ _).alloc (Nat.le_refl _) _
      go_upto_region 5 with (first | (refine wpList_load_mid rfl 84 (.tmp 28) rfl cb (i * 33) rfl (lotC x.1 x.2).toList _ HRNG.out Try.underlying84 rfl (by rw [info84, hxl]) ?_; rw [htA]) | (refine wpList_store_new rfl 84 (.tmp 7) (.tmp 29) rfl 84 _ (lotC x.1 x.2) rfl rfl (by rw [info84, hxs]) (by rw [hxs]; rfl) (lot_one _ _) ?_) | fail)
      refine wp_world (fun wz => SX wz B sb lb zb tb lv' room (zsum (dZ (padT l) (C.take i) Z)) (dE (padT l) (C.take i) E) (dZ (padT l) (C.take i) Z) T ∧ Blk wz cb 84 CC ∧ Blk wz kb 71 (keyC (padT l) 0 0) ∧ Blk wz wr.heap.size 84 (lotC x.1 x.2) ∧ KB (fun g => g = sb ∨ g = lb ∨ g = zb ∨ g = tb ∨ lv.ownBlock = some g) w wz) ⟨hS.kept hba, hCb.same hba, hV.same hba, Blk.new wr 84 (lotC x.1 x.2), hB.trans (KB.of hba)⟩ ?_
      obtain ⟨xb, hxb⟩ : ∃ xb, xb = wr.heap.size := ⟨_, rfl⟩
      rw [← hxb]
      clear hS hCV hCb hV hB hba hxb HRNG
      rintro w6 ⟨hS, hCb, hV, hX, hB⟩
      have hxr := lot_range hX
      have hx32 := hxo.1.1
      have hks2 : (keyC (padT l) 0 0).size = 34 := key_size hpt
      have hhas := has_any x.1 (padT l) 0 0 w6 hxo.1 hpt
      by_cases hxt : x.1 = padT l
      · have d1 : decide (padT l = x.1) = true := decide_eq_true hxt.symm
        rw [d1] at hhas
        have HXT := Lib.hid hxt
        clear d1 hxt
        go_upto_region 6 with (first | (refine wpList_load_mid rfl 82 (.tmp 30) rfl xb 0 rfl (x.1.map (Value.int .u8)) _ hxr Try.underlying82 rfl (by rw [info82, List.length_map, hx32]) ?_; show wpList _ _ _ _ (Act.put _ _ (.agg (trkC x.1))) _) | (refine wpList_load_row rfl 71 (.tmp 4) rfl kb rfl 71 (keyC (padT l) 0 0) (0, 0) _ hV Try.underlying71 rfl (by rw [info71, hks2]) ?_) | (go_at_call 37; (with_reducible refine hhas.mono ?_); clear hhas; rintro e w7 ⟨rfl, hb7⟩; have hS7 := hS.kept hb7; have hC7 := hCb.same hb7; have hV7 := hV.same hb7; have hX7 := hX.same hb7; have hB7 := hB.trans (KB.of hb7)) | fail)
        have hnd : (Z.map (·.1)).Nodup := HND.out
        obtain ⟨j, z, hj⟩ := dZ_at (P := padT l) hnd (i := i) (by rw [← HC.out]; exact hiC)
        have hje : (Z.map (·.1))[i]'(by rw [← HC.out]; exact hiC) = x := by rw [HX.out]; simp only [HC.out]
        rw [hje, ← HC.out] at hj
        have hp0 : ∀ y ∈ Z, 16 ≤ y.2 := fun y hy => HPOS.out y (by rw [← HZ.out]; exact hy)
        have hzs : zsum Z = used := by rw [HU.out, HSUM.out, ← HZ.out]
        have hz1 : 0 ≤ z ∧ z ≤ zsum (dZ (padT l) (C.take i) Z) ∧ zsum (dZ (padT l) (C.take i) Z) ≤ 1048576 := by
          have hm := List.mem_of_getElem? hj
          have hm2 := (List.mem_filter.1 hm).1
          refine ⟨by have := hp0 _ hm2; simp only at this; omega, zsum_mem (fun y hy => by have := hp0 y (List.mem_filter.1 hy).1; omega) hj, ?_⟩
          have := zsum_filter hp0 (fun z => dk (padT l) (C.take i) z.1)
          unfold dZ
          omega
        have hlet := let_any B sb lb zb tb j lv' room _ z _ _ T x w7 hS7 hj (Nat.le_trans hBw hB7.sz) hz1
        have HJ := Lib.hid hj
        clear hnd hj hje hp0 hzs
        go_wp2_with (first | (refine wpList_load_row rfl 84 (.tmp 7) rfl xb rfl 84 (lotC x.1 x.2) (0, 0) _ hX7 Try.underlying84 rfl (by rw [info84, hxs]) ?_) | (go_at_call 32; (with_reducible refine hlet.mono ?_); clear hlet; rintro e w8 ⟨rfl, lv8, hS8, hlb8, hB8⟩) | fail)
        (try simp only [Exit.then, Exit.inBlock])
        go_roundg (M - (i + 1))
        case measure => omega
        case rel =>
          have hB8' : KB (fun g => g = sb ∨ g = lb ∨ g = zb ∨ lv.ownBlock = some g) w7 w8 := hB8.mono (fun g h => by rw [← hlb]; exact h)
          have hfz : (dZ (padT l) (C.take i) Z).eraseIdx j = dZ (padT l) (C.take (i + 1)) Z := by
            rw [erase_filter (Z := dZ (padT l) (C.take i) Z) (HND.out.sublist (List.filter_sublist.map _)) HJ.out, dZ_yes (hi := hiC) (by rw [← HX.out]; exact HXT.out), ← HX.out]
          have hfe := dE_yes (P := padT l) (C := C) (i := i) (hi := hiC) (by rw [← HX.out]; exact HXT.out) E
          rw [← HX.out] at hfe
          have hfu : zsum (dZ (padT l) (C.take i) Z) - z = zsum (dZ (padT l) (C.take (i + 1)) Z) := by rw [← hfz, zsum_erase HJ.out]
          exact ⟨i + 1, lv8, rfl, hlt, by go_num, by rw [hfe, ← hfu, ← hfz]; exact hS8, hlb8.trans hlb, .inr (hC7.kb hB8' (hfar3 _ hcb3)), hV7.kb hB8' (hfar _ hwk), hB7.trans (hB8'.mono put_ss)⟩
      · have d1 : decide (padT l = x.1) = false := decide_eq_false (fun e => hxt e.symm)
        rw [d1] at hhas
        have HXT := Lib.hid hxt
        clear d1 hxt
        go_wp2_with (first | (refine wpList_load_mid rfl 82 (.tmp 30) rfl xb 0 rfl (x.1.map (Value.int .u8)) _ hxr Try.underlying82 rfl (by rw [info82, List.length_map, hx32]) ?_; show wpList _ _ _ _ (Act.put _ _ (.agg (trkC x.1))) _) | (refine wpList_load_row rfl 71 (.tmp 4) rfl kb rfl 71 (keyC (padT l) 0 0) (0, 0) _ hV Try.underlying71 rfl (by rw [info71, hks2]) ?_) | (go_at_call 37; (with_reducible refine hhas.mono ?_); clear hhas; rintro e w7 ⟨rfl, hb7⟩; have hS7 := hS.kept hb7; have hC7 := hCb.same hb7; have hV7 := hV.same hb7; have hX7 := hX.same hb7; have hB7 := hB.trans (KB.of hb7)) | fail)
        go_roundg (M - (i + 1))
        case measure => omega
        case rel => exact ⟨i + 1, lv', rfl, hlt, by go_num, by rw [dE_no (hi := hiC) (by rw [← HX.out]; exact HXT.out), dZ_no (hi := hiC) (by rw [← HX.out]; exact HXT.out)]; exact hS7, hlb, .inr hC7, hV7, hB7⟩
    · have hi : C.take i = C := List.take_of_length_le (by have := HM.out; omega)
      rw [hi] at hS
      clear hi
      have hSd : SX wr.drew B sb lb zb tb lv' room (zsum (dZ (padT l) C Z)) (dE (padT l) C E) (dZ (padT l) C Z) T := { hS with blk := hS.blk }
      have hVd : Blk wr.drew kb 71 (keyC (padT l) 0 0) := hV
      obtain ⟨w8, hdrun, hk8, hg8, _⟩ := hSd.kt.tdel hpt
      have hS8 := (hSd.sy.setT hg8 hk8).sx rfl
      have hV8 := hVd.grown hg8 (by simpa using blk_km_ne hVd hSd.kt)
      have c5 : World.cell? wr.drew ⟨sb, 5, none⟩ = some (.map (some tb)) := hSd.blk.cell 5
      have r8 := key_range hVd
      have d5 : World.cell? w8 ⟨sb, 5, none⟩ = some (.map (some tb)) := hS8.blk.cell 5
      have s8 := key_range hV8
      have hB8 : KB (fun g => g = sb ∨ g = lb ∨ g = zb ∨ g = tb ∨ lv.ownBlock = some g) w w8 := (hB.drewN 1).grown hg8 (fun k hk => .inl (.inr (.inr (.inr (.inl (by simpa using hk.symm))))))
      clear hk8 hg8
      go_upto_region 8 with fail
      refine wp_region_held_drew (S := fun W => World.cell? W ⟨sb, 5, none⟩ = some (.map (some tb)) ∧ W.rangeAt kb 0 ((padT l).map (Value.int .u8))) (by kernel_rfl) (by first | with_reducible exact ⟨c5, r8⟩ | with_reducible exact ⟨d5, s8⟩) (fun _ => ?_)
      refine wpAnyH_take (i := 0) (oi := ({ dst := some 38, op := Op.move (Operand.tmp 0), type := 25, pos := _, after := #[], guard := none } : Oper)) (v := ?_) rfl (by kernel_rfl) (by kernel_rfl) (by kernel_rfl) (fun _ _ _ h => h) (Or.inl ⟨by rfl, ?_⟩) (by first | with_reducible exact ⟨c5, r8⟩ | with_reducible exact ⟨d5, s8⟩) ?_
      rotate_left
      · intro w hSw
        try dsimp only at hSw
        go_simp
        try with_reducible rfl
      try simp only [Act.put, List.setIfInBounds_toArray, List.set_cons_zero, List.set_cons_succ]
      refine wpAnyH_take (i := 1) (oi := ({ dst := some 39, op := Op.nilCheck (Operand.tmp 38), type := 0, pos := _, after := #[{ on := 0, ground := Ground.data }], guard := none } : Oper)) (v := ?_) rfl (by kernel_rfl) (by kernel_rfl) (by kernel_rfl) (fun _ _ _ h => h) (Or.inl ⟨by rfl, ?_⟩) (by first | with_reducible exact ⟨c5, r8⟩ | with_reducible exact ⟨d5, s8⟩) ?_
      rotate_left
      · intro w hSw
        try dsimp only at hSw
        go_simp
        try with_reducible rfl
      try simp only [Act.put, List.setIfInBounds_toArray, List.set_cons_zero, List.set_cons_succ]
      refine wpAnyH_take (i := 2) (oi := ({ dst := some 40, op := Op.fieldAddr 81 (Operand.tmp 39) 5, type := 0, pos := _, after := #[{ on := 1, ground := Ground.data }], guard := none } : Oper)) (v := ?_) rfl (by kernel_rfl) (by kernel_rfl) (by kernel_rfl) (fun _ _ _ h => h) (Or.inl ⟨by rfl, ?_⟩) (by first | with_reducible exact ⟨c5, r8⟩ | with_reducible exact ⟨d5, s8⟩) ?_
      rotate_left
      · intro w hSw
        try dsimp only at hSw
        go_simp
        try with_reducible rfl
      try simp only [Act.put, List.setIfInBounds_toArray, List.set_cons_zero, List.set_cons_succ]
      refine wpAnyH_take (i := 3) (oi := ({ dst := some 41, op := Op.load 78 (Operand.tmp 40), type := 78, pos := _, after := #[{ on := 2, ground := Ground.data }], guard := none } : Oper)) (v := ?_) rfl (by kernel_rfl) (by kernel_rfl) (by kernel_rfl) (fun _ _ _ h => h) (Or.inl ⟨by rfl, ?_⟩) (by first | with_reducible exact ⟨c5, r8⟩ | with_reducible exact ⟨d5, s8⟩) ?_
      rotate_left
      · intro w hSw
        try dsimp only at hSw
        go_simp
        try with_reducible rfl
      try simp only [Act.put, List.setIfInBounds_toArray, List.set_cons_zero, List.set_cons_succ]
      refine wpAnyH_take (i := 4) (oi := ({ dst := some 42, op := Op.fieldAddr 71 (Operand.tmp 4) 0, type := 0, pos := _, after := #[], guard := none } : Oper)) (v := ?_) rfl (by kernel_rfl) (by kernel_rfl) (by kernel_rfl) (fun _ _ _ h => h) (Or.inl ⟨by rfl, ?_⟩) (by first | with_reducible exact ⟨c5, r8⟩ | with_reducible exact ⟨d5, s8⟩) ?_
      rotate_left
      · intro w hSw
        try dsimp only at hSw
        go_simp
        try with_reducible rfl
      try simp only [Act.put, List.setIfInBounds_toArray, List.set_cons_zero, List.set_cons_succ]
      refine wpAnyH_take (i := 5) (oi := ({ dst := some 43, op := Op.load 69 (Operand.tmp 42), type := 69, pos := _, after := #[{ on := 4, ground := Ground.data }], guard := none } : Oper)) (v := (.agg ((padT l).map (Value.int .u8)).toArray)) rfl (by kernel_rfl) (by kernel_rfl) (by kernel_rfl) (fun _ _ _ h => h) (yieldsIf_load_mid (by rfl) 69 (.tmp 42) rfl kb 0 rfl ((padT l).map (Value.int .u8)) _ (fun _ h => h.2) Try.underlying69 rfl (by rw [info69, List.length_map, hpl])) (by first | with_reducible exact ⟨c5, r8⟩ | with_reducible exact ⟨d5, s8⟩) ?_
      try simp only [Act.put, List.setIfInBounds_toArray, List.set_cons_zero, List.set_cons_succ]
      refine wpAnyH_ready (rs := [6]) (by kernel_rfl) (by simp) ?_
      refine AllReadyH.cons (o := ({ dst := none, op := Op.call { callee := Callee.builtin Builtin.delete, args := #[Operand.tmp 41, Operand.tmp 43], argTypes := #[78, 82] }, type := 0, pos := _, after := #[{ on := 3, ground := Ground.data }, { on := 5, ground := Ground.data }], guard := none } : Oper)) rfl (fun K hK => ?_) AllReadyH.nil
      refine step_mdel rfl 78 82 (.tmp 41) (.tmp 43) rfl (.map (some tb)) (.agg (trkC (padT l))) rfl rfl _ _ hdrun ?_
      refine hK.out _ _ (by first | with_reducible exact ⟨c5, r8⟩ | with_reducible exact ⟨d5, s8⟩) (fun _ => ?_)
      clear hK K
      try simp only [Act.put, List.setIfInBounds_toArray, List.set_cons_zero, List.set_cons_succ]
      refine wpAnyH_done (by kernel_rfl) ?_ _
      go_wp2_with fail
      (first | go_end0 | ((try simp only [Exit.inBlock, Exit.then]); refine bodyPost_ret (results_none rfl _ _ _) rfl ?_))
      have e1 : dZ (padT l) C Z = Z.filter (fun z => !decide (z.1.1 = padT l)) := List.filter_congr (fun z hz => by
        have hm : z.1 ∈ C := by rw [HC.out]; exact List.mem_map.2 ⟨z, hz, rfl⟩
        simp [dk, hm])
      have e2 : dE (padT l) C E = E.filter (fun y => !decide (y.1.t = padT l)) := List.filter_congr (fun y hy => by
        have hm : y.1.lot ∈ C := by
          rw [HC.out, HZ.out]
          exact HLI.out y.1 (by rw [← HE.out]; exact List.mem_map.2 ⟨y, hy, rfl⟩)
        simp [dk, hm, En.lot])
      rw [e1, e2] at hS8
      refine ⟨rfl, ⟨lv', _, ?_, by unfold pdrop; rw [← HZ.out, ← HT.out]; exact hS8⟩, (HFIN.out _ hB8).1, (HFIN.out _ hB8).2⟩
      show _ = s.E.filter _
      rw [← HE.out]
      exact filter_fst E (fun e => !decide (e.t = padT l))

end Go.Proofs.Ytiaabbflchdcbaa
