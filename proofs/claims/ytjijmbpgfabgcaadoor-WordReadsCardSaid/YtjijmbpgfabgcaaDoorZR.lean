/-
  What the reference's Read gives. No condition.
  WordReads: the walk. No condition.
-/
import Derived.Test.YtjijmbpgfabgcaaDoorZRrloop
import Derived.Test.YtjijmbpgfabgcaaDoorZRsame
import Derived.Test.YtjijmbpgfabgcaaDoorZWawake
import Derived.Test.YtjijmbpgfabgcaaDoorZWrdall
namespace Go.Proofs.YtjijmbpgfabgcaaDoor
open Go.RowKit
set_option linter.unusedVariables false
set_option linter.unusedSimpArgs false

theorem rread_all (v : Value) (l : List Int) (w : World) (hr : RdT w v l) (hk : BytesOk l) (hl : l.length ≤ 65535) :
    Calls Tryd.prog 18 #[v] w fun e w' => RdOut (readR l) e w' ∧ Below w.heap.size w w' := by
  unfold readR
  rcases ht : vtake l with _ | ⟨k, r⟩
  · exact rread_none v l w hr hk ht
  · simp only []
    cases hp : (prt k).2 with
    | false => simpa using rread_kind v l r k w hr hk hl ht hp
    | true =>
      rw [if_neg (by simp)]
      have hkr := (vtake_rest hk ht).1
      rcases r with _ | ⟨a, r⟩
      · exact rread_two v l [] k w hr hk hl ht hp (by simp)
      · rcases r with _ | ⟨b, q⟩
        · exact rread_two v l [a] k w hr hk hl ht hp (by simp)
        · have ha := hkr a (by simp)
          have hb := hkr b (by simp)
          simp only []
          by_cases hs : (q.length : Int) < 256 * a + b
          · rw [if_pos hs]
            exact rread_short v l q k a b w hr hk hl ht ha hb hp hs
          · rw [if_neg hs]
            refine rread_loop v l q k a b w hr hk hl ht ha hb hp (by omega) _ (shK k) _ _ rfl rfl rfl ?_ ?_ ?_
            all_goals rw [(letters hp).1]
            · intro hn
              simp [wholeR, hn]
            · intro y r hy hor
              rcases r with _ | ⟨c, r⟩
              · have h2 : rt y = false := by simpa using hor
                simp [wholeR, hy, h2]
              · simp [wholeR, hy]
            · intro y hy hrt
              simp [wholeR, hy, hrt]

end Go.Proofs.YtjijmbpgfabgcaaDoor
namespace Go.Proofs.YtjijmbpgfabgcaaDoor
open Go.RowKit
set_option linter.unusedVariables false
set_option linter.unusedSimpArgs false

theorem own_cap {w : World} {base : Nat} {e : TypeId} {size g n cap : Nat} {xs : List Value} (h : w.ownsRow base e size (.slice (some ⟨g, 0, none⟩) n cap) n xs) : n ≤ cap ∧ cap ≤ 9223372036854775807 := by
  rcases h.2 with ⟨h, _⟩ | ⟨g', c', cur, h, _, _, h1, h2, _⟩
  · cases h
  · simp only [Value.slice.injEq] at h
    obtain ⟨_, _, rfl⟩ := h
    exact ⟨h1, by unfold maxLen at h2; omega⟩
theorem rdout_any {o : Option M × List Int × Int} {y : M} {L : List Int} {c : Int} (hy : y = o.1.getD (M.nil 0)) (hL : L = o.2.1) (hc : c = o.2.2) {e : Ending} {w' : World} (h : RdOut o e w') :
    ∃ nA1 nc1 rA1 rc1 vA1 vc1 bA1 bc1, e = .returned (.tuple #[.agg #[.int .u64 y.kd, .int .u64 y.id, .int .u64 y.al, .slice nA1 y.nm.length nc1, .int .u8 y.pr, .int .u8 y.od, .int .u64 y.sg, .int .u64 y.so, .int .u64 y.eg, .int .u64 y.eo, .bool y.sm, .int .u64 y.cd, .slice rA1 y.rs.length rc1, .int .u64 y.n, .int .u64 y.ve, .slice vA1 y.vs.length vc1], .slice bA1 L.length bc1, .int .i64 c]) ∧ MV w' y (.slice nA1 y.nm.length nc1) (.slice rA1 y.rs.length rc1) (.slice vA1 y.vs.length vc1) ∧ Rd w' .u8 (.slice bA1 L.length bc1) L := by
  obtain ⟨nv, rv, vv, bv, rfl, k1, k2, k3, k4⟩ := h
  rw [← hy] at k1 k2 k3 ⊢
  rw [← hL] at k4
  rw [← hc]
  obtain ⟨nA, nc, rfl⟩ := k1.form
  obtain ⟨rA, rc, rfl⟩ := k2.form
  obtain ⟨vA, vc, rfl⟩ := k3.form
  obtain ⟨bA, bc, rfl⟩ := k4.form
  exact ⟨nA, nc, rA, rc, vA, vc, bA, bc, rfl, ⟨k1, k2, k3⟩, k4⟩
theorem readR_ok {l : List Int} (hk : BytesOk l) (hl : l.length ≤ 65535) : ((readR l).1.getD (M.nil 0)).Ok := by
  have hn : (M.nil 0).Ok := nil_ok ⟨by decide, by decide⟩
  unfold readR
  rcases ht : vtake l with _ | ⟨k, r⟩
  · exact hn
  · simp only []
    have hr := vtake_rest hk ht
    by_cases hp : (prt k).2 = false
    · rw [if_pos hp]; exact hn
    · rw [if_neg hp]
      have hp' : (prt k).2 = true := by simpa using hp
      rcases r with _ | ⟨a, r⟩
      · exact hn
      · rcases r with _ | ⟨b, q⟩
        · exact hn
        · simp only []
          have hq := hr.2.1
          simp only [List.length_cons] at hq
          by_cases hs : (q.length : Int) < 256 * a + b
          · rw [if_pos hs]; exact hn
          · rw [if_neg hs]
            unfold wholeR
            rcases hw : parse (shP (prt k).1) (M.nil k) (q.take (256 * a + b).toNat) with _ | ⟨y, s⟩
            · exact hn
            · have hk2 : BytesOk (q.take (256 * a + b).toNat) := ((hr.1.drop 2).take _)
              have hri := parse_ri _ 0 _ _ _ _ (shP_ok _ (prt_mem _ hp')).1 (parse_ok0 (kd := k) (by omega) hk2 (by rw [List.length_take]; omega)) hw
              rcases s with _ | ⟨c, s⟩
              · simp only []
                by_cases hrt : rt y = true
                · rw [if_pos hrt]; exact hri.ok
                · rw [if_neg hrt]; exact hn
              · exact hn
set_option maxHeartbeats 4000000 in
set_option maxRecDepth 100000 in
theorem reads_walk (V : Value) (l : List Int) (w : World) (hG : Glob w) (hv : Rd w .u8 V l) (hk : BytesOk l) :
    Calls Tryd.prog 4 #[V] w fun e w' => e = .returned (.bool true) ∧ Below w.heap.size w w' := by
  obtain ⟨i0, hi0, hz0, hz1, hz2⟩ := info_parts infoB
  obtain ⟨A, c0, rfl⟩ := hv.form
  have haw := awake_any w hG
  go_enter Tryd.func4, Tryd.ntmps4
  go_wp2_with fail
  (with_reducible refine haw.mono ?_)
  clear haw
  rintro e w1 ⟨rfl, hb1⟩
  have hG1 := hG.same hb1
  have hcu := cut_any _ l 300 w1 (hv.below hb1) (by omega)
  obtain ⟨Q, hQ⟩ : ∃ Q, Q = l.take 300 := ⟨_, rfl⟩
  rw [← hQ] at hcu
  have hQl : Q.length ≤ 300 := by rw [hQ, List.length_take]; omega
  have hQk : BytesOk Q := by rw [hQ]; exact hk.take _
  clear hQ hk hv hG
  go_wp2_with fail
  (with_reducible refine (show Calls Tryd.prog 15 #[_, .int .i64 300] _ _ from hcu).mono ?_)
  clear hcu
  rintro e w2 ⟨P2, rfl, ho2, hb2⟩
  have hP2 := rdt_of_own ho2
  obtain ⟨A2, c2, rfl⟩ := hP2.form
  have hG2 := hG1.same hb2
  have hB2 := hb1.trans (hb2.mono hb1.size)
  have hcp := copy_any _ Q w2 hP2.1 (by omega)
  clear ho2 hb1 hb2 hG1
  go_wp2_with fail
  (with_reducible refine hcp.mono ?_)
  clear hcp
  rintro e w3 ⟨v3, rfl, ho3, hb3⟩
  have hwall := hb3.alloc hb3.size (.cells #[.int .u8 165] 5)
  go_wp2_with (at_builtin; refine wpList_append_lies _ rfl _ _ 23 rfl w2.heap.size 5 i0 _ 1 1 Tryd.underlying23 hi0 hz0 hz1 hz2 rfl (by decide) v3 Q.length (Q.map (Value.int .u8)) rfl (ho3.alloc _) ⟨w3.heap.size, 0, none⟩ 1 1 [.int .u8 165] rfl rfl (World.news_of_block (cs := #[.int .u8 165]) (t := 5) (fr := (0, 0)) (heap_alloc_new w3 _)) (by simp [Value.oneCell']) (by decide) (by unfold maxLen; omega) (by omega) (by simp; have := hb3.size; omega) (w3.heap.size + 1) (by simp) ?_; intro g cq w4 ho4 hgrow hat hlt; have hcq := own_cap ho4; have z1 : (Q.length : Int) ≤ (cq : Int) := (by omega); have z2 : ((Q.length : Int) + 1) ≤ (cq : Int) := (by omega); have z3 : (Q.length : Int) < (Q.length : Int) + 1 := (by omega))
  have hb4 := hwall.grown hgrow (by simp; have := hb3.size; omega) (fun b hb => (ho3.lt b hb).1)
  have rq0 : RdT w4 (.slice (some ⟨g, 0, none⟩) (Q.length + 1) cq) (Q ++ [165]) := rdt_of_own (by rw [List.map_append]; exact ho4)
  have rq : RdT w4 (.slice (some ⟨g, 0, none⟩) Q.length cq) Q := (by have h := rq0.pre (m := Q.length) (by simp); rwa [List.take_left' rfl] at h)
  have c165 := ho4.cellAt Q.length (by omega)
  rw [List.getElem?_append_right (by simp)] at c165
  simp only [List.length_map, Nat.sub_self, List.getElem?_cons_zero] at c165
  have hG4 := hG2.same hb4
  have hP4 := hP2.below hb4
  have hB4 := hB2.trans (hb4.mono hB2.size)
  have hrd := read_all _ Q w4 hG4 rq hQk (by omega)
  clear rq0 hwall hgrow ho3 ho4 hat hlt hb3 hb4 hcq hG2 hP2 hB2
  obtain ⟨o, ho⟩ : ∃ o, o = readR Q := ⟨_, rfl⟩
  have hyk := readR_ok hQk (by omega)
  rw [← ho] at hrd hyk
  obtain ⟨y, hy⟩ : ∃ y, y = o.1.getD (M.nil 0) := ⟨_, rfl⟩
  obtain ⟨T, hT⟩ : ∃ T, T = o.2.1 := ⟨_, rfl⟩
  obtain ⟨cd, hcd⟩ : ∃ cd, cd = o.2.2 := ⟨_, rfl⟩
  rw [← hy] at hyk
  have HY := Lib.hid hy
  have HT := Lib.hid hT
  have HC := Lib.hid hcd
  have HO := Lib.hid ho
  clear hy hT hcd ho
  (with_reducible refine hrd.mono ?_)
  clear hrd
  rintro e w5 ⟨hout, hb5⟩
  obtain ⟨nA1, nc1, rA1, rc1, vA1, vc1, bA1, bc1, rfl, hM5, hr5⟩ := rdout_any HY.out HT.out HC.out hout
  clear hout
  have hba : Below w5.heap.size w5 (w5.alloc (.cells #[.int .u64 y.kd, .int .u64 y.id, .int .u64 y.al, .slice nA1 y.nm.length nc1, .int .u8 y.pr, .int .u8 y.od, .int .u64 y.sg, .int .u64 y.so, .int .u64 y.eg, .int .u64 y.eo, .bool y.sm, .int .u64 y.cd, .slice rA1 y.rs.length rc1, .int .u64 y.n, .int .u64 y.ve, .slice vA1 y.vs.length vc1] 31)) := (Below.refl _ _).alloc (Nat.le_refl _) _
  have hX6 := Blk.new w5 31 #[.int .u64 y.kd, .int .u64 y.id, .int .u64 y.al, .slice nA1 y.nm.length nc1, .int .u8 y.pr, .int .u8 y.od, .int .u64 y.sg, .int .u64 y.so, .int .u64 y.eg, .int .u64 y.eo, .bool y.sm, .int .u64 y.cd, .slice rA1 y.rs.length rc1, .int .u64 y.n, .int .u64 y.ve, .slice vA1 y.vs.length vc1]
  have hM6 := (hM5.below hba)
  have hr6 := hr5.below hba
  have hP6 := (hP4.below hb5).below hba
  have rq6 := (rq.below hb5).below hba
  have hc6 := keepB_cell (keepB_cell c165 w5 hb5) _ hba
  have hB6 := (hB4.trans (hb5.mono hB4.size)).trans (hba.mono (Nat.le_trans hB4.size hb5.size))
  have hrd := rread_all _ Q (w5.alloc (.cells #[.int .u64 y.kd, .int .u64 y.id, .int .u64 y.al, .slice nA1 y.nm.length nc1, .int .u8 y.pr, .int .u8 y.od, .int .u64 y.sg, .int .u64 y.so, .int .u64 y.eg, .int .u64 y.eo, .bool y.sm, .int .u64 y.cd, .slice rA1 y.rs.length rc1, .int .u64 y.n, .int .u64 y.ve, .slice vA1 y.vs.length vc1] 31)) hP6 hQk (by omega)
  rw [← HO.out] at hrd
  clear hM5 hr5 hP4 rq c165 hB4 hb5 HO hG4
  go_wp2_with fail
  (with_reducible refine hrd.mono ?_)
  clear hrd
  rintro e w7 ⟨hout, hb7⟩
  obtain ⟨nA2, nc2, rA2, rc2, vA2, vc2, bA2, bc2, rfl, hM7, hr7⟩ := rdout_any HY.out HT.out HC.out hout
  clear hout HY HT HC hba
  have hbb : Below w7.heap.size w7 (w7.alloc (.cells #[.int .u64 y.kd, .int .u64 y.id, .int .u64 y.al, .slice nA2 y.nm.length nc2, .int .u8 y.pr, .int .u8 y.od, .int .u64 y.sg, .int .u64 y.so, .int .u64 y.eg, .int .u64 y.eo, .bool y.sm, .int .u64 y.cd, .slice rA2 y.rs.length rc2, .int .u64 y.n, .int .u64 y.ve, .slice vA2 y.vs.length vc2] 28)) := (Below.refl _ _).alloc (Nat.le_refl _) _
  have hZ8 := Blk.new w7 28 #[.int .u64 y.kd, .int .u64 y.id, .int .u64 y.al, .slice nA2 y.nm.length nc2, .int .u8 y.pr, .int .u8 y.od, .int .u64 y.sg, .int .u64 y.so, .int .u64 y.eg, .int .u64 y.eo, .bool y.sm, .int .u64 y.cd, .slice rA2 y.rs.length rc2, .int .u64 y.n, .int .u64 y.ve, .slice vA2 y.vs.length vc2]
  have hX8 := (hX6.same hb7).same hbb
  have hM8 := hM7.below hbb
  have hr8 := hr7.below hbb
  have hN8 := (hM6.below hb7).below hbb
  have hs8 := (hr6.below hb7).below hbb
  have hP8 := (hP6.below hb7).below hbb
  have rq8 := (rq6.below hb7).below hbb
  have hc8 := keepB_cell (keepB_cell hc6 w7 hb7) _ hbb
  have hB8 := (hB6.trans (hb7.mono hB6.size)).trans (hbb.mono (Nat.le_trans hB6.size hb7.size))
  have hsm := rsame_all y y (.slice nA1 y.nm.length nc1) (.slice rA1 y.rs.length rc1) (.slice vA1 y.vs.length vc1) (.slice nA2 y.nm.length nc2) (.slice rA2 y.rs.length rc2) (.slice vA2 y.vs.length vc2) _ hN8 hM8 hyk hyk true ⟨fun _ => rfl, fun _ => rfl⟩
  clear hM7 hr7 hX6 hM6 hr6 hP6 rq6 hc6 hB6 hb7 hbb
  have a0 : World.cell? _ ⟨w5.heap.size, 0, none⟩ = some (.int .u64 y.kd) := hX8.cell 0
  have a1 : World.cell? _ ⟨w5.heap.size, 1, none⟩ = some (.int .u64 y.id) := hX8.cell 1
  have a2 : World.cell? _ ⟨w5.heap.size, 2, none⟩ = some (.int .u64 y.al) := hX8.cell 2
  have a3 : World.cell? _ ⟨w5.heap.size, 3, none⟩ = some (.slice nA1 y.nm.length nc1) := hX8.cell 3
  have a4 : World.cell? _ ⟨w5.heap.size, 4, none⟩ = some (.int .u8 y.pr) := hX8.cell 4
  have a5 : World.cell? _ ⟨w5.heap.size, 5, none⟩ = some (.int .u8 y.od) := hX8.cell 5
  have a6 : World.cell? _ ⟨w5.heap.size, 6, none⟩ = some (.int .u64 y.sg) := hX8.cell 6
  have a7 : World.cell? _ ⟨w5.heap.size, 7, none⟩ = some (.int .u64 y.so) := hX8.cell 7
  have a8 : World.cell? _ ⟨w5.heap.size, 8, none⟩ = some (.int .u64 y.eg) := hX8.cell 8
  have a9 : World.cell? _ ⟨w5.heap.size, 9, none⟩ = some (.int .u64 y.eo) := hX8.cell 9
  have a10 : World.cell? _ ⟨w5.heap.size, 10, none⟩ = some (.bool y.sm) := hX8.cell 10
  have a11 : World.cell? _ ⟨w5.heap.size, 11, none⟩ = some (.int .u64 y.cd) := hX8.cell 11
  have a12 : World.cell? _ ⟨w5.heap.size, 12, none⟩ = some (.slice rA1 y.rs.length rc1) := hX8.cell 12
  have a13 : World.cell? _ ⟨w5.heap.size, 13, none⟩ = some (.int .u64 y.n) := hX8.cell 13
  have a14 : World.cell? _ ⟨w5.heap.size, 14, none⟩ = some (.int .u64 y.ve) := hX8.cell 14
  have a15 : World.cell? _ ⟨w5.heap.size, 15, none⟩ = some (.slice vA1 y.vs.length vc1) := hX8.cell 15
  have z0 : World.cell? _ ⟨w7.heap.size, 0, none⟩ = some (.int .u64 y.kd) := hZ8.cell 0
  have z1 : World.cell? _ ⟨w7.heap.size, 1, none⟩ = some (.int .u64 y.id) := hZ8.cell 1
  have z2 : World.cell? _ ⟨w7.heap.size, 2, none⟩ = some (.int .u64 y.al) := hZ8.cell 2
  have z3 : World.cell? _ ⟨w7.heap.size, 3, none⟩ = some (.slice nA2 y.nm.length nc2) := hZ8.cell 3
  have z4 : World.cell? _ ⟨w7.heap.size, 4, none⟩ = some (.int .u8 y.pr) := hZ8.cell 4
  have z5 : World.cell? _ ⟨w7.heap.size, 5, none⟩ = some (.int .u8 y.od) := hZ8.cell 5
  have z6 : World.cell? _ ⟨w7.heap.size, 6, none⟩ = some (.int .u64 y.sg) := hZ8.cell 6
  have z7 : World.cell? _ ⟨w7.heap.size, 7, none⟩ = some (.int .u64 y.so) := hZ8.cell 7
  have z8 : World.cell? _ ⟨w7.heap.size, 8, none⟩ = some (.int .u64 y.eg) := hZ8.cell 8
  have z9 : World.cell? _ ⟨w7.heap.size, 9, none⟩ = some (.int .u64 y.eo) := hZ8.cell 9
  have z10 : World.cell? _ ⟨w7.heap.size, 10, none⟩ = some (.bool y.sm) := hZ8.cell 10
  have z11 : World.cell? _ ⟨w7.heap.size, 11, none⟩ = some (.int .u64 y.cd) := hZ8.cell 11
  have z12 : World.cell? _ ⟨w7.heap.size, 12, none⟩ = some (.slice rA2 y.rs.length rc2) := hZ8.cell 12
  have z13 : World.cell? _ ⟨w7.heap.size, 13, none⟩ = some (.int .u64 y.n) := hZ8.cell 13
  have z14 : World.cell? _ ⟨w7.heap.size, 14, none⟩ = some (.int .u64 y.ve) := hZ8.cell 14
  have z15 : World.cell? _ ⟨w7.heap.size, 15, none⟩ = some (.slice vA2 y.vs.length vc2) := hZ8.cell 15
  have hcc : (cd == cd) = true := by simp
  go_wp2_with fail
  (with_reducible refine hsm.mono ?_)
  clear hsm a0 z0 a1 z1 a2 z2 a3 z3 a4 z4 a5 z5 a6 z6 a7 z7 a8 z8 a9 z9 a10 z10 a11 z11 a12 z12 a13 z13 a14 z14 a15 z15
  rintro e w9 ⟨rfl, hb9⟩
  have hr9 := hr8.below hb9
  have hs9 := hs8.below hb9
  have hP9 := (hP8.below hb9).1
  have rq9 := (rq8.below hb9).1
  have c165 := keepB_cell hc8 w9 hb9
  have hB9 := hB8.trans (hb9.mono hB8.size)
  clear hr8 hs8 hP8 rq8 hc8 hB8 hb9 hX8 hZ8 hM8 hN8
  go_wp2_with fail
  (with_reducible refine (same_yes _ _ T _ hs9 hr9).mono ?_)
  rintro e w10 ⟨rfl, rfl⟩
  go_wp2_with fail
  (with_reducible refine (same_yes _ _ Q _ rq9 hP9).mono ?_)
  rintro e w11 ⟨rfl, rfl⟩
  go_wp2_with fail
  go_ret
  exact ⟨rfl, hB9⟩

end Go.Proofs.YtjijmbpgfabgcaaDoor
