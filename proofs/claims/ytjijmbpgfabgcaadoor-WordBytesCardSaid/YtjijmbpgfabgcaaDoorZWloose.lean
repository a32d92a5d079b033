/-
  WordLoose: the walk. No condition.
-/
import Derived.Test.YtjijmbpgfabgcaaDoorZWloosep
import Derived.Test.YtjijmbpgfabgcaaDoorZWfew
import Derived.Test.YtjijmbpgfabgcaaDoorZWawake
import Derived.Test.YtjijmbpgfabgcaaDoorZRsame
namespace Go.Proofs.YtjijmbpgfabgcaaDoor
open Go.RowKit
set_option linter.unusedVariables false
set_option linter.unusedSimpArgs false

theorem rdout_max {m0 : Int} {e : Ending} {w' : World} (h : RdOut (some (mMax m0), [], 0) e w') : ∃ nA nc rA rc vA vc bA bc, e = .returned (.tuple #[.agg #[.int .u64 21, .int .u64 0, .int .u64 0, .slice nA 0 nc, .int .u8 0, .int .u8 0, .int .u64 0, .int .u64 0, .int .u64 0, .int .u64 0, .bool false, .int .u64 0, .slice rA 0 rc, .int .u64 m0, .int .u64 0, .slice vA 0 vc], .slice bA 0 bc, .int .i64 0]) ∧ MV w' (mMax m0) (.slice nA 0 nc) (.slice rA 0 rc) (.slice vA 0 vc) := by
  obtain ⟨nv, rv, vv, bv, rfl, k1, k2, k3, k4⟩ := h
  obtain ⟨nA, nc, rfl⟩ := k1.form
  obtain ⟨rA, rc, rfl⟩ := k2.form
  obtain ⟨vA, vc, rfl⟩ := k3.form
  obtain ⟨bA, bc, rfl⟩ := k4.form
  exact ⟨nA, nc, rA, rc, vA, vc, bA, bc, rfl, ⟨k1, k2, k3⟩⟩
theorem rdout_no {c : Int} {e : Ending} {w' : World} (h : RdOut (none, [], c) e w') : ∃ nA nc rA rc vA vc bA bc, e = .returned (.tuple #[.agg #[.int .u64 0, .int .u64 0, .int .u64 0, .slice nA 0 nc, .int .u8 0, .int .u8 0, .int .u64 0, .int .u64 0, .int .u64 0, .int .u64 0, .bool false, .int .u64 0, .slice rA 0 rc, .int .u64 0, .int .u64 0, .slice vA 0 vc], .slice bA 0 bc, .int .i64 c]) := by
  obtain ⟨nv, rv, vv, bv, rfl, k1, k2, k3, k4⟩ := h
  obtain ⟨nA, nc, rfl⟩ := k1.form
  obtain ⟨rA, rc, rfl⟩ := k2.form
  obtain ⟨vA, vc, rfl⟩ := k3.form
  obtain ⟨bA, bc, rfl⟩ := k4.form
  exact ⟨nA, nc, rA, rc, vA, vc, bA, bc, rfl⟩
theorem cut20 (v : Value) (l : List Int) (w : World) (ha : Rd w .u8 v l) : Calls Tryd.prog 15 #[v, .int .i64 20] w fun e w' => ∃ v', e = .returned v' ∧ w'.ownsRow w.heap.size 5 1 v' (l.take 20).length ((l.take 20).map (Value.int .u8)) ∧ Below w.heap.size w w' := cut_lit v l 20 20 rfl w ha (by decide)
set_option maxHeartbeats 4000000 in
set_option maxRecDepth 100000 in
theorem loose_walk (x s : Int) (v : Value) (l : List Int) (w : World) (hG : Glob w) (h0 : 0 ≤ x ∧ x ≤ 18446744073709551615) (k0 : 0 ≤ s ∧ s ≤ 255) (hv : Rd w .u8 v l) (hk : BytesOk l) :
    Calls Tryd.prog 7 #[.int .u64 x, .int .u8 s, v] w fun e w' => e = .returned (.bool true) ∧ Below w.heap.size w w' := by
  obtain ⟨i0, hi0, hz0, hz1, hz2⟩ := info_parts infoB
  obtain ⟨m0, hm0⟩ : ∃ m, m = x % 4611686018427387904 := ⟨_, rfl⟩
  have ht0 : x.tmod 4611686018427387904 = m0 := by rw [Int.tmod_eq_emod_of_nonneg h0.1, hm0]
  have hb0 : 0 ≤ m0 ∧ m0 ≤ 4611686018427387903 := by omega
  have hv0 := vsz_some hb0.2
  have hg0 := kk_in m0 s hv0
  have hu0 : s.tmod 4 = s % 4 := Int.tmod_eq_emod_of_nonneg k0.1
  clear hm0
  obtain ⟨F, hF⟩ : ∃ F, F = vform m0 (kk m0 s) := ⟨_, rfl⟩
  have hFl : F.length ≤ 8 := by rw [hF, vform_len _ _ hg0.1]; have := hg0.1; omega
  obtain ⟨L, hL⟩ : ∃ L, L = l.take 20 := ⟨_, rfl⟩
  have hLl : L.length ≤ 20 := by rw [hL, List.length_take]; omega
  obtain ⟨Q, hQ⟩ : ∃ Q, Q = F ++ L := ⟨_, rfl⟩
  have hQe : F.length + L.length = Q.length := by rw [hQ, List.length_append]
  have hkQ : BytesOk Q := by rw [hQ, hF, hL]; exact (vform_ok _ _ hb0.1 hg0.1 hv0 hg0.2).append (hk.take 20)
  have hQl : Q.length ≤ 28 := by omega
  have hrQ : readR (21 :: 0 :: ((F.length : Int) + (L.length : Int)) :: Q) = if L = [] then (some (mMax m0), [], 0) else (none, [], 4) := by
    rw [show (F.length : Int) + (L.length : Int) = (Q.length : Int) by omega, hQ, hF]
    exact loose_read hb0 hg0.1 hg0.2 L hLl
  have hhi := fun h => kk_hi (n := m0) (s := s) h
  have hlo := fun h => kk_lo (n := m0) (s := s) h
  have hmax : (if (vsz m0 : Int) < wrap64 (2 ^ (s % 4).toNat) then wrap64 (2 ^ (s % 4).toNat) else (vsz m0 : Int)) = ((kk m0 s : Nat) : Int) := by
    generalize wrap64 (2 ^ (s % 4).toNat) = p at hhi hlo ⊢
    by_cases h : (vsz m0 : Int) < p
    · rw [if_pos h]; exact (hhi h).symm
    · rw [if_neg h]; exact (hlo (Int.not_lt.1 h)).symm
  have hmax2 : max (vsz m0 : Int) (wrap64 (2 ^ (s % 4).toNat)) = ((kk m0 s : Nat) : Int) := by
    generalize wrap64 (2 ^ (s % 4).toNat) = p at hhi hlo ⊢
    by_cases h : (vsz m0 : Int) < p
    · rw [hhi h]; exact Int.max_eq_right (Int.le_of_lt h)
    · rw [hlo (Int.not_lt.1 h)]; exact Int.max_eq_left (Int.not_lt.1 h)
  clear hhi hlo
  have haw := awake_any w hG
  obtain ⟨A, cp, rfl⟩ := hv.form
  have HF := Lib.hid hF
  have HL := Lib.hid hL
  have HQ := Lib.hid hQ
  have HQE := Lib.hid hQe
  have HRQ := Lib.hid hrQ
  have HG0 := Lib.hid hg0
  clear hF hL hQ hQe hrQ hg0
  go_enter Tryd.func7, Tryd.ntmps7
  go_wp2_with fail
  (with_reducible refine haw.mono ?_)
  rintro e w1 ⟨rfl, hb1⟩
  have hv1 := hv.below hb1
  have hs1 := hb1.size
  clear haw hv
  go_wp2_with fail
  clear ht0
  (with_reducible refine (rsize_any m0 _ hb0.1 (by omega)).mono ?_)
  rintro e wD ⟨rfl, rfl⟩
  go_wp2_with fail
  have hw := rwide_any m0 (kk m0 s) w1 hb0.1 HG0.out.1 hv0 HG0.out.2
  rw [← HF.out] at hw
  (with_reducible refine hw.mono ?_)
  clear hw hmax hmax2 hu0
  rintro e w2 ⟨v2, rfl, ho2, hb2⟩
  obtain ⟨A2, c2, rfl, _⟩ := sl_of_own ho2
  have hv2 := hv1.below hb2
  have hB2 := hb1.trans (hb2.mono hs1)
  have hct := cut20 (.slice A l.length cp) l w2 hv2
  rw [← HL.out] at hct
  replace ho2 := own_base ho2 hs1
  clear hb1 hb2 hv1 hs1
  go_wp2_with fail
  (with_reducible refine hct.mono ?_)
  clear hct
  rintro e w3 ⟨v3, rfl, ho3, hb3⟩
  replace ho2 := own_same ho2 hb3
  have hB3 := hB2.trans (hb3.mono hB2.size)
  have hs3 := hB3.size
  have hr3 := rd_of_own (k := .u8) ho3
  obtain ⟨A3, c3, rfl⟩ := hr3.form
  obtain ⟨-, hA3, -, -, hrv3⟩ := hr3.rdv
  have hbd1 : F.length + L.length ≤ maxLen := by unfold maxLen; omega
  have hbd2 : (F.length + L.length) * 1 ≤ 140737488355328 := by omega
  clear hv2 hB2 hb3 ho3 hr3
  go_upto_region 9 with (first | (at_builtin; refine wpList_append_any _ rfl _ _ 23 rfl w.heap.size 5 i0 _ 1 1 Tryd.underlying23 hi0 hz0 hz1 hz2 rfl (by decide) (.slice A2 F.length c2) F.length (F.map (Value.int .u8)) rfl ho2 A3 L.length c3 _ rfl hrv3 (oneInts _ _) hbd1 hbd2 hs3 hA3 ?_; intro v5 w5 hown5 hgrow5 hat5; obtain ⟨A5, c5, e5, -⟩ := sl_of_own hown5; subst e5) | fail)
  rw [← List.map_append, ← HQ.out] at hown5
  have hB5 := hB3.grown hgrow5 hs3 (fun b hb => (ho2.lt b hb).1)
  have hs5 := hB5.size
  have hr5 : Rd w5 .u8 (.slice A5 (F.length + L.length) c5) Q := rd_of_own (by simpa [HQE.out] using hown5)
  clear hB3 hs3 ho2 hown5 hgrow5 hat5 hrv3 hA3 hbd1 hbd2
  obtain ⟨Z, hZ⟩ : ∃ Z : Int, Z = (F.length : Int) + (L.length : Int) := ⟨_, rfl⟩
  have hZb : 0 ≤ Z ∧ Z ≤ 28 := by omega
  have hbX : Below w5.heap.size w5 (w5.alloc (.cells #[.int .u8 21, .int .u8 0, .int .u8 Z] 5)) := (Below.refl _ _).alloc (Nat.le_refl _) _
  have hoX : (w5.alloc (.cells #[.int .u8 21, .int .u8 0, .int .u8 Z] 5)).ownsRow w.heap.size 5 1 (.slice (some ⟨w5.heap.size, 0, none⟩) 3 3) 3 ([21, 0, Z].map (Value.int .u8)) := World.ownsRow_lit (size := 1) (e := 5) w5 #[.int .u8 21, .int .u8 0, .int .u8 Z] 3 hs5 (by decide) rfl
  have hBX := hB5.trans (hbX.mono hs5)
  have hrX := (hr5.below hbX).rdv
  have HX := Lib.hid hrX
  have hp1 : 3 + (F.length + L.length) ≤ maxLen := by unfold maxLen; omega
  have hp2 : (3 + (F.length + L.length)) * 1 ≤ 140737488355328 := by omega
  have HZ := Lib.hid hZ
  rw [hZ] at hoX hbX hBX
  clear hZ hr5 hrX hB5 hs5
  go_wp2_with (first | (at_builtin; refine wpList_append_any _ rfl _ _ 23 rfl w.heap.size 5 i0 _ 1 1 Tryd.underlying23 hi0 hz0 hz1 hz2 rfl (by decide) (.slice (some ⟨w5.heap.size, 0, none⟩) 3 3) 3 _ rfl hoX A5 (F.length + L.length) c5 _ rfl (HZ.out ▸ HX.out.2.2.2.2) (oneInts _ _) hp1 hp2 hBX.size HX.out.2.1 ?_; intro v6 w6 hown6 hgrow6 hat6; obtain ⟨A6, c6, e6, -⟩ := sl_of_own hown6; subst e6) | fail)
  have hB6 := hBX.grown hgrow6 hBX.size (fun b hb => (hoX.lt b hb).1)
  have hr6 : RdT w6 (.slice A6 (3 + (F.length + L.length)) c6) (21 :: 0 :: ((F.length : Int) + (L.length : Int)) :: Q) := rdt_of_own (by simpa using hown6)
  have hrd := read_all _ _ w6 (hG.same hB6) hr6 (fun x hx => by
    simp only [List.mem_cons] at hx
    rcases hx with rfl | rfl | rfl | hx
    · decide
    · decide
    · omega
    · exact hkQ x hx) (by simp only [List.length_cons]; omega)
  rw [HRQ.out] at hrd
  have hs6 := hB6.size
  clear hown6 hgrow6 hat6 hoX hbX hBX hp1 hp2 HX hr6
  by_cases hl0 : L = []
  · rw [if_pos hl0] at hrd
    have hll : L.length = 0 := by rw [hl0]; rfl
    have HQ0 := HQ
    clear hl0 HRQ HQ0
    (with_reducible refine hrd.mono ?_)
    clear hrd
    rintro e w7 ⟨hout, hb7⟩
    obtain ⟨nA, nc, rA, rc, vA, vc, bA, bc, rfl, hM7⟩ := rdout_max hout
    have hB7 := hB6.trans (hb7.mono hs6)
    have hba : Below w7.heap.size w7 (w7.alloc (.cells #[.int .u64 21, .int .u64 0, .int .u64 0, .slice nA 0 nc, .int .u8 0, .int .u8 0, .int .u64 0, .int .u64 0, .int .u64 0, .int .u64 0, .bool false, .int .u64 0, .slice rA 0 rc, .int .u64 m0, .int .u64 0, .slice vA 0 vc] 31)) := (Below.refl _ _).alloc (Nat.le_refl _) _
    have hBa := hB7.trans (hba.mono hB7.size)
    have hsm : Calls Tryd.prog 14 #[.agg #[.int .u64 21, .int .u64 0, .int .u64 0, .slice nA 0 nc, .int .u8 0, .int .u8 0, .int .u64 0, .int .u64 0, .int .u64 0, .int .u64 0, .bool false, .int .u64 0, .slice rA 0 rc, .int .u64 m0, .int .u64 0, .slice vA 0 vc], .agg #[.int .u64 21, .int .u64 0, .int .u64 0, .slice none 0 0, .int .u8 0, .int .u8 0, .int .u64 0, .int .u64 0, .int .u64 0, .int .u64 0, .bool false, .int .u64 0, .slice none 0 0, .int .u64 m0, .int .u64 0, .slice none 0 0]] (w7.alloc (.cells #[.int .u64 21, .int .u64 0, .int .u64 0, .slice nA 0 nc, .int .u8 0, .int .u8 0, .int .u64 0, .int .u64 0, .int .u64 0, .int .u64 0, .bool false, .int .u64 0, .slice rA 0 rc, .int .u64 m0, .int .u64 0, .slice vA 0 vc] 31)) fun e w' => e = .returned (.bool true) ∧ Below (w7.alloc (.cells #[.int .u64 21, .int .u64 0, .int .u64 0, .slice nA 0 nc, .int .u8 0, .int .u8 0, .int .u64 0, .int .u64 0, .int .u64 0, .int .u64 0, .bool false, .int .u64 0, .slice rA 0 rc, .int .u64 m0, .int .u64 0, .slice vA 0 vc] 31)).heap.size (w7.alloc (.cells #[.int .u64 21, .int .u64 0, .int .u64 0, .slice nA 0 nc, .int .u8 0, .int .u8 0, .int .u64 0, .int .u64 0, .int .u64 0, .int .u64 0, .bool false, .int .u64 0, .slice rA 0 rc, .int .u64 m0, .int .u64 0, .slice vA 0 vc] 31)) w' :=
      rsame_all (mMax m0) (mMax m0) (.slice nA 0 nc) (.slice rA 0 rc) (.slice vA 0 vc) (.slice none 0 0) (.slice none 0 0) (.slice none 0 0) _ (hM7.below hba) ⟨Rd.nil _ _, Rd.nil _ _, Rd.nil _ _⟩ (mMax_ok hb0) (mMax_ok hb0) true ⟨fun _ => rfl, fun _ => rfl⟩
    clear hout hb7 hB6 hs6 hba hB7 hM7
    go_wp2_with fail
    (with_reducible refine hsm.mono ?_)
    clear hsm
    rintro e w8 ⟨rfl, hb8⟩
    go_wp2_with fail
    go_ret
    exact ⟨rfl, hBa.trans (hb8.mono hBa.size)⟩
  · rw [if_neg hl0] at hrd
    have hll : 0 < L.length := List.length_pos_iff.2 hl0
    have hli : (0 : Int) < (L.length : Int) := by omega
    clear hl0 HRQ
    (with_reducible refine hrd.mono ?_)
    clear hrd
    rintro e w7 ⟨hout, hb7⟩
    obtain ⟨nA, nc, rA, rc, vA, vc, bA, bc, rfl⟩ := rdout_no hout
    have hB7 := hB6.trans (hb7.mono hs6)
    clear hout hb7 hB6 hs6
    go_wp2_with fail
    go_ret
    exact ⟨rfl, hB7.trans ((Below.refl _ _).alloc hB7.size _)⟩

end Go.Proofs.YtjijmbpgfabgcaaDoor
