/-
  The reference's ledger: some came.
-/
import Derived.Test.YtohjifbkjfnkfaaLrefd
namespace Go.Proofs.Ytohjifbkjfnkfaa
open Go.RowKit
set_option linter.unusedVariables false
set_option linter.unusedSimpArgs false


theorem prs_own {w : World} {base n cap : Nat} {A : Option Addr} {L : List (Int × Int)} (h : w.ownsRow base 31 2 (.slice A n cap) n (prcells L)) : Pairs w A n L := by
  obtain ⟨A', cap', e, h0, _, _, h3⟩ := prs_of_own h
  simp only [Value.slice.injEq] at e
  obtain ⟨rfl, e2, rfl⟩ := e
  rw [e2]
  exact h3
theorem LI.setAk {B : Nat} {w : World} {g : Nat} {A : Option Addr} {n cap : Nat} {nx ak : Int} {sm : Bool} {wr : World} {ov : Value} {X Y : List Rp} (hBg : B ≤ g) (h : LI B w g A n cap nx ak sm wr ov X Y) (c : Int) : LI B w g A n cap nx c true ((wr.setCell ⟨g, 3, none⟩ (.bool true)).setCell ⟨g, 2, none⟩ (.int .u64 c)) ov X Y := by
  have hne := own_blk_ne h.row h.blk (by decide)
  have hno := own_blk_ne h.out h.blk (by decide)
  have hb1 := h.blk.set_ 3 (.bool true)
  refine ⟨h.len, by simpa using (hb1.set_ 2 (.int .u64 c)), own_far (own_far h.row hne _) hne _, own_far (own_far h.out hno _) hno _, (h.below.setCell hBg _).setCell hBg _, (h.keep.trans (KeepR.set h.blk 3 _)).trans (KeepR.set hb1 2 _), h.old, h.base⟩
theorem LI.drew {B : Nat} {w : World} {g : Nat} {A : Option Addr} {n cap : Nat} {nx ak : Int} {sm : Bool} {wr : World} {ov : Value} {X Y : List Rp} (h : LI B w g A n cap nx ak sm wr ov X Y) (k : Nat) : LI B w g A n cap nx ak sm (wr.drewN k) ov X Y :=
  h.same (below_drewN (Below.refl _ _) k)
theorem inR_take (R : List (Int × Int)) (m : Nat) (hm : m < R.length) (p : Pk) : inR (R.take (m + 1)) p = (inR (R.take m) p || (decide ((R.getD m (0, 0)).1 ≤ p.num) && decide (p.num ≤ (R.getD m (0, 0)).2))) := by
  have e : R.getD m (0, 0) = R[m] := by simp [List.getD, hm]
  unfold inR
  rw [e, List.take_succ_eq_append_getElem hm, List.any_append]
  simp only [List.any_cons, List.any_nil, Bool.or_false]
theorem mk_in (f f' : Pk → Bool) (L : List Rp) (k : Nat) (hk : k < L.length) : ((mk f L k).set k (mark f' (L.getD k rp0))).getD k rp0 = mark f' (L.getD k rp0) := by
  have : k < (mk f L k).length := by rw [mk_len]; exact hk
  simp [List.getD, this]
theorem mk_zero_in (f f' : Pk → Bool) (L : List Rp) (k : Nat) (hk : k < L.length) (h : mark f' (L.getD k rp0) = L.getD k rp0) : (mk f L k).set k (mark f' (L.getD k rp0)) = mk f L k := by
  have e2 : k < (mk f L k).length := by rw [mk_len]; exact hk
  have e1 : (mk f L k)[k] = L.getD k rp0 := by have := mk_at f L k hk; simpa [List.getD, e2] using this
  rw [h, ← e1, List.set_getElem_self]
set_option maxHeartbeats 8000000 in
set_option maxRecDepth 100000 in
theorem ackR_any (B g : Nat) (L : List Rp) (nx ak : Int) (sm : Bool) (A : Option Addr) (n cap : Nat) (R : List (Int × Int)) (w : World) (hl : RLed B w g L nx ak sm) (hBw : B ≤ w.heap.size) (hL : L.length ≤ 100000)
    (hr : w.ownsRow B 31 2 (.slice A n cap) n (prcells R)) (hcap : cap ≤ maxLen) (hn : n ≤ 1000) (hak : 0 ≤ ak) (hsm : sm = false → ak = 0) (hRo : PairsOk R) :
    Calls Try.prog 17 #[.pointer (some ⟨g, 0, none⟩), .slice A n cap] w fun e w' => (ackE nx R ≠ 0 ∧ e = .returned (.tuple #[.slice none 0 0, .int .i64 (ackE nx R)]) ∧ Below w.heap.size w w') ∨
      (ackE nx R = 0 ∧ ∃ v, e = .returned (.tuple #[v, .int .i64 0]) ∧ w'.ownsRow w.heap.size 50 5 v (outR (inR R) L).length (rcells (outR (inR R) L)) ∧
        RLed B w' g (L.map (mark (inR R))) nx (ackI ak R) (sm || decide (0 < n)) ∧ Below B w w' ∧ KeepR w w') := by
  obtain ⟨i0, hi, hz0, hz1, hz2⟩ := info_parts infoQ
  obtain ⟨hBg, V, hb, hown⟩ := hl
  obtain ⟨A1, cap1, rfl, _, hnc1, hcm1, _⟩ := rps_of_own hown
  have hcm' : cap1 ≤ 9223372036854775807 := by unfold maxLen at hcm1; omega
  have hcap' : cap ≤ 9223372036854775807 := by unfold maxLen at hcap; omega
  have hncp : n ≤ cap := by
    obtain ⟨_, _, e, h1, _, _⟩ := sl_of_own hr
    simp only [Value.slice.injEq] at e
    omega
  clear hcm1 hcap
  have hlen : R.length = n := by have := hr.1; rw [prcells_len] at this; omega
  have hI0 : LI B w g A1 L.length cap1 nx ak sm w (.slice none 0 0) L [] := ⟨rfl, hb, hown, World.ownsRow_nil _ _ _ _, Below.refl _ _, KeepR.refl _, fun b e => (hown.lt b e).2, hBw⟩
  have HI := Lib.hid hI0
  have HP := Lib.hid (prs_own hr)
  have HR := Lib.hid hr
  have HRO := Lib.hid hRo
  have HSM := Lib.hid hsm
  have HAK := Lib.hid hak
  have HL := Lib.hid hlen
  have hol := fun k => outR_len (inR R) L k
  have HOL := Lib.hid hol
  have hgl := hb.lt
  have hgb := hb
  have HGB := Lib.hid hgb
  clear hb hown hr hRo hI0 hol hgb hsm hak hlen
  go_enter Try.func17, Try.ntmps17
  go_wp2_with fail
  go_loopw [21] (fun i wr => ∃ (k : Nat), k ≤ n ∧ i = .int .i64 k ∧ (∀ j, j < k → (fun x : Int × Int => decide (x.2 < x.1)) (R.getD j (0, 0)) = false) ∧ Below w.heap.size w wr) (fun i _ => n - (intOf i).toNat)
  case atStart => exact ⟨0, Nat.zero_le _, rfl, fun j hj => absurd hj (by omega), Below.refl _ _⟩
  case round =>
    obtain ⟨k, hkn, rfl, hall, hB⟩ := hrel
    have hHA := Lib.hid hall
    clear hall
    by_cases hlt : k < n
    · obtain ⟨b, off, rfl, hb, d0, d1⟩ := (HP.out.below hB).2 k hlt
      obtain ⟨x, hx⟩ : ∃ x, x = R.getD k (0, 0) := ⟨_, rfl⟩
      rw [← hx] at d0 d1
      have HX := Lib.hid hx
      clear hx
      obtain ⟨a, b'⟩ := x
      simp only at d0 d1
      obtain ⟨r, hr⟩ : ∃ r, r = decide (b' < a) := ⟨_, rfl⟩
      have HR1 := hr.symm
      clear hr
      cases r
      · go_wp2_with fail
        go_roundw
        case rel => exact ⟨k + 1, by omega, by go_num, fun j hj => (by
          by_cases hjk : j < k
          · exact hHA.out j hjk
          · obtain rfl : j = k := by omega
            rw [← HX.out]; exact HR1), hB.alloc hB.size (.cells #[.int .u64 a, .int .u64 b'] 31)⟩
        case measure => simp [intOf]; omega
      · go_wp2_with fail
        go_ret2
        have hbad : badR R = true := (ix_some (fun x : Int × Int => decide (x.2 < x.1)) R (0, 0) k (by rw [HL.out]; omega) hHA.out (by rw [← HX.out]; exact HR1)).2
        have hE : ackE nx R = 4 := by unfold ackE; rw [if_pos hbad]
        exact .inl ⟨by rw [hE]; decide, by rw [hE]; rfl, hB.alloc hB.size (.cells #[.int .u64 a, .int .u64 b'] 31)⟩
    · have hbad : badR R = false := (ix_none (fun x : Int × Int => decide (x.2 < x.1)) R (0, 0) (fun j hj => hHA.out j (by rw [HL.out] at hj; omega))).2
      have HBAD := Lib.hid hbad
      clear hbad hHA
      go_wp2_with fail
      go_loopw [33] (fun i wr => ∃ (k : Nat), k ≤ n ∧ i = .int .i64 k ∧ (∀ j, j < k → (fun x : Int × Int => decide (nx ≤ x.2)) (R.getD j (0, 0)) = false) ∧ Below w.heap.size w wr) (fun i _ => n - (intOf i).toNat)
      case atStart => exact ⟨0, Nat.zero_le _, rfl, fun j hj => absurd hj (by omega), hB⟩
      case round =>
        clear hB hlt hkn
        obtain ⟨k, hkn, rfl, hall, hB⟩ := hrel
        have hHA := Lib.hid hall
        clear hall
        by_cases hlt : k < n
        · obtain ⟨b, off, rfl, hb, d0, d1⟩ := (HP.out.below hB).2 k hlt
          obtain ⟨x, hx⟩ : ∃ x, x = R.getD k (0, 0) := ⟨_, rfl⟩
          rw [← hx] at d0 d1
          have HX := Lib.hid hx
          clear hx
          obtain ⟨a, b'⟩ := x
          simp only at d0 d1
          obtain ⟨r, hr⟩ : ∃ r, r = decide (nx ≤ b') := ⟨_, rfl⟩
          have HR1 := hr.symm
          clear hr
          have hgA := (HGB.out.same hB).alloc (.cells #[.int .u64 a, .int .u64 b'] 31)
          have g1 : World.cell? _ ⟨g, 1, none⟩ = some (.int .u64 nx) := hgA.cell 1
          have hgs := (HGB.out.same hB).lt
          have hgne : g ≠ wr.heap.size := by omega
          clear hgA
          cases r
          · go_wp2_with (go_quiet (fail))
            go_roundw
            case rel => exact ⟨k + 1, by omega, by go_num, fun j hj => (by
              by_cases hjk : j < k
              · exact hHA.out j hjk
              · obtain rfl : j = k := by omega
                rw [← HX.out]; exact HR1), below_drewN (hB.alloc hB.size (.cells #[.int .u64 a, .int .u64 b'] 31)) _⟩
            case measure => simp [intOf]; omega
          · go_wp2_with (go_quiet (fail))
            go_ret2
            have hfar : farR nx R = true := (ix_some (fun x : Int × Int => decide (nx ≤ x.2)) R (0, 0) k (by rw [HL.out]; omega) hHA.out (by rw [← HX.out]; exact HR1)).2
            have hE : ackE nx R = 1 := by unfold ackE; rw [if_neg (by rw [HBAD.out]; decide), if_pos hfar]
            exact .inl ⟨by rw [hE]; decide, by rw [hE]; rfl, below_drewN (hB.alloc hB.size (.cells #[.int .u64 a, .int .u64 b'] 31)) _⟩
        · have hfar : farR nx R = false := (ix_none (fun x : Int × Int => decide (nx ≤ x.2)) R (0, 0) (fun j hj => hHA.out j (by rw [HL.out] at hj; omega))).2
          have HE : Hid (ackE nx R = 0) := Lib.hid (by unfold ackE; rw [if_neg (by rw [HBAD.out]; decide), if_neg (by rw [hfar]; decide)])
          clear hfar hHA
          have hI := HI.out.same hB
          have c0 : World.cell? wr ⟨g, 0, none⟩ = some (.slice A1 L.length cap1) := hI.blk.cell 0
          go_wp2_with fail
          clear c0
          go_loopw [10, 50] (fun s10 i wr => ∃ (ov : Value) (k : Nat), ov = s10 ∧ k ≤ L.length ∧ i = .int .i64 k ∧ LI B w g A1 L.length cap1 nx ak sm wr ov (mk (inR R) L k) (outR (inR R) (L.take k))) (fun _ i _ => L.length - (intOf i).toNat)
          case atStart => exact ⟨_, 0, rfl, Nat.zero_le _, rfl, by rw [mk_zero]; exact hI⟩
          case round =>
            clear hI hB hlt hkn
            obtain ⟨ov, k, rfl, hkn, rfl, hI⟩ := hrel
            have hn1 := HOL.out k
            by_cases hlt : k < L.length
            · obtain ⟨gr, rfl⟩ := own_some hI.row (by omega)
              have T1 := outR_take (inR R) L k hlt
              have T2 := mk_succ (inR R) L k hlt
              have T3 := fun f' => mk_in (inR R) f' L k hlt
              have T4 := mk_zero_in (inR R) (inR (R.take 0)) L k hlt (mark_false (by simp [inR]))
              have T5 := fun m (hm : m < R.length) => inR_take R m hm (L.getD k rp0).1
              have T6 := fun b => rcells_set (mk (inR R) L k) k (by rw [mk_len]; exact hlt) b
              obtain ⟨q, hq⟩ : ∃ q, q = L.getD k rp0 := ⟨_, rfl⟩
              rw [← hq] at T1 T2 T4 T5
              simp only [← hq] at T3
              clear hq T6
              obtain ⟨Y, hY⟩ : ∃ Y, Y = outR (inR R) (L.take k) := ⟨_, rfl⟩
              rw [← hY] at hI hn1 T1
              clear hY
              have X1 := Lib.hid T1
              have X2 := Lib.hid T2
              have X3 := Lib.hid T3
              have X4 := Lib.hid T4
              have X5 := Lib.hid T5
              clear T1 T2 T3 T4 T5
              go_wp2_with fail
              go_loopw [10, 55] (fun s10 i wr => ∃ (ov : Value) (m : Nat), ov = s10 ∧ m ≤ n ∧ i = .int .i64 m ∧ LI B w g (some ⟨gr, 0, none⟩) L.length cap1 nx ak sm wr ov ((mk (inR R) L k).set k (mark (inR (R.take m)) q)) (Y ++ if (!q.2 && inR (R.take m) q.1) = true then [q] else [])) (fun _ i _ => n - (intOf i).toNat)
              case atStart => exact ⟨_, 0, rfl, Nat.zero_le _, rfl, by rw [X4.out, if_neg (by simp [inR]), List.append_nil]; exact hI⟩
              case round =>
                clear hI
                obtain ⟨ov, m, rfl, hmn, rfl, hI⟩ := hrel
                by_cases hmt : m < n
                · have hR2 : World.ownsRow wr B 31 2 (.slice A n cap) n (prcells R) := own_keep HR.out (fun g' cs hb' => hI.keep.blk hb' (by decide) (by decide))
                  obtain ⟨b, off, rfl, hbr, d0, d1⟩ := (prs_own hR2).2 m hmt
                  clear hR2
                  have Y5 := X5.out m (by rw [HL.out]; exact hmt)
                  obtain ⟨x, hx⟩ : ∃ x, x = R.getD m (0, 0) := ⟨_, rfl⟩
                  rw [← hx] at d0 d1 Y5
                  clear hx
                  obtain ⟨a, b'⟩ := x
                  simp only at d0 d1 Y5
                  obtain ⟨_, _, e, hbl, c0, c1, c2, c3, c4⟩ := (rps_own hI.row).2 k hlt
                  simp only [Option.some.injEq, Addr.mk.injEq, and_true] at e
                  obtain ⟨rfl, rfl⟩ := e
                  rw [X3.out] at c0 c1 c2 c3 c4
                  simp only [Nat.zero_add] at c0 c1 c2 c3 c4
                  have E3 := X3.out (inR (R.take m))
                  obtain ⟨⟨pn, ps, pz, pa⟩, gg⟩ := q
                  obtain ⟨fm, hfm⟩ : ∃ fm, fm = inR (R.take m) ⟨pn, ps, pz, pa⟩ := ⟨_, rfl⟩
                  obtain ⟨s1, hs1⟩ : ∃ s1, s1 = decide (a ≤ pn) := ⟨_, rfl⟩
                  obtain ⟨s2, hs2⟩ : ∃ s2, s2 = decide (pn ≤ b') := ⟨_, rfl⟩
                  have HS1 := hs1.symm
                  have HS2 := hs2.symm
                  simp only at Y5
                  rw [← hfm, ← hs1, ← hs2] at Y5
                  have M0 : mark (inR (R.take m)) (⟨pn, ps, pz, pa⟩, gg) = (⟨pn, ps, pz, pa⟩, gg || fm) := by rw [hfm]; unfold mark; cases gg <;> cases hq : inR (R.take m) ⟨pn, ps, pz, pa⟩ <;> simp [hq]
                  have M1 : mark (inR (R.take (m + 1))) (⟨pn, ps, pz, pa⟩, gg) = (⟨pn, ps, pz, pa⟩, gg || (fm || (s1 && s2))) := by rw [← Y5]; unfold mark; cases gg <;> cases hq : inR (R.take (m + 1)) ⟨pn, ps, pz, pa⟩ <;> simp [hq]
                  rw [M0] at c0 c1 c2 c3 c4 hI E3
                  simp only at c0 c1 c2 c3 c4
                  have hI2 : LI B w g (some ⟨gr, 0, none⟩) L.length cap1 nx ak sm wr ov ((mk (inR R) L k).set k (⟨pn, ps, pz, pa⟩, gg || fm)) (Y ++ if (!gg && fm) = true then [(⟨pn, ps, pz, pa⟩, gg)] else []) := by rw [hfm]; rw [hfm] at hI; exact hI
                  have Z1 : Hid (∀ W ov', LI B w g (some ⟨gr, 0, none⟩) L.length cap1 nx ak sm W ov' ((mk (inR R) L k).set k (⟨pn, ps, pz, pa⟩, gg || (fm || (s1 && s2)))) (Y ++ if (!gg && (fm || (s1 && s2))) = true then [(⟨pn, ps, pz, pa⟩, gg)] else []) →
                      LI B w g (some ⟨gr, 0, none⟩) L.length cap1 nx ak sm W ov' ((mk (inR R) L k).set k (mark (inR (R.take (m + 1))) (⟨pn, ps, pz, pa⟩, gg))) (Y ++ if (!((⟨pn, ps, pz, pa⟩, gg) : Rp).2 && inR (R.take (m + 1)) ((⟨pn, ps, pz, pa⟩, gg) : Rp).1) = true then [(⟨pn, ps, pz, pa⟩, gg)] else [])) := Lib.hid fun W ov' h => by rw [M1]; simp only; rw [Y5]; exact h
                  clear M0 M1 hI hs1 hs2 hfm Y5
                  have hgc : World.cell? wr ⟨g, 0, none⟩ = some (.slice (some ⟨gr, 0, none⟩) L.length cap1) := hI2.blk.cell 0
                  have hgl2 := hI2.blk.lt
                  have hgne : g ≠ wr.heap.size := by omega
                  have hgne2 : g ≠ wr.heap.size + 1 := by omega
                  have hbne : gr ≠ wr.heap.size := by omega
                  have hI3 := (hI2.same ((Below.refl _ _).alloc (Nat.le_refl _) (.cells #[.int .u64 a, .int .u64 b'] 31)))
                  cases gg
                  · cases fm
                    · cases s1
                      · go_wp2_with fail
                        clear c0 c1 c2 c3 c4 d0 d1 hgc
                        go_roundw
                        case rel => exact ⟨_, m + 1, rfl, by omega, by go_num, Z1.out _ _ (by simpa using hI3.same ((Below.refl _ _).alloc (Nat.le_refl _) _))⟩
                        case measure => simp [intOf]; omega
                      · cases s2
                        · go_wp2_with fail
                          clear c0 c1 c2 c3 c4 d0 d1 hgc
                          go_roundw
                          case rel => exact ⟨_, m + 1, rfl, by omega, by go_num, Z1.out _ _ (by simpa using hI3.same ((Below.refl _ _).alloc (Nat.le_refl _) _))⟩
                          case measure => simp [intOf]; omega
                        · have hI4 : LI B w g (some ⟨gr, 0, none⟩) L.length cap1 nx ak sm ((wr.alloc (.cells #[.int .u64 a, .int .u64 b'] 31)).alloc (.cells #[.int .u64 pn, .int .u64 ps, .int .i64 pz, .bool pa, .bool false] 50)) ov ((mk (inR R) L k).set k (⟨pn, ps, pz, pa⟩, false)) Y := by simpa using hI3.same ((Below.refl _ _).alloc (Nat.le_refl _) (.cells #[.int .u64 pn, .int .u64 ps, .int .i64 pz, .bool pa, .bool false] 50))
                          go_wp2_with (at_builtin; refine wpList_append_any _ rfl _ _ 55 rfl w.heap.size 50 i0 _ 5 32 Try.underlying55 hi hz0 hz1 hz2 rfl (by decide) ov Y.length _ rfl (hI4.out.alloc _) (some ⟨wr.heap.size + 2, 0, none⟩) 1 1 (rpC (⟨pn, ps, pz, pa⟩, false)) rfl (rp_rdv _ ⟨pn, ps, pz, pa⟩ false (blk_new_at (by simp))) (rpC_one _) (by unfold maxLen; omega) (by omega) (by have := hI4.keep.size; simp at this ⊢; omega) (by simp) ?_; intro v4 w4 hown4 hgrow4 hat4; have hI5 := LI.app (hI4.same ((Below.refl _ _).alloc (Nat.le_refl _) _)) hown4 hgrow4; have k0 : World.cell? w4 ⟨g, 0, none⟩ = some (.slice (some ⟨gr, 0, none⟩) L.length cap1) := hI5.blk.cell 0; obtain ⟨k1, k2⟩ := own_cell_at hI5.row (k * 5 + 4) (by omega))
                          have hI6 := hI5.set_ k hlt
                          rw [show ((mk (inR R) L k).set k (⟨pn, ps, pz, pa⟩, false)).getD k rp0 = (⟨pn, ps, pz, pa⟩, false) from E3, List.set_set] at hI6
                          clear c0 c1 c2 c3 c4 d0 d1 hgc k0 k1 k2 hI2 hI3 hI4 hI5 hown4 hgrow4 hat4
                          go_roundw
                          case rel => exact ⟨_, m + 1, rfl, by omega, by go_num, Z1.out _ _ (by simpa using hI6)⟩
                          case measure => simp [intOf]; omega
                    · go_wp2_with fail
                      clear c0 c1 c2 c3 c4 d0 d1 hgc
                      go_roundw
                      case rel => exact ⟨_, m + 1, rfl, by omega, by go_num, Z1.out _ _ (by simpa using hI3.same ((Below.refl _ _).alloc (Nat.le_refl _) _))⟩
                      case measure => simp [intOf]; omega
                  · go_wp2_with fail
                    clear c0 c1 c2 c3 c4 d0 d1 hgc
                    go_roundw
                    case rel => exact ⟨_, m + 1, rfl, by omega, by go_num, Z1.out _ _ (by simpa using hI3.same ((Below.refl _ _).alloc (Nat.le_refl _) _))⟩
                    case measure => simp [intOf]; omega
                · obtain rfl : m = n := by omega
                  have htk : R.take R.length = R := List.take_length
                  have hI6 : LI B w g (some ⟨gr, 0, none⟩) L.length cap1 nx ak sm wr ov (mk (inR R) L (k + 1)) (outR (inR R) (L.take (k + 1))) := by
                    rw [X2.out, X1.out]
                    rw [← HL.out, htk] at hI
                    exact hI
                  clear hI htk
                  go_wp2_with fail
                  go_roundw
                  case rel => exact ⟨_, k + 1, rfl, by omega, by go_num, hI6⟩
                  case measure => simp [intOf]; omega
            · obtain rfl : k = L.length := by omega
              have htk : L.take L.length = L := List.take_length
              rw [mk_full, htk] at hI
              clear htk
              go_wp2_with fail
              clear hkn hlt hn1
              go_loopw [98] (fun i wr => ∃ (m : Nat), m ≤ n ∧ i = .int .i64 m ∧ LI B w g A1 L.length cap1 nx (ackI ak (R.take m)) (sm || decide (0 < m)) wr ov (L.map (mark (inR R))) (outR (inR R) L)) (fun i _ => n - (intOf i).toNat)
              case atStart => exact ⟨0, Nat.zero_le _, rfl, by simpa [ackI] using hI⟩
              case round =>
                clear hI
                obtain ⟨m, hmn, rfl, hI⟩ := hrel
                by_cases hmt : m < n
                · have hR2 : World.ownsRow wr B 31 2 (.slice A n cap) n (prcells R) := own_keep HR.out (fun g' cs hb' => hI.keep.blk hb' (by decide) (by decide))
                  obtain ⟨b, off, rfl, hbr, d0, d1⟩ := (prs_own hR2).2 m hmt
                  clear hR2
                  have T1 := ackI_take ak R m (by rw [HL.out]; exact hmt)
                  have hb0 := (HRO.out.getD m).2.1
                  have T0 : (sm || decide (0 < m)) = false → ackI ak (R.take m) = 0 := fun h => by
                    have h1 : sm = false := by cases sm <;> simp_all
                    have h2 : m = 0 := by cases sm <;> simp_all
                    rw [h2, show ackI ak (R.take 0) = ak from rfl]
                    exact HSM.out h1
                  obtain ⟨x, hx⟩ : ∃ x, x = R.getD m (0, 0) := ⟨_, rfl⟩
                  rw [← hx] at d0 d1 T1 hb0
                  clear hx
                  obtain ⟨a, b'⟩ := x
                  simp only at d0 d1 T1 hb0
                  obtain ⟨aa, haa⟩ : ∃ aa, aa = ackI ak (R.take m) := ⟨_, rfl⟩
                  obtain ⟨sn, hsn⟩ : ∃ sn, sn = (sm || decide (0 < m)) := ⟨_, rfl⟩
                  rw [← haa] at hI T1 T0
                  rw [← hsn] at hI T0
                  clear haa hsn
                  have hsn1 : (sm || decide (0 < m + 1)) = true := by simp
                  have Z1 : Hid (∀ W, LI B w g A1 L.length cap1 nx (max aa b') true W ov (L.map (mark (inR R))) (outR (inR R) L) → LI B w g A1 L.length cap1 nx (ackI ak (R.take (m + 1))) (sm || decide (0 < m + 1)) W ov (L.map (mark (inR R))) (outR (inR R) L)) := Lib.hid fun W h => by rw [T1, hsn1]; exact h
                  clear T1 hsn1
                  have hI2 := hI.same ((Below.refl _ _).alloc (Nat.le_refl _) (.cells #[.int .u64 a, .int .u64 b'] 31))
                  have g2 : World.cell? _ ⟨g, 2, none⟩ = some (.int .u64 aa) := hI2.blk.cell 2
                  have g3 : World.cell? _ ⟨g, 3, none⟩ = some (.bool sn) := hI2.blk.cell 3
                  have gf2 := hI2.blk.frozen 2
                  have gf3 := hI2.blk.frozen 3
                  have hgl2 := hI.blk.lt
                  have hgne : g ≠ wr.heap.size := by omega
                  by_cases hc : aa < b'
                  · have hmx : max aa b' = b' := by omega
                    have HC : decide (aa < b') = true := decide_eq_true hc
                    rw [hmx] at Z1
                    clear hmx
                    cases sn
                    · skip
                      go_upto_region 32 with (go_quiet (fail))
                      go_region_law (fail)
                      all_goals clear g2 g3 gf2 gf3 d0 d1
                      all_goals go_wp2_with fail
                      all_goals go_roundw
                      all_goals first | exact ⟨m + 1, by omega, by go_num, Z1.out _ (LI.setAk hBg (hI2.drew _) _)⟩ | (simp [intOf]; omega)
                    · skip
                      go_upto_region 32 with (go_quiet (fail))
                      go_region_law (fail)
                      all_goals clear g2 g3 gf2 gf3 d0 d1
                      all_goals go_wp2_with fail
                      all_goals go_roundw
                      all_goals first | exact ⟨m + 1, by omega, by go_num, Z1.out _ (LI.setAk hBg (hI2.drew _) _)⟩ | (simp [intOf]; omega)
                  · have HC : decide (aa < b') = false := decide_eq_false hc
                    cases sn
                    · have h0 := T0 rfl
                      have hmx : max aa b' = b' := by omega
                      rw [hmx] at Z1
                      clear hmx h0
                      go_upto_region 32 with (go_quiet (fail))
                      go_region_law (fail)
                      all_goals clear g2 g3 gf2 gf3 d0 d1
                      all_goals go_wp2_with fail
                      all_goals go_roundw
                      all_goals first | exact ⟨m + 1, by omega, by go_num, Z1.out _ (LI.setAk hBg (hI2.drew _) _)⟩ | (simp [intOf]; omega)
                    · have hmx : max aa b' = aa := by omega
                      rw [hmx] at Z1
                      clear hmx
                      go_wp2_with (go_quiet (fail))
                      clear g2 g3 gf2 gf3 d0 d1
                      go_roundw
                      case rel => exact ⟨m + 1, by omega, by go_num, Z1.out _ (hI2.drew _)⟩
                      case measure => simp [intOf]; omega
                · obtain rfl : m = n := by omega
                  rw [show R.take m = R from by rw [← HL.out]; exact List.take_length] at hI
                  skip
                  obtain ⟨A9, c9, rfl, _⟩ := sl_of_own hI.out
                  go_wp2_with fail
                  go_ret2
                  exact .inr ⟨HE.out, _, rfl, hI.out, hI.led hBg, hI.below, hI.keep⟩

end Go.Proofs.Ytohjifbkjfnkfaa
