/-
  What sent and Due do; the document's example.
-/
import Derived.Test.YtohjifbkjfnkfaaLack
namespace Go.Proofs.Ytohjifbkjfnkfaa
open Go.RowKit
set_option linter.unusedVariables false
set_option linter.unusedSimpArgs false


def sentP (i : Nat) : Pk := ⟨(i : Int) + 1, 5, 9, true⟩
def sentL (n : Nat) : List Pk := (List.range n).map sentP
def sentN (n : Nat) : Int := if n = 0 then 0 else n + 1
theorem sentL_len (n : Nat) : (sentL n).length = n := by simp [sentL]
theorem sentL_ok (n : Nat) (hn : n ≤ 100000) : ∀ p ∈ sentL n, PkOk p := by
  intro p hp
  simp only [sentL, List.mem_map, List.mem_range] at hp
  obtain ⟨i, hi, rfl⟩ := hp
  refine ⟨⟨?_, ?_⟩, ⟨?_, ?_⟩, ?_, ?_⟩ <;> simp [sentP] <;> omega
theorem sentL_snoc (n : Nat) : sentL (n + 1) = sentL n ++ [sentP n] := by simp [sentL, List.range_succ]
set_option maxHeartbeats 1000000 in
set_option maxRecDepth 100000 in
theorem sent_any (n : Nat) (w : World) (hn : n ≤ 1000) : Calls Try.prog 9 #[.int .u64 n] w fun e w' => ∃ g, e = .returned (.pointer (some ⟨g, 0, none⟩)) ∧ Led w.heap.size w' g (sentL n) (sentN n) 0 false ∧ Below w.heap.size w w' := by
  go_enter Try.func9, Try.ntmps9
  go_wp2_with fail
  refine (new_any _).mono ?_
  rintro e w1 ⟨g, rfl, hl, hB⟩
  go_wp2_with fail
  go_loopw [7] (fun i wr => ∃ (k : Nat), k ≤ n ∧ i = .int .u64 k ∧ Led w.heap.size wr g (sentL k) (sentN k) 0 false ∧ Below w.heap.size w wr) (fun i _ => n - (intOf i).toNat)
  case atStart => exact ⟨0, Nat.zero_le _, rfl, hl, hB⟩
  case round =>
    clear hl hB
    obtain ⟨k, hkn, rfl, hl, hB⟩ := hrel
    by_cases hlt : k < n
    · have hs := send_ok w.heap.size g (sentL k) (sentN k) 0 false (sentP k) wr hl hB.size (by rw [sentL_len]; omega) (sentL_ok (k + 1) (by omega) _ (by rw [sentL_snoc]; simp)) (by unfold sentN sentP; split <;> simp <;> omega)
      unfold sentP Pk.agg at hs
      simp only at hs
      go_wp2_with fail
      refine hs.mono ?_
      rintro e w2 ⟨rfl, hl2, hB2, _⟩
      have hl3 : Led w.heap.size w2 g (sentL (k + 1)) (sentN (k + 1)) 0 false := by
        rw [sentL_snoc]
        unfold sentN
        simpa [sentP] using hl2
      have hB3 := hB.trans hB2
      clear hl hl2 hs hB2
      go_wp2_with fail
      go_roundw
      case rel => exact ⟨k + 1, by omega, by go_num, hl3, hB3⟩
      case measure => simp [intOf]; omega
    · obtain rfl : k = n := by omega
      go_wp2_with fail
      go_ret
      exact ⟨_, rfl, hl, hB⟩
def dueStep (ak : Int) (sm : Bool) (wt : Int) (st : Int × Bool) (p : Pk) : Int × Bool := if (belowF sm ak p && (!st.2 || decide (p.sent + wt < st.1))) = true then (p.sent + wt, true) else st
def dueF (ak : Int) (sm : Bool) (wt : Int) (L : List Pk) : Int × Bool := L.foldl (dueStep ak sm wt) (0, false)
theorem dueF_take (ak : Int) (sm : Bool) (wt : Int) (L : List Pk) (k : Nat) (hk : k < L.length) : dueF ak sm wt (L.take (k + 1)) = dueStep ak sm wt (dueF ak sm wt (L.take k)) (L.getD k pk0) := by
  have e : L.getD k pk0 = L[k] := by simp [List.getD, hk]
  rw [e, List.take_succ_eq_append_getElem hk]
  unfold dueF
  rw [List.foldl_append]
  rfl
def wtI (wait : Int) : Int := if wait < 4611686018427387903 then wait else 4611686018427387903
set_option maxHeartbeats 1000000 in
set_option maxRecDepth 100000 in
theorem due_any (B g : Nat) (L : List Pk) (nx ak : Int) (sm : Bool) (wait : Int) (w : World) (hl : Led B w g L nx ak sm) (hk : ∀ p ∈ L, PkOk p) (hw : 0 ≤ wait) :
    Calls Try.prog 14 #[.pointer (some ⟨g, 0, none⟩), .int .u64 wait] w fun e w' => e = .returned (.tuple #[.int .u64 (dueF ak sm (wtI wait) L).1, .bool (dueF ak sm (wtI wait) L).2]) ∧ Below w.heap.size w w' := by
  obtain ⟨hBg, V, hb, hown⟩ := hl
  obtain ⟨A, cap, rfl, _, hnc, hcm, hpk⟩ := pks_of_own hown
  have hcm' : cap ≤ 9223372036854775807 := by unfold maxLen at hcm; omega
  clear hcm
  have HP := Lib.hid hpk
  have HBk := Lib.hid hb
  have HK := Lib.hid hk
  clear hpk hk
  have c0 : w.cell? ⟨g, 0, none⟩ = some (.slice A L.length cap) := hb.cell 0
  have hgl := hb.lt
  clear hb hown
  obtain ⟨wt, hwt⟩ : ∃ wt, wt = wtI wait := ⟨_, rfl⟩
  rw [← hwt]
  have hwt1 : 0 ≤ wt ∧ wt ≤ 4611686018427387903 := by rw [hwt]; unfold wtI; split <;> omega
  have hwm : (if wait < 4611686018427387903 then wait else 4611686018427387903) = wt := by rw [hwt]; rfl
  have hwm2 : (if 4611686018427387903 < wait then 4611686018427387903 else wait) = wt := by rw [hwt]; unfold wtI; split <;> split <;> omega
  clear hwt
  go_enter Try.func14, Try.ntmps14
  go_wp2_with fail
  clear c0
  go_loopw [6, 7, 18] (fun s6 s7 i wr => ∃ (at_ : Int) (so : Bool) (k : Nat), s6 = .int .u64 at_ ∧ s7 = .bool so ∧ k ≤ L.length ∧ i = .int .i64 k ∧ (at_, so) = dueF ak sm wt (L.take k) ∧ Below w.heap.size w wr) (fun _ _ i _ => L.length - (intOf i).toNat)
  case atStart => exact ⟨0, false, 0, rfl, rfl, Nat.zero_le _, rfl, rfl, Below.refl _ _⟩
  case round =>
    obtain ⟨at_, so, k, rfl, rfl, hkn, rfl, hD, hB⟩ := hrel
    have HD := Lib.hid hD
    clear hD
    by_cases hlt : k < L.length
    · obtain ⟨b, off, rfl, hbl, c0, c1, c2, c3⟩ := (HP.out.below hB).2 k hlt
      have T1 := dueF_take ak sm wt L k hlt
      rw [← HD.out] at T1
      obtain ⟨p, hp⟩ : ∃ p, p = L.getD k pk0 := ⟨_, rfl⟩
      have hpo : PkOk p := by
        rw [hp]
        have e : L.getD k pk0 = L[k] := by simp [List.getD, hlt]
        rw [e]
        exact HK.out _ (List.getElem_mem hlt)
      rw [← hp] at c0 c1 c2 c3 T1
      clear hp
      obtain ⟨pn, ps, pz, pa⟩ := p
      obtain ⟨_, hps, _⟩ := hpo
      simp only at c0 c1 c2 c3 hps
      have hb := HBk.out.below hB hgl
      have hbA := hb.alloc (.cells #[.int .u64 pn, .int .u64 ps, .int .i64 pz, .bool pa] 36)
      have hbel := below_any g sm ak ⟨pn, ps, pz, pa⟩ _ (hbA.cell 2) (hbA.cell 3)
      unfold Pk.agg at hbel
      simp only at hbel
      obtain ⟨r, hr⟩ : ∃ r, r = belowF sm ak ⟨pn, ps, pz, pa⟩ := ⟨_, rfl⟩
      obtain ⟨q, hq⟩ : ∃ q, q = decide (ps + wt < at_) := ⟨_, rfl⟩
      unfold dueStep at T1
      simp only at T1
      rw [← hr, ← hq] at T1
      rw [← hr] at hbel
      have HQ := hq.symm
      have T := Lib.hid T1
      have hB2 := hB.alloc hB.size (.cells #[.int .u64 pn, .int .u64 ps, .int .i64 pz, .bool pa] 36)
      clear hr hq T1 hb hbA
      cases r <;> cases so <;> cases q
      all_goals
        go_wp2_with (go_at_call 35; refine hbel.mono ?_; rintro e w2 ⟨rfl, hb2⟩)
        have hB3 := hB2.trans (hb2.mono hB2.size)
        go_roundw
        case rel => exact ⟨_, _, k + 1, rfl, rfl, by omega, by go_num, by rw [T.out]; rfl, hB3⟩
        case measure => simp [intOf]; omega
    · have htk : L.take k = L := List.take_of_length_le (by omega)
      rw [htk] at HD
      go_wp2_with fail
      go_ret2
      exact ⟨by rw [← HD.out]; rfl, hB⟩
/-- A row of one range, just built. -/
theorem one_range (w : World) (a b : Int) : Pairs (w.alloc (.cells #[.int .u64 a, .int .u64 b] 31)) (some ⟨w.heap.size, 0, none⟩) 1 [(a, b)] :=
  ⟨rfl, fun k hk => by
    obtain rfl : k = 0 := by omega
    exact ⟨w.heap.size, 0, rfl, by simp, (Blk.new w 31 _).cell 0, (Blk.new w 31 _).cell 1⟩⟩
theorem aw1 : (sentL 4).filter (inR [(4, 4)]) = [⟨4, 5, 9, true⟩] := by kernel_rfl
theorem aw2 : (sentL 4).filter (fun p => !(inR [(4, 4)]) p) = [⟨1, 5, 9, true⟩, ⟨2, 5, 9, true⟩, ⟨3, 5, 9, true⟩] := by kernel_rfl
theorem aw3 : [(⟨1, 5, 9, true⟩ : Pk), ⟨2, 5, 9, true⟩, ⟨3, 5, 9, true⟩].filter (lostF true 4 6 9) = [⟨1, 5, 9, true⟩] := by kernel_rfl
theorem aw4 : [(⟨1, 5, 9, true⟩ : Pk), ⟨2, 5, 9, true⟩, ⟨3, 5, 9, true⟩].filter (fun p => !(lostF true 4 6 9) p) = [⟨2, 5, 9, true⟩, ⟨3, 5, 9, true⟩] := by kernel_rfl
theorem aw5 : [(⟨2, 5, 9, true⟩ : Pk), ⟨3, 5, 9, true⟩].filter (lostF true 4 14 9) = [⟨2, 5, 9, true⟩, ⟨3, 5, 9, true⟩] := by kernel_rfl
theorem awk : ∀ p ∈ [(⟨1, 5, 9, true⟩ : Pk), ⟨2, 5, 9, true⟩, ⟨3, 5, 9, true⟩], PkOk p := by
  intro p hp
  simp at hp
  rcases hp with rfl | rfl | rfl <;> exact ⟨⟨by decide, by decide⟩, ⟨by decide, by decide⟩, by decide, by decide⟩
set_option maxHeartbeats 2000000 in
set_option maxRecDepth 100000 in
theorem awake_any (w : World) : Calls Try.prog 8 #[] w fun e w' => e = .returned (.bool true) ∧ Below w.heap.size w w' := by
  go_enter Try.func8, Try.ntmps8
  go_wp2_with fail
  refine (sent_any 4 _ (by decide)).mono ?_
  rintro e w1 ⟨g, rfl, hl, hB⟩
  have hp := one_range w1 4 4
  have hA1 := (Below.refl w1.heap.size w1).alloc (Nat.le_refl _) (.cells #[.int .u64 4, .int .u64 4] 31)
  have hgl := hl.lt
  have hl1 := hl.below hA1
  go_wp2_with fail
  refine (ack_ok w.heap.size g (sentL 4) (sentN 4) 0 false _ 1 1 [(4, 4)] _ hl1 (by rw [sentL_len]; decide) (sentL_ok 4 (by decide)) hp (by decide) (by unfold maxLen; decide) (by kernel_rfl) (by kernel_rfl) (by rintro b off e rfl; first | (simp at e; done) | (simp at e; omega))).mono ?_
  rintro e w2 ⟨v, rfl, ho, hl2, hg2⟩
  rw [aw1] at ho
  rw [aw2, show ackI 0 [(4, 4)] = 4 by kernel_rfl, show (false || decide (0 < 1)) = true by rfl] at hl2
  have hBg := hl2.1
  have hB2 := (hB.trans (hA1.mono hB.size)).grown hg2 (Nat.le_trans hB.size hA1.size) (fun b hb => by injection hb with hb; omega)
  obtain ⟨A2, cp2, rfl, _⟩ := sl_of_own ho
  clear hp hl1 hA1 hg2 ho hB
  go_wp2_with fail
  refine (lost_any w.heap.size g _ (sentN 4) 4 true 6 9 _ hl2 (by decide) awk (by decide)).mono ?_
  rintro e w3 ⟨v3, rfl, ho3, hl3, hg3⟩
  rw [aw3] at ho3
  rw [aw4] at hl3
  have hB3 := hB2.grown hg3 hB2.size (fun b hb => by injection hb with hb; omega)
  clear hl2 hg3 hB2
  obtain ⟨A3, cp3, e3, _⟩ := sl_of_own ho3
  have hne3 : v3.ownBlock ≠ some g := by obtain ⟨_, V, hb, _⟩ := hl3; exact own_blk_ne ho3 hb (by decide)
  subst e3
  go_wp2_with fail
  refine (lost_any w.heap.size g _ (sentN 4) 4 true 14 9 _ hl3 (by decide) (fun p hp => awk p (by simp at hp ⊢; exact .inr hp)) (by decide)).mono ?_
  rintro e w4 ⟨v4, rfl, ho4, hl4, hg4⟩
  rw [aw5] at ho4
  have hB4 := hB3.grown hg4 hB3.size (fun b hb => by injection hb with hb; omega)
  have ho3 := own_grown ho3 hg4 (.inr hne3)
  obtain ⟨A3', cp3', e3, _, _, _, hk3⟩ := pks_of_own ho3
  simp only [Value.slice.injEq] at e3
  obtain ⟨rfl, _, rfl⟩ := e3
  obtain ⟨A4, cp4, rfl, _, _, _, hk4⟩ := pks_of_own ho4
  obtain ⟨b3, o3, rfl, hb3, x0, _⟩ := hk3.2 0 (by decide)
  obtain ⟨b4, o4, rfl, hb4, y0, _⟩ := hk4.2 1 (by decide)
  simp only [List.getD_cons_zero, List.getD_cons_succ, Nat.zero_mul, Nat.add_zero, Nat.one_mul] at x0 y0
  clear ho3 ho4 hk3 hk4 hl3 hl4 hg4
  go_wp2_with fail
  go_ret
  exact ⟨rfl, hB4⟩

end Go.Proofs.Ytohjifbkjfnkfaa
