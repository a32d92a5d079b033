/-
  The reference's ledger: when any is due, all given up, those that are lost; two lists held against one another.
-/
import Derived.Test.YtohjifbkjfnkfaaLprog
namespace Go.Proofs.Ytohjifbkjfnkfaa
open Go.RowKit
set_option linter.unusedVariables false
set_option linter.unusedSimpArgs false


set_option maxHeartbeats 4000000 in
set_option maxRecDepth 100000 in
theorem sameL (A A' : Option Addr) (n cap cap' : Nat) (L : List Pk) (LL : List Rp) (w : World) (h : Pks w A n L) (h' : Rps w A' n LL) (he : LL.map (·.1) = L) (hc : n ≤ cap) (hm : cap ≤ maxLen) (hc' : n ≤ cap') (hm' : cap' ≤ maxLen) :
    Calls Try.prog 18 #[.slice A n cap, .slice A' n cap'] w fun e w' => e = .returned (.bool true) ∧ Below w.heap.size w w' := by
  have hq : cap ≤ 9223372036854775807 := by unfold maxLen at hm; omega
  have hq' : cap' ≤ 9223372036854775807 := by unfold maxLen at hm'; omega
  clear hm hm'
  have HP := Lib.hid h
  have HP' := Lib.hid h'
  have HE := Lib.hid he
  clear h h' he
  go_enter Try.func18, Try.ntmps18
  go_wp2_with fail
  go_loopw [15] (fun i wr => ∃ (k : Nat), k ≤ n ∧ i = .int .i64 k ∧ Below w.heap.size w wr) (fun i _ => n - (intOf i).toNat)
  case atStart => exact ⟨0, Nat.zero_le _, rfl, Below.refl _ _⟩
  case round =>
    obtain ⟨k, hkn, rfl, hB⟩ := hrel
    by_cases hlt : k < n
    · obtain ⟨b, off, rfl, hb, d0, d1, d2, d3⟩ := (HP.out.below hB).2 k hlt
      obtain ⟨b', off', rfl, hb', e0, e1, e2, e3, e4⟩ := (HP'.out.below hB).2 k hlt
      have hx : L.getD k pk0 = (LL.getD k rp0).1 := by
        have h1 : k < LL.length := by rw [HP'.out.1]; exact hlt
        rw [← HE.out]
        simp [List.getD, h1]
      rw [hx] at d0 d1 d2 d3
      clear hx
      obtain ⟨⟨⟨pn, ps, pz, pa⟩, r⟩, hx⟩ : ∃ x, x = LL.getD k rp0 := ⟨_, rfl⟩
      rw [← hx] at d0 d1 d2 d3 e0 e1 e2 e3 e4
      clear hx
      simp only at d0 d1 d2 d3 e0 e1 e2 e3 e4
      have hB1 := hB.alloc hB.size (.cells #[.int .u64 pn, .int .u64 ps, .int .i64 pz, .bool pa] 36)
      have hB2 := hB1.alloc hB1.size (.cells #[.int .u64 pn, .int .u64 ps, .int .i64 pz, .bool pa, .bool r] 50)
      go_wp2_with fail
      go_roundw
      case rel => exact ⟨k + 1, by omega, by go_num, hB2⟩
      case measure => simp [intOf]; omega
    · go_wp2_with fail
      go_ret
      exact ⟨rfl, hB⟩
theorem opR_opn (L : List Rp) : (opR L).map (·.1) = opn L := rfl

set_option maxHeartbeats 4000000 in
set_option maxRecDepth 100000 in
theorem dueR_any (B g : Nat) (L : List Rp) (nx ak : Int) (sm : Bool) (wait : Int) (w : World) (hl : RLed B w g L nx ak sm) (hL : L.length ≤ 100000) (hk : ∀ p ∈ opn L, PkOk p) (hw : 0 ≤ wait) :
    Calls Try.prog 23 #[.pointer (some ⟨g, 0, none⟩), .int .u64 wait] w fun e w' => e = .returned (.tuple #[.int .u64 (dueF ak sm (wtI wait) (opn L)).1, .bool (dueF ak sm (wtI wait) (opn L)).2]) ∧ Below w.heap.size w w' := by
  obtain ⟨hBg, V, hb, hown⟩ := id hl
  by_cases hwc : 4611686018427387903 < wait
  · have hwt : wtI wait = 4611686018427387903 := by unfold wtI; split <;> omega
    rw [hwt]
    clear hwt hown
    obtain ⟨PL, hPL⟩ : ∃ PL, PL = opn L := ⟨_, rfl⟩
    rw [← hPL]
    have HPL := Lib.hid hPL
    clear hPL
    go_enter Try.func23, Try.ntmps23
    go_wp2_with fail
    refine (openR_any B g L nx ak sm w hl hL).mono ?_
    rintro e w1 ⟨v, rfl, ho, hB⟩
    have hb1 := hb.same hB
    obtain ⟨A1, cp1, rfl, _, hnc, hcm, hrp⟩ := rps_of_own ho
    have hcm' : cp1 ≤ 9223372036854775807 := by unfold maxLen at hcm; omega
    clear hcm ho hb
    obtain ⟨F, hF⟩ : ∃ F, F = opR L := ⟨_, rfl⟩
    have hFo : F.map (·.1) = opn L := by rw [hF]; rfl
    rw [← hF] at hrp hnc ⊢
    have HP := Lib.hid hrp
    have HK : Hid (∀ q ∈ F, PkOk q.1) := Lib.hid fun q hq => hk q.1 (by rw [← hFo]; exact List.mem_map_of_mem hq)
    clear hrp hF
    have HFo := Lib.hid hFo
    clear hFo
    go_wp2_with fail
    go_loopw [6, 7, 15] (fun s6 s7 i wr => ∃ (at_ : Int) (so : Bool) (k : Nat), s6 = .int .u64 at_ ∧ s7 = .bool so ∧ k ≤ F.length ∧ i = .int .i64 k ∧ (at_, so) = dueF ak sm 4611686018427387903 ((F.map (·.1)).take k) ∧ Below w1.heap.size w1 wr) (fun _ _ i _ => F.length - (intOf i).toNat)
    case atStart => exact ⟨0, false, 0, rfl, rfl, Nat.zero_le _, rfl, rfl, Below.refl _ _⟩
    case round =>
      obtain ⟨at_, so, k, rfl, rfl, hkn, rfl, hD, hB'⟩ := hrel
      have HD := Lib.hid hD
      clear hD
      by_cases hlt : k < F.length
      · obtain ⟨b, off, rfl, hbl, c0, c1, c2, c3, c4⟩ := (HP.out.below hB').2 k hlt
        have T1 := dueF_take ak sm 4611686018427387903 (F.map (·.1)) k (by simpa using hlt)
        rw [← HD.out] at T1
        obtain ⟨p, hp⟩ : ∃ p, p = F.getD k rp0 := ⟨_, rfl⟩
        have hpo : PkOk p.1 := by
          rw [hp]
          have e : F.getD k rp0 = F[k] := by simp [List.getD, hlt]
          rw [e]
          exact HK.out _ (List.getElem_mem hlt)
        have e2 : (F.map (·.1)).getD k pk0 = p.1 := by rw [hp]; simp [List.getD, hlt]
        rw [e2] at T1
        rw [← hp] at c0 c1 c2 c3 c4
        clear hp e2
        obtain ⟨⟨pn, ps, pz, pa⟩, rr⟩ := p
        obtain ⟨_, hps, _⟩ := hpo
        simp only at c0 c1 c2 c3 c4 hps
        have hbA := (hb1.same hB').alloc (.cells #[.int .u64 pn, .int .u64 ps, .int .i64 pz, .bool pa, .bool rr] 50)
        have g2 : World.cell? _ ⟨g, 2, none⟩ = some (.int .u64 ak) := hbA.cell 2
        have g3 : World.cell? _ ⟨g, 3, none⟩ = some (.bool sm) := hbA.cell 3
        have hgne : g ≠ wr.heap.size := by have := (hb1.same hB').lt; omega
        obtain ⟨r, hr⟩ : ∃ r, r = decide (pn < ak) := ⟨_, rfl⟩
        obtain ⟨q, hq⟩ : ∃ q, q = decide (ps + 4611686018427387903 < at_) := ⟨_, rfl⟩
        unfold dueStep belowF at T1
        simp only at T1
        rw [← hr, ← hq] at T1
        have HQ := hq.symm
        have HR := hr.symm
        have T := Lib.hid T1
        have hB2 := hB'.alloc hB'.size (.cells #[.int .u64 pn, .int .u64 ps, .int .i64 pz, .bool pa, .bool rr] 50)
        clear hr hq T1 hbA
        have hw1 : IntKind.u64.wrap (ps + 4611686018427387903) = ps + 4611686018427387903 := Go.IntWalk.u64_in _ (by omega)
        cases sm <;> cases r <;> cases so <;> cases q
        all_goals
          go_wp2_with (go_quiet (fail))
          go_roundw
          case rel => exact ⟨_, _, k + 1, rfl, rfl, by omega, by go_num, by rw [T.out]; rfl, below_drewN hB2 _⟩
          case measure => simp [intOf]; omega
      · have htk : (F.map (·.1)).take k = F.map (·.1) := List.take_of_length_le (by simp; omega)
        rw [htk] at HD
        go_wp2_with fail
        go_ret2
        exact ⟨by rw [HPL.out, ← HFo.out, ← HD.out]; rfl, hB.trans (hB'.mono hB.size)⟩
  · have hwt : wtI wait = wait := by unfold wtI; split <;> omega
    rw [hwt]
    clear hwt hown
    obtain ⟨PL, hPL⟩ : ∃ PL, PL = opn L := ⟨_, rfl⟩
    rw [← hPL]
    have HPL := Lib.hid hPL
    clear hPL
    go_enter Try.func23, Try.ntmps23
    go_wp2_with fail
    refine (openR_any B g L nx ak sm w hl hL).mono ?_
    rintro e w1 ⟨v, rfl, ho, hB⟩
    have hb1 := hb.same hB
    obtain ⟨A1, cp1, rfl, _, hnc, hcm, hrp⟩ := rps_of_own ho
    have hcm' : cp1 ≤ 9223372036854775807 := by unfold maxLen at hcm; omega
    clear hcm ho hb
    obtain ⟨F, hF⟩ : ∃ F, F = opR L := ⟨_, rfl⟩
    have hFo : F.map (·.1) = opn L := by rw [hF]; rfl
    rw [← hF] at hrp hnc ⊢
    have HP := Lib.hid hrp
    have HK : Hid (∀ q ∈ F, PkOk q.1) := Lib.hid fun q hq => hk q.1 (by rw [← hFo]; exact List.mem_map_of_mem hq)
    clear hrp hF
    have HFo := Lib.hid hFo
    clear hFo
    go_wp2_with fail
    go_loopw [6, 7, 15] (fun s6 s7 i wr => ∃ (at_ : Int) (so : Bool) (k : Nat), s6 = .int .u64 at_ ∧ s7 = .bool so ∧ k ≤ F.length ∧ i = .int .i64 k ∧ (at_, so) = dueF ak sm wait ((F.map (·.1)).take k) ∧ Below w1.heap.size w1 wr) (fun _ _ i _ => F.length - (intOf i).toNat)
    case atStart => exact ⟨0, false, 0, rfl, rfl, Nat.zero_le _, rfl, rfl, Below.refl _ _⟩
    case round =>
      obtain ⟨at_, so, k, rfl, rfl, hkn, rfl, hD, hB'⟩ := hrel
      have HD := Lib.hid hD
      clear hD
      by_cases hlt : k < F.length
      · obtain ⟨b, off, rfl, hbl, c0, c1, c2, c3, c4⟩ := (HP.out.below hB').2 k hlt
        have T1 := dueF_take ak sm wait (F.map (·.1)) k (by simpa using hlt)
        rw [← HD.out] at T1
        obtain ⟨p, hp⟩ : ∃ p, p = F.getD k rp0 := ⟨_, rfl⟩
        have hpo : PkOk p.1 := by
          rw [hp]
          have e : F.getD k rp0 = F[k] := by simp [List.getD, hlt]
          rw [e]
          exact HK.out _ (List.getElem_mem hlt)
        have e2 : (F.map (·.1)).getD k pk0 = p.1 := by rw [hp]; simp [List.getD, hlt]
        rw [e2] at T1
        rw [← hp] at c0 c1 c2 c3 c4
        clear hp e2
        obtain ⟨⟨pn, ps, pz, pa⟩, rr⟩ := p
        obtain ⟨_, hps, _⟩ := hpo
        simp only at c0 c1 c2 c3 c4 hps
        have hbA := (hb1.same hB').alloc (.cells #[.int .u64 pn, .int .u64 ps, .int .i64 pz, .bool pa, .bool rr] 50)
        have g2 : World.cell? _ ⟨g, 2, none⟩ = some (.int .u64 ak) := hbA.cell 2
        have g3 : World.cell? _ ⟨g, 3, none⟩ = some (.bool sm) := hbA.cell 3
        have hgne : g ≠ wr.heap.size := by have := (hb1.same hB').lt; omega
        obtain ⟨r, hr⟩ : ∃ r, r = decide (pn < ak) := ⟨_, rfl⟩
        obtain ⟨q, hq⟩ : ∃ q, q = decide (ps + wait < at_) := ⟨_, rfl⟩
        unfold dueStep belowF at T1
        simp only at T1
        rw [← hr, ← hq] at T1
        have HQ := hq.symm
        have HR := hr.symm
        have T := Lib.hid T1
        have hB2 := hB'.alloc hB'.size (.cells #[.int .u64 pn, .int .u64 ps, .int .i64 pz, .bool pa, .bool rr] 50)
        clear hr hq T1 hbA
        have hw1 : IntKind.u64.wrap (ps + wait) = ps + wait := Go.IntWalk.u64_in _ (by omega)
        cases sm <;> cases r <;> cases so <;> cases q
        all_goals
          go_wp2_with (go_quiet (fail))
          go_roundw
          case rel => exact ⟨_, _, k + 1, rfl, rfl, by omega, by go_num, by rw [T.out]; rfl, below_drewN hB2 _⟩
          case measure => simp [intOf]; omega
      · have htk : (F.map (·.1)).take k = F.map (·.1) := List.take_of_length_le (by simp; omega)
        rw [htk] at HD
        go_wp2_with fail
        go_ret2
        exact ⟨by rw [HPL.out, ← HFo.out, ← HD.out]; rfl, hB.trans (hB'.mono hB.size)⟩

end Go.Proofs.Ytohjifbkjfnkfaa
