/-
  What the program tells of a ledger: all that are under way, the first that asks, the last, the greatest, the next; a nil ledger's answers. No condition.
-/
import Derived.Test.YtohjifbkjfnkfaaLref
namespace Go.Proofs.Ytohjifbkjfnkfaa
open Go.RowKit
set_option linter.unusedVariables false
set_option linter.unusedSimpArgs false

theorem pkcells_one (L : List Pk) : ∀ u ∈ pkcells L, u.oneCell' = true := by
  intro u hu
  obtain ⟨q, _, hq⟩ := List.mem_flatMap.1 hu
  exact pk_cells_one q u hq
theorem rdv_own {w : World} {base n cap sz : Nat} {e : TypeId} {A : Option Addr} {xs : List Value} (h : w.ownsRow base e sz (.slice A n cap) n xs) : RdV w sz A n xs ∧ (A = none → n = 0) := by
  obtain ⟨A', cap', e', h1, h2, h3⟩ := sl_of_own h
  simp only [Value.slice.injEq, true_and] at e'
  obtain ⟨rfl, rfl⟩ := e'
  refine ⟨⟨h.1, h3⟩, fun hA => ?_⟩
  rcases h.2 with ⟨hh, hn⟩ | ⟨g, cap', cur, hh, _⟩
  · exact hn
  · simp [hA] at hh
set_option maxHeartbeats 1000000 in
set_option maxRecDepth 100000 in
theorem cloneP (B : Nat) (A : Option Addr) (n cap : Nat) (L : List Pk) (w : World) (ho : w.ownsRow B 36 4 (.slice A n cap) n (pkcells L)) (hn : n ≤ 100000) :
    Calls Try.prog 36 #[.slice A n cap] w fun e w' => ∃ v, e = .returned v ∧ w'.ownsRow w.heap.size 36 4 v n (pkcells L) ∧ Below w.heap.size w w' := by
  obtain ⟨i0, hi, hz0, hz1, hz2⟩ := info_parts infoP
  obtain ⟨hrd1, hA⟩ := rdv_own (ho.alloc (.cells #[] 36))
  have hown0 := World.ownsRow_lit (size := 4) (e := 36) w #[] 0 (Nat.le_refl _) (by decide) rfl
  have hnil := fun W : World => Lib.run_eql_slice_nil (P := Try.prog) W 26 36 A n cap 0 0 Try.underlying26
  have hlen := ho.1
  rcases A with _ | ad
  · obtain rfl := hA rfl
    have h0 : pkcells L = [] := List.eq_nil_of_length_eq_zero (by omega)
    rw [h0]
    go_enter Try.func36, Try.ntmps36
    go_wp2
    go_ret
    exact ⟨_, rfl, World.ownsRow_nil _ _ _ _, Below.refl _ _⟩
  · go_enter Try.func36, Try.ntmps36
    go_wp2_with (at_builtin; refine wpList_append_any _ rfl _ _ 26 rfl w.heap.size 36 i0 _ 4 32 Try.underlying26 hi hz0 hz1 hz2 rfl (by decide) (.slice (some ⟨w.heap.size, 0, none⟩) 0 0) 0 [] rfl hown0 (some ad) n cap _ rfl hrd1 (pkcells_one _) (by unfold maxLen; omega) (by omega) (by simp) hA ?_; intro v1 w1 hown1 hgrow1 hat1)
    go_ret
    exact ⟨_, rfl, by simpa using hown1, ((Below.refl _ _).alloc (Nat.le_refl _) _).grown hgrow1 (by simp) (by simp [Value.ownBlock])⟩
set_option maxHeartbeats 1000000 in
set_option maxRecDepth 100000 in
theorem openP (B g : Nat) (L : List Pk) (nx ak : Int) (sm : Bool) (w : World) (hl : Led B w g L nx ak sm) (hL : L.length ≤ 100000) :
    Calls Try.prog 15 #[.pointer (some ⟨g, 0, none⟩)] w fun e w' => ∃ v, e = .returned v ∧ w'.ownsRow w.heap.size 36 4 v L.length (pkcells L) ∧ Below w.heap.size w w' := by
  obtain ⟨hBg, V, hb, hown⟩ := hl
  obtain ⟨A, cap, rfl, _⟩ := pks_of_own hown
  have c0 : w.cell? ⟨g, 0, none⟩ = some (.slice A L.length cap) := hb.cell 0
  go_enter Try.func15, Try.ntmps15
  go_wp2_with fail
  refine (cloneP B A L.length cap L w hown hL).mono ?_
  rintro e w2 ⟨v, rfl, ho, hb2⟩
  obtain ⟨A1, cp1, rfl, _⟩ := sl_of_own ho
  go_wp2_with fail
  go_ret
  exact ⟨_, rfl, ho, hb2⟩
set_option maxHeartbeats 1000000 in
set_option maxRecDepth 100000 in
theorem ackedP (B g : Nat) (L : List Pk) (nx ak : Int) (sm : Bool) (w : World) (hl : Led B w g L nx ak sm) :
    Calls Try.prog 26 #[.pointer (some ⟨g, 0, none⟩)] w fun e w' => e = .returned (.tuple #[.int .u64 ak, .bool sm]) ∧ ∃ m, w.drewN m = w' := by
  obtain ⟨hBg, V, hb, hown⟩ := hl
  have c2 : w.cell? ⟨g, 2, none⟩ = some (.int .u64 ak) := hb.cell 2
  have c3 : w.cell? ⟨g, 3, none⟩ = some (.bool sm) := hb.cell 3
  go_enter Try.func26, Try.ntmps26
  go_wp2_with fail
  go_quiet (fail)
  go_wp2_with fail
  go_ret2
  exact ⟨rfl, _, rfl⟩
set_option maxHeartbeats 1000000 in
set_option maxRecDepth 100000 in
theorem nextP (B g : Nat) (L : List Pk) (nx ak : Int) (sm : Bool) (w : World) (hl : Led B w g L nx ak sm) :
    Calls Try.prog 27 #[.pointer (some ⟨g, 0, none⟩)] w fun e w' => e = .returned (.int .u64 nx) ∧ w = w' := by
  obtain ⟨hBg, V, hb, hown⟩ := hl
  have c1 : w.cell? ⟨g, 1, none⟩ = some (.int .u64 nx) := hb.cell 1
  go_enter Try.func27, Try.ntmps27
  go_wp2_with fail
  go_ret
  exact ⟨rfl, rfl⟩
theorem c39_any (p : Pk) (w : World) : Calls Try.prog 39 #[p.agg] w fun e w' => e = .returned (.bool p.asks) ∧ Below w.heap.size w w' := by
  obtain ⟨pn, ps, pz, pa⟩ := p
  unfold Pk.agg
  go_enter Try.func39, Try.ntmps39
  go_wp2_with fail
  go_ret
  exact ⟨rfl, (Below.refl _ _).alloc (Nat.le_refl _) _⟩
set_option maxHeartbeats 1000000 in
set_option maxRecDepth 100000 in
theorem ix_asks (A : Option Addr) (n cap : Nat) (L : List Pk) (w : World) (hp : Pks w A n L) (hnc : n ≤ cap) (hcm : cap ≤ maxLen) :
    Calls Try.prog 38 #[.slice A n cap, .func (.func 39) #[] #[]] w fun e w' => e = .returned (.int .i64 (ixOf (·.asks) L)) ∧ Below w.heap.size w w' := by
  have hcm' : cap ≤ 9223372036854775807 := by unfold maxLen at hcm; omega
  clear hcm
  have HP := Lib.hid hp
  have hlen := hp.1
  clear hp
  go_enter Try.func38, Try.ntmps38
  go_wp2_with fail
  go_loopw [8] (fun i wr => ∃ (k : Nat), k ≤ n ∧ i = .int .i64 k ∧ (∀ j, j < k → (·.asks) (L.getD j pk0) = false) ∧ Below w.heap.size w wr) (fun i _ => n - (intOf i).toNat)
  case atStart => exact ⟨0, Nat.zero_le _, rfl, fun j hj => absurd hj (by omega), Below.refl _ _⟩
  case round =>
    obtain ⟨k, hkn, rfl, hall, hB⟩ := hrel
    have hHA := Lib.hid hall
    clear hall
    by_cases hlt : k < n
    · obtain ⟨b, off, rfl, hb, d0, d1, d2, d3⟩ := (HP.out.below hB).2 k hlt
      obtain ⟨x, hx⟩ : ∃ x, x = L.getD k pk0 := ⟨_, rfl⟩
      rw [← hx] at d0 d1 d2 d3
      have HX := Lib.hid hx
      clear hx
      obtain ⟨pn, ps, pz, pa⟩ := x
      simp only at d0 d1 d2 d3
      have hcon := c39_any ⟨pn, ps, pz, pa⟩ wr
      unfold Pk.agg at hcon
      simp only at hcon
      go_wp2_with (go_at_call 39; refine hcon.mono ?_; rintro e w2 ⟨rfl, hb2⟩)
      all_goals have hB2 := hB.trans (hb2.mono hB.size)
      · go_ret
        exact ⟨by rw [(ix_some (fun x : Pk => x.asks) L pk0 k (by omega) hHA.out (by rw [← HX.out]; assumption)).1]; rfl, hB2⟩
      · go_roundw
        case rel => exact ⟨k + 1, by omega, by go_num, fun j hj => (by
          by_cases hjk : j < k
          · exact hHA.out j hjk
          · obtain rfl : j = k := by omega
            rw [← HX.out]; assumption), hB2⟩
        case measure => simp [intOf]; omega
    · go_wp2_with fail
      go_ret
      exact ⟨by rw [(ix_none (fun x : Pk => x.asks) L pk0 (fun j hj => hHA.out j (by omega))).1]; rfl, hB⟩

theorem first_or (f : Nat → Bool) (n : Nat) : (∀ j, j < n → f j = false) ∨ ∃ k, k < n ∧ f k = true ∧ ∀ j, j < k → f j = false := by
  induction n with
  | zero => exact .inl fun j hj => absurd hj (by omega)
  | succ n ih =>
    rcases ih with h | ⟨k, h1, h2, h3⟩
    · cases hn : f n
      · exact .inl fun j hj => by
          by_cases e : j = n
          · rw [e]; exact hn
          · exact h j (by omega)
      · exact .inr ⟨n, by omega, hn, h⟩
    · exact .inr ⟨k, by omega, h2, h3⟩
/-- Those that ask. -/
def asksP (L : List Pk) : List Pk := L.filter (·.asks)
theorem asks_none (L : List Pk) (h : ∀ j, j < L.length → (L.getD j pk0).asks = false) : asksP L = [] := by
  apply List.filter_eq_nil_iff.2
  intro p hp
  obtain ⟨j, hj, rfl⟩ := List.mem_iff_getElem.1 hp
  have := h j hj
  simpa [List.getD, hj] using this
theorem asks_first (L : List Pk) (k : Nat) (hk : k < L.length) (h : ∀ j, j < k → (L.getD j pk0).asks = false) (h1 : (L.getD k pk0).asks = true) : (asksP L).head? = some (L.getD k pk0) := by
  induction L generalizing k with
  | nil => simp at hk
  | cons p r ih =>
    cases k with
    | zero =>
      have h2 : p.asks = true := h1
      simp [asksP, h2]
    | succ k =>
      have h0 : p.asks = false := h 0 (by omega)
      have := ih k (by simpa using hk) (fun j hj => h (j + 1) (by omega)) h1
      simpa [asksP, h0] using this
theorem asks_last (L : List Pk) (k : Nat) (hk : k < L.length) (h : ∀ j, k < j → j < L.length → (L.getD j pk0).asks = false) (h1 : (L.getD k pk0).asks = true) : (asksP L).getLast? = some (L.getD k pk0) := by
  have e : L = L.take k ++ (L.getD k pk0 :: L.drop (k + 1)) := by
    have e1 : L.getD k pk0 = L[k] := by simp [List.getD, hk]
    rw [e1, ← List.drop_eq_getElem_cons hk, List.take_append_drop]
  have e2 : asksP (L.drop (k + 1)) = [] := asks_none _ fun j hj => by
    have := h (k + 1 + j) (by omega) (by simp at hj; omega)
    simpa [List.getD] using this
  have e3 : asksP L = asksP (L.take k) ++ [L.getD k pk0] := by
    conv => lhs; rw [e]
    have e4 : asksP (L.take k ++ (L.getD k pk0 :: L.drop (k + 1))) = asksP (L.take k) ++ asksP (L.getD k pk0 :: L.drop (k + 1)) := List.filter_append ..
    rw [e4]
    have e5 : asksP (L.getD k pk0 :: L.drop (k + 1)) = L.getD k pk0 :: asksP (L.drop (k + 1)) := by
      show List.filter _ _ = _
      rw [List.filter_cons, if_pos h1]
      rfl
    rw [e5, e2]
  rw [e3]
  simp
set_option maxHeartbeats 2000000 in
set_option maxRecDepth 100000 in
theorem firstP (B g : Nat) (L : List Pk) (nx ak : Int) (sm : Bool) (w : World) (hl : Led B w g L nx ak sm) :
    Calls Try.prog 24 #[.pointer (some ⟨g, 0, none⟩)] w fun e w' => e = .returned (.tuple #[((asksP L).head?.getD pk0).agg, .bool (!(asksP L).isEmpty)]) ∧ Below w.heap.size w w' := by
  obtain ⟨hBg, V, hb, hown⟩ := hl
  obtain ⟨A, cap, rfl, _, hnc, hcm, hpk⟩ := pks_of_own hown
  have hcm' : cap ≤ 9223372036854775807 := by unfold maxLen at hcm; omega
  have hZ := Blk.new w 36 #[.int .u64 0, .int .u64 0, .int .i64 0, .bool false]
  have hb1 := hb.alloc (.cells #[.int .u64 0, .int .u64 0, .int .i64 0, .bool false] 36)
  have hp1 := hpk.below ((Below.refl _ _).alloc (Nat.le_refl _) (.cells #[.int .u64 0, .int .u64 0, .int .i64 0, .bool false] 36))
  have hB1 := (Below.refl w.heap.size w).alloc (Nat.le_refl _) (.cells #[.int .u64 0, .int .u64 0, .int .i64 0, .bool false] 36)
  have c0 : World.cell? _ ⟨g, 0, none⟩ = some (.slice A L.length cap) := hb1.cell 0
  have hcases : (ixOf (·.asks) L = -1 ∧ asksP L = []) ∨ ∃ k, k < L.length ∧ ixOf (·.asks) L = (k : Nat) ∧ (asksP L).head? = some (L.getD k pk0) := by
    by_cases h : ∀ j, j < L.length → (L.getD j pk0).asks = false
    · exact .inl ⟨(ix_none (fun x : Pk => x.asks) L pk0 h).1, asks_none L h⟩
    · right
      obtain ⟨k, k1, k2, k4⟩ := (first_or (fun j => (L.getD j pk0).asks) L.length).resolve_left h
      exact ⟨k, k1, (ix_some (fun x : Pk => x.asks) L pk0 k k1 k4 k2).1, asks_first L k k1 k4 k2⟩
  obtain ⟨ix, hix⟩ : ∃ ix, ix = ixOf (·.asks) L := ⟨_, rfl⟩
  rw [← hix] at hcases
  have hcon := ix_asks A L.length cap L _ hp1 hnc hcm
  rw [← hix] at hcon
  clear hix
  rcases hcases with ⟨rfl, he⟩ | ⟨k, hk, rfl, he⟩
  · rw [he]
    go_enter Try.func24, Try.ntmps24
    go_wp2_with fail
    refine hcon.mono ?_
    rintro e w2 ⟨rfl, hb2⟩
    have hZ2 := hZ.same hb2
    have hB2 := hB1.trans (hb2.mono hB1.size)
    have z0 := hZ2.frozen 0
    have z1 := hZ2.frozen 1
    have z2 := hZ2.frozen 2
    have z3 := hZ2.frozen 3
    have y0 : World.cell? w2 ⟨w.heap.size, 0, none⟩ = some (.int .u64 0) := hZ2.cell 0
    have y1 : World.cell? w2 ⟨w.heap.size, 1, none⟩ = some (.int .u64 0) := hZ2.cell 1
    have y2 : World.cell? w2 ⟨w.heap.size, 2, none⟩ = some (.int .i64 0) := hZ2.cell 2
    have y3 : World.cell? w2 ⟨w.heap.size, 3, none⟩ = some (.bool false) := hZ2.cell 3
    go_wp2_with fail
    refine bodyPost_ret (v := .tuple #[.agg #[.int .u64 0, .int .u64 0, .int .i64 0, .bool false], .bool false]) (by simp [results, Try.results24, go_sem, y0, y1, y2, y3]) rfl ⟨rfl, ?_⟩
    exact (((hB2.setCell (by simp) _).setCell (by simp) _).setCell (by simp) _).setCell (by simp) _
  · rw [he]
    have hne : (asksP L).isEmpty = false := by
      cases hq : asksP L
      · rw [hq] at he; simp at he
      · rfl
    rw [hne]
    obtain ⟨b, off, rfl, hbl, d0, d1, d2, d3⟩ := hpk.2 k hk
    obtain ⟨x, hx⟩ : ∃ x, x = L.getD k pk0 := ⟨_, rfl⟩
    rw [← hx] at d0 d1 d2 d3 ⊢
    clear hx he hne
    obtain ⟨pn, ps, pz, pa⟩ := x
    simp only at d0 d1 d2 d3
    have hbne : b ≠ w.heap.size := by omega
    go_enter Try.func24, Try.ntmps24
    go_wp2_with fail
    refine hcon.mono ?_
    rintro e w2 ⟨rfl, hb2⟩
    have hZ2 := hZ.same hb2
    have hB2 := hB1.trans (hb2.mono hB1.size)
    have z0 := hZ2.frozen 0
    have z1 := hZ2.frozen 1
    have z2 := hZ2.frozen 2
    have z3 := hZ2.frozen 3
    have y0 : World.cell? w2 ⟨w.heap.size, 0, none⟩ = some (.int .u64 0) := hZ2.cell 0
    have y1 : World.cell? w2 ⟨w.heap.size, 1, none⟩ = some (.int .u64 0) := hZ2.cell 1
    have y2 : World.cell? w2 ⟨w.heap.size, 2, none⟩ = some (.int .i64 0) := hZ2.cell 2
    have y3 : World.cell? w2 ⟨w.heap.size, 3, none⟩ = some (.bool false) := hZ2.cell 3
    have x0 := (hB2.cell (p := ⟨b, off + k * 4, none⟩) hbl).trans d0
    have x1 := (hB2.cell (p := ⟨b, off + k * 4 + 1, none⟩) hbl).trans d1
    have x2 := (hB2.cell (p := ⟨b, off + k * 4 + 2, none⟩) hbl).trans d2
    have x3 := (hB2.cell (p := ⟨b, off + k * 4 + 3, none⟩) hbl).trans d3
    have v0 : World.cell? w2 ⟨g, 0, none⟩ = some (.slice (some ⟨b, off, none⟩) L.length cap) := (hb1.same hb2).cell 0
    clear c0 d0 d1 d2 d3
    go_wp2_with fail
    refine bodyPost_ret (v := .tuple #[.agg #[.int .u64 pn, .int .u64 ps, .int .i64 pz, .bool pa], .bool true]) (by simp [results, Try.results24, go_sem, y0, y1, y2, y3]) rfl ⟨rfl, ?_⟩
    exact (((hB2.setCell (by simp) _).setCell (by simp) _).setCell (by simp) _).setCell (by simp) _
set_option maxHeartbeats 2000000 in
set_option maxRecDepth 100000 in
theorem lastP (B g : Nat) (L : List Pk) (nx ak : Int) (sm : Bool) (w : World) (hl : Led B w g L nx ak sm) :
    Calls Try.prog 25 #[.pointer (some ⟨g, 0, none⟩)] w fun e w' => e = .returned (.tuple #[.int .u64 ((asksP L).getLast?.getD pk0).sent, .bool (!(asksP L).isEmpty)]) ∧ w = w' := by
  obtain ⟨hBg, V, hb, hown⟩ := hl
  obtain ⟨A, cap, rfl, _, hnc, hcm, hpk⟩ := pks_of_own hown
  have hcm' : cap ≤ 9223372036854775807 := by unfold maxLen at hcm; omega
  clear hcm
  have HP := Lib.hid hpk
  clear hpk
  have c0 : World.cell? w ⟨g, 0, none⟩ = some (.slice A L.length cap) := hb.cell 0
  go_enter Try.func25, Try.ntmps25
  go_wp2_with fail
  go_loopw [4] (fun i wr => ∃ (k : Nat), k ≤ L.length ∧ i = .int .i64 ((k : Int) - 1) ∧ (∀ j, k ≤ j → j < L.length → (L.getD j pk0).asks = false) ∧ wr = w) (fun i _ => (intOf i + 1).toNat)
  case atStart => exact ⟨L.length, Nat.le_refl _, by go_num, fun j h1 h2 => absurd h1 (by omega), rfl⟩
  case round =>
    obtain ⟨k, hkn, rfl, hall, rfl⟩ := hrel
    have HA := Lib.hid hall
    clear hall
    by_cases hlt : 0 < k
    · obtain ⟨m, rfl⟩ : ∃ m, k = m + 1 := ⟨k - 1, by omega⟩
      obtain ⟨b, off, rfl, hbl, d0, d1, d2, d3⟩ := HP.out.2 m (by omega)
      obtain ⟨x, hx⟩ : ∃ x, x = L.getD m pk0 := ⟨_, rfl⟩
      rw [← hx] at d0 d1 d2 d3
      have HX := Lib.hid hx
      clear hx
      obtain ⟨pn, ps, pz, pa⟩ := x
      simp only at d0 d1 d2 d3
      have em : ((m + 1 : Nat) : Int) - 1 = (m : Int) := by omega
      rw [em]
      cases pa
      · go_wp2_with fail
        go_roundw
        case rel => exact ⟨m, by omega, by go_num, fun j h1 h2 => (by
          by_cases e : j = m
          · rw [e, ← HX.out]
          · exact HA.out j (by omega) h2), by first | exact trivial | rfl⟩
        case measure => first | (simp [intOf]; done) | (simp [intOf]; omega)
      · go_wp2_with fail
        go_ret2
        have e1 := asks_last L m (by omega) (fun j h1 h2 => HA.out j (by omega) h2) (by rw [← HX.out])
        rw [← HX.out] at e1
        have hne : (asksP L).isEmpty = false := by
          cases hq : asksP L
          · rw [hq] at e1; simp at e1
          · rfl
        exact ⟨by rw [e1, hne]; rfl, rfl⟩
    · obtain rfl : k = 0 := by omega
      have he := asks_none L (fun j hj => HA.out j (by omega) hj)
      go_wp2_with fail
      go_ret2
      exact ⟨by rw [he]; rfl, rfl⟩

end Go.Proofs.Ytohjifbkjfnkfaa
