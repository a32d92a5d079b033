/-
  take with each of the closures: those that go, those that stay.
-/
import Derived.Test.YtohjifbkjfnkfaaLcalls
namespace Go.Proofs.Ytohjifbkjfnkfaa
open Go.RowKit
set_option linter.unusedVariables false
set_option linter.unusedSimpArgs false


theorem fil_take (f : Pk → Bool) (L : List Pk) (k : Nat) (hk : k < L.length) :
    (L.take (k + 1)).filter f = (L.take k).filter f ++ (if f (L.getD k pk0) then [L.getD k pk0] else []) := by
  have e : L.getD k pk0 = L[k] := by simp [List.getD, hk]
  rw [e, List.take_succ_eq_append_getElem hk, List.filter_append]
  congr 1
  simp [List.filter_cons]
theorem fil_len (f : Pk → Bool) (L : List Pk) (k : Nat) : ((L.take k).filter f).length ≤ L.length := Nat.le_trans (List.length_filter_le _ _) (by simp; omega)
theorem pk_cells_one (p : Pk) : ∀ u ∈ p.cells, u.oneCell' = true := by
  intro u hu
  simp [Pk.cells] at hu
  rcases hu with rfl | rfl | rfl | rfl <;> rfl
/-- A block that holds one packet reads as a row of one. -/
theorem pk_rdv (w : World) (p : Pk) {g : Nat} (hb : Blk w g 36 #[.int .u64 p.num, .int .u64 p.sent, .int .i64 p.size, .bool p.asks]) : RdV w 4 (some ⟨g, 0, none⟩) 1 p.cells :=
  ⟨rfl, fun k hk => ⟨g, 0, rfl, hb.lt, fun j hj => by
    obtain rfl : k = 0 := by omega
    rw [show 0 + (0 * 4 + j) = j by omega, hb.cell j]
    match j, hj with
    | 0, _ => rfl
    | 1, _ => rfl
    | 2, _ => rfl
    | 3, _ => rfl⟩⟩
theorem slice_or (P : Prop) (v : Value) (b : Nat) (w1 : World) (h : v.ownBlock = some b → b < w1.heap.size) {v' : Value} (h' : v'.ownBlock = v.ownBlock ∨ v'.ownBlock = some w1.heap.size) : v'.ownBlock = some b → b < w1.heap.size ∨ b = w1.heap.size := by
  rcases h' with h' | h'
  · rw [h']; exact fun e => .inl (h e)
  · rw [h']; exact fun e => .inr (by injection e with e; exact e.symm)
/-- Two rows lie apart. -/
def Apart (a b : Value) : Prop := a.ownBlock = none ∨ a.ownBlock ≠ b.ownBlock
theorem apart_left {a b a' : Value} {w1 : World} (h : Apart a b) (hb : ∀ k, b.ownBlock = some k → k < w1.heap.size) (h' : a'.ownBlock = a.ownBlock ∨ a'.ownBlock = some w1.heap.size) : Apart a' b := by
  rcases h' with h' | h'
  · unfold Apart; rw [h']; exact h
  · right
    rw [h']
    intro e
    have := hb _ e.symm
    omega
theorem apart_comm {a b : Value} (h : Apart a b) : Apart b a := by
  unfold Apart at *
  rcases h with h | h
  · rcases hb : b.ownBlock with _ | k
    · exact .inl rfl
    · right; rw [h]; exact fun e => by cases e
  · exact .inr (Ne.symm h)
theorem own_apart {w w' : World} {base : Nat} {e : TypeId} {size n : Nat} {v u : Value} {xs : List Value} (h : w.ownsRow base e size v n xs) (hg : w.grownBy w' u.ownBlock) (ha : Apart v u) : w'.ownsRow base e size v n xs :=
  h.kept hg (by
    rcases ha with ha | ha
    · exact .inl ha
    · exact .inr ha)

set_option maxHeartbeats 4000000 in
set_option maxRecDepth 100000 in
theorem take_ack (rb : Nat) (A' : Option Addr) (n' cap' : Nat) (R : List (Int × Int)) (B g : Nat) (L : List Pk) (nx ak : Int) (sm : Bool) (w : World) (hl : Led B w g L nx ak sm) (hL : L.length ≤ 100000) (hk : ∀ p ∈ L, PkOk p) (h0 : w.cell? ⟨rb, 0, none⟩ = some (.slice A' n' cap')) (h1 : Pairs w A' n' R) (hnc' : n' ≤ cap') (hcm' : cap' ≤ maxLen) :
    Calls Try.prog 31 #[.pointer (some ⟨g, 0, none⟩), .func (.func 32) #[] #[.pointer (some ⟨rb, 0, none⟩)]] w fun e w' => ∃ v, e = .returned v ∧ w'.ownsRow w.heap.size 36 4 v (L.filter (inR R)).length (pkcells (L.filter (inR R))) ∧ Led B w' g (L.filter (fun p => !(inR R) p)) nx ak sm ∧ w.grownBy w' (some g) := by
  obtain ⟨f, hf⟩ : ∃ f : Pk → Bool, f = inR R := ⟨_, rfl⟩
  rw [← hf]
  have hcon : ∀ (p : Pk) (wz : World), PkOk p → Below w.heap.size w wz → Calls Try.prog 32 #[p.agg, .pointer (some ⟨rb, 0, none⟩)] wz fun e w' => e = .returned (.bool (f p)) ∧ Below wz.heap.size wz w' := by
    intro p wz hp hz
    rw [hf]
    exact c32_any rb A' n' cap' R p wz (keepB_cell h0 _ hz) (h1.below hz) hnc' hcm'
  clear hf h0 h1 hnc' hcm'
  obtain ⟨i0, hi, hz0, hz1, hz2⟩ := info_parts infoP
  obtain ⟨hBg, V, hb, hown⟩ := hl
  obtain ⟨A, cap, rfl, _, hnc, hcm, hpk⟩ := pks_of_own hown
  have hcm' : cap ≤ 9223372036854775807 := by unfold maxLen at hcm; omega
  clear hcm
  have HP := Lib.hid hpk
  have HBk := Lib.hid hb
  have HK := Lib.hid hk
  clear hpk hk
  have c0 : w.cell? ⟨g, 0, none⟩ = some (.slice A L.length cap) := hb.cell 0
  have hgl := hb.lt
  clear hb hown
  have hfl := fun k => fil_len f L k
  have hgl2 := fun k => fil_len (fun p => !f p) L k
  have HF1 := Lib.hid hfl
  have HF2 := Lib.hid hgl2
  clear hfl hgl2
  go_enter Try.func31, Try.ntmps31
  go_wp2_with fail
  clear c0
  go_loopw [5, 6, 14] (fun s5 s6 i wr => ∃ (ov sv : Value) (k : Nat), ov = s5 ∧ sv = s6 ∧ k ≤ L.length ∧ i = .int .i64 k ∧ wr.ownsRow w.heap.size 36 4 ov ((L.take k).filter f).length (pkcells ((L.take k).filter f)) ∧
      wr.ownsRow w.heap.size 36 4 sv ((L.take k).filter (fun p => !f p)).length (pkcells ((L.take k).filter (fun p => !f p))) ∧ Apart ov sv ∧ Below w.heap.size w wr) (fun _ _ i _ => L.length - (intOf i).toNat)
  case atStart => exact ⟨_, _, 0, rfl, rfl, Nat.zero_le _, rfl, World.ownsRow_nil _ _ _ _, World.ownsRow_nil _ _ _ _, .inl rfl, Below.refl _ _⟩
  case round =>
    obtain ⟨ov, sv, k, rfl, rfl, hkn, rfl, hO, hS, hA, hB⟩ := hrel
    have hn1 := HF1.out k
    have hn2 := HF2.out k
    by_cases hlt : k < L.length
    · obtain ⟨b, off, rfl, hbl, c0, c1, c2, c3⟩ := (HP.out.below hB).2 k hlt
      have T1 := Lib.hid (fil_take f L k hlt)
      have T2 := Lib.hid (fil_take (fun p => !f p) L k hlt)
      obtain ⟨p, hp⟩ : ∃ p, p = L.getD k pk0 := ⟨_, rfl⟩
      have hpo : PkOk p := by
        rw [hp]
        have e : L.getD k pk0 = L[k] := by simp [List.getD, hlt]
        rw [e]
        exact HK.out _ (List.getElem_mem hlt)
      rw [← hp] at c0 c1 c2 c3 T1 T2
      clear hp
      obtain ⟨F1, hF1⟩ : ∃ F1, F1 = (L.take k).filter f := ⟨_, rfl⟩
      obtain ⟨F2, hF2⟩ : ∃ F2, F2 = (L.take k).filter (fun p => !f p) := ⟨_, rfl⟩
      rw [← hF1] at hO T1 hn1
      rw [← hF2] at hS T2 hn2
      clear hF1 hF2
      obtain ⟨pn, ps, pz, pa⟩ := p
      simp only at c0 c1 c2 c3
      obtain ⟨r, hr⟩ : ∃ r, r = f ⟨pn, ps, pz, pa⟩ := ⟨_, rfl⟩
      have hcon2 := fun wz (hz : Below wr.heap.size wr wz) => hcon ⟨pn, ps, pz, pa⟩ wz hpo (hB.trans (hz.mono hB.size))
      rw [← hr] at hcon2 T1
      have T3 : Hid (List.filter (fun p => !f p) (List.take (k + 1) L) = F2 ++ if (!r) = true then [⟨pn, ps, pz, pa⟩] else []) := by rw [hr]; exact T2
      clear hr hpo T2
      have hcon3 := hcon2 (wr.alloc (.cells #[.int .u64 pn, .int .u64 ps, .int .i64 pz, .bool pa] 36)) ((Below.refl _ _).alloc (Nat.le_refl _) _)
      clear hcon2
      unfold Pk.agg at hcon3
      cases r
      · replace T1 : Hid (List.filter f (List.take (k + 1) L) = F1) := Lib.hid (by simpa using T1.out)
        replace T3 : Hid (List.filter (fun p => !f p) (List.take (k + 1) L) = F2 ++ [⟨pn, ps, pz, pa⟩]) := Lib.hid (by simpa using T3.out)
        go_wp2_with (first | (go_at_call 32; refine hcon3.mono ?_; rintro e w2 ⟨rfl, hb2⟩; have K2 := alloc_kept hb2; clear c0 c1 c2 c3; have hW2 : Below wr.heap.size wr w2 := ((Below.refl _ _).alloc (Nat.le_refl _) _).trans (hb2.mono (by simp)); have hO2 := own_same hO hW2; have hS2 := own_same hS hW2; have hB2 := hB.trans (hW2.mono hB.size); have l2 := hb2.size; rw [World.size_alloc] at l2; clear hb2; obtain ⟨K2a, K2b, K2c, K2d⟩ := K2; have m0 := K2c 0; have m1 := K2c 1; have m2 := K2c 2; have m3 := K2c 3; clear K2c K2b; simp only [List.getElem?_toArray, List.getElem?_cons_zero, List.getElem?_cons_succ] at m0 m1 m2 m3) | (at_builtin; refine wpList_append_any _ rfl _ _ 26 rfl w.heap.size 36 i0 _ 4 32 Try.underlying26 hi hz0 hz1 hz2 rfl (by decide) sv F2.length _ rfl (hS2.alloc _) (some ⟨w2.heap.size, 0, none⟩) 1 1 (Pk.cells ⟨pn, ps, pz, pa⟩) rfl (pk_rdv _ ⟨pn, ps, pz, pa⟩ (Blk.new w2 36 _)) (pk_cells_one _) (by unfold maxLen; omega) (by omega) (by have := hB2.size; simp; omega) (by simp) ?_; intro v4 w4 hown4 hgrow4 hat4))
        have hB3 := hB2.alloc hB2.size (.cells #[.int .u64 pn, .int .u64 ps, .int .i64 pz, .bool pa] 36)
        have hB4 := hB3.grown hgrow4 hB3.size (fun b hb => (hS2.lt b hb).1)
        have hO4 := own_apart (hO2.alloc _) hgrow4 hA
        have hA4 := apart_comm (apart_left (w1 := w2.alloc (.cells #[.int .u64 pn, .int .u64 ps, .int .i64 pz, .bool pa] 36)) (apart_comm hA) (fun k hk => by have := (hO2.lt k hk).2; simp; omega) hat4)
        clear m0 m1 m2 m3 hO hS hO2 hS2 hgrow4 hat4 hB hB2 hB3 hA
        go_roundw
        case rel => exact ⟨_, _, k + 1, rfl, rfl, by omega, by go_num, by rw [T1.out]; exact hO4, by rw [T3.out, pkcells_append]; simpa [pkcells] using hown4, hA4, hB4⟩
        case measure => simp [intOf]; omega
      · replace T1 : Hid (List.filter f (List.take (k + 1) L) = F1 ++ [⟨pn, ps, pz, pa⟩]) := Lib.hid (by simpa using T1.out)
        replace T3 : Hid (List.filter (fun p => !f p) (List.take (k + 1) L) = F2) := Lib.hid (by simpa using T3.out)
        go_wp2_with (first | (go_at_call 32; refine hcon3.mono ?_; rintro e w2 ⟨rfl, hb2⟩; have K2 := alloc_kept hb2; clear c0 c1 c2 c3; have hW2 : Below wr.heap.size wr w2 := ((Below.refl _ _).alloc (Nat.le_refl _) _).trans (hb2.mono (by simp)); have hO2 := own_same hO hW2; have hS2 := own_same hS hW2; have hB2 := hB.trans (hW2.mono hB.size); have l2 := hb2.size; rw [World.size_alloc] at l2; clear hb2; obtain ⟨K2a, K2b, K2c, K2d⟩ := K2; have m0 := K2c 0; have m1 := K2c 1; have m2 := K2c 2; have m3 := K2c 3; clear K2c K2b; simp only [List.getElem?_toArray, List.getElem?_cons_zero, List.getElem?_cons_succ] at m0 m1 m2 m3) | (at_builtin; refine wpList_append_any _ rfl _ _ 26 rfl w.heap.size 36 i0 _ 4 32 Try.underlying26 hi hz0 hz1 hz2 rfl (by decide) ov F1.length _ rfl (hO2.alloc _) (some ⟨w2.heap.size, 0, none⟩) 1 1 (Pk.cells ⟨pn, ps, pz, pa⟩) rfl (pk_rdv _ ⟨pn, ps, pz, pa⟩ (Blk.new w2 36 _)) (pk_cells_one _) (by unfold maxLen; omega) (by omega) (by have := hB2.size; simp; omega) (by simp) ?_; intro v4 w4 hown4 hgrow4 hat4))
        have hB3 := hB2.alloc hB2.size (.cells #[.int .u64 pn, .int .u64 ps, .int .i64 pz, .bool pa] 36)
        have hB4 := hB3.grown hgrow4 hB3.size (fun b hb => (hO2.lt b hb).1)
        have hS4 := own_apart (hS2.alloc _) hgrow4 (apart_comm hA)
        have hA4 := apart_left (w1 := w2.alloc (.cells #[.int .u64 pn, .int .u64 ps, .int .i64 pz, .bool pa] 36)) hA (fun k hk => by have := (hS2.lt k hk).2; simp; omega) hat4
        clear m0 m1 m2 m3 hO hS hO2 hS2 hgrow4 hat4 hB hB2 hB3 hA
        go_roundw
        case rel => exact ⟨_, _, k + 1, rfl, rfl, by omega, by go_num, by rw [T1.out, pkcells_append]; simpa [pkcells] using hown4, by rw [T3.out]; exact hS4, hA4, hB4⟩
        case measure => simp [intOf]; omega
    · have htk : L.take k = L := List.take_of_length_le (by omega)
      rw [htk] at hO hS
      clear htk
      have hb := HBk.out.below hB hgl
      have f0 := hb.frozen 0
      have x0 := hb.cell 0
      have hgr := hb.lt
      have hne := own_blk_ne hO hb (by decide)
      have hne2 := own_blk_ne hS hb (by decide)
      obtain ⟨A2, cp2, rfl, _⟩ := sl_of_own hS
      obtain ⟨A1, cp1, rfl, _⟩ := sl_of_own hO
      go_wp2_with fail
      go_ret
      exact ⟨_, rfl, own_far hO hne _, ⟨hBg, _, hb.set_ 0 _, own_base (own_far hS hne2 _) (by omega)⟩, grown_set (grown_below hB _) _ _⟩

set_option maxHeartbeats 4000000 in
set_option maxRecDepth 100000 in
theorem take_lost (lb nb wb : Nat) (now wait : Int) (B g : Nat) (L : List Pk) (nx ak : Int) (sm : Bool) (w : World) (hl : Led B w g L nx ak sm) (hL : L.length ≤ 100000) (hk : ∀ p ∈ L, PkOk p) (h0 : w.cell? ⟨lb, 0, none⟩ = some (.pointer (some ⟨g, 0, none⟩))) (h1 : w.cell? ⟨nb, 0, none⟩ = some (.int .u64 now)) (h2 : w.cell? ⟨wb, 0, none⟩ = some (.int .u64 wait)) (hn : 0 ≤ now ∧ now ≤ 18446744073709551615) :
    Calls Try.prog 31 #[.pointer (some ⟨g, 0, none⟩), .func (.func 34) #[] #[.pointer (some ⟨lb, 0, none⟩), .pointer (some ⟨nb, 0, none⟩), .pointer (some ⟨wb, 0, none⟩)]] w fun e w' => ∃ v, e = .returned v ∧ w'.ownsRow w.heap.size 36 4 v (L.filter (lostF sm ak now wait)).length (pkcells (L.filter (lostF sm ak now wait))) ∧ Led B w' g (L.filter (fun p => !(lostF sm ak now wait) p)) nx ak sm ∧ w.grownBy w' (some g) := by
  obtain ⟨f, hf⟩ : ∃ f : Pk → Bool, f = lostF sm ak now wait := ⟨_, rfl⟩
  rw [← hf]
  have hcon : ∀ (p : Pk) (wz : World), PkOk p → Below w.heap.size w wz → Calls Try.prog 34 #[p.agg, .pointer (some ⟨lb, 0, none⟩), .pointer (some ⟨nb, 0, none⟩), .pointer (some ⟨wb, 0, none⟩)] wz fun e w' => e = .returned (.bool (f p)) ∧ Below wz.heap.size wz w' := by
    intro p wz hp hz
    rw [hf]
    exact by
      obtain ⟨_, V, hb, _⟩ := hl
      exact c34_any lb nb wb g sm ak now wait p wz hp hn (keepB_cell h0 _ hz) (keepB_cell h1 _ hz) (keepB_cell h2 _ hz) (keepB_cell (hb.cell 2) _ hz) (keepB_cell (hb.cell 3) _ hz)
  clear hf h0 h1 h2 hn
  obtain ⟨i0, hi, hz0, hz1, hz2⟩ := info_parts infoP
  obtain ⟨hBg, V, hb, hown⟩ := hl
  obtain ⟨A, cap, rfl, _, hnc, hcm, hpk⟩ := pks_of_own hown
  have hcm' : cap ≤ 9223372036854775807 := by unfold maxLen at hcm; omega
  clear hcm
  have HP := Lib.hid hpk
  have HBk := Lib.hid hb
  have HK := Lib.hid hk
  clear hpk hk
  have c0 : w.cell? ⟨g, 0, none⟩ = some (.slice A L.length cap) := hb.cell 0
  have hgl := hb.lt
  clear hb hown
  have hfl := fun k => fil_len f L k
  have hgl2 := fun k => fil_len (fun p => !f p) L k
  have HF1 := Lib.hid hfl
  have HF2 := Lib.hid hgl2
  clear hfl hgl2
  go_enter Try.func31, Try.ntmps31
  go_wp2_with fail
  clear c0
  go_loopw [5, 6, 14] (fun s5 s6 i wr => ∃ (ov sv : Value) (k : Nat), ov = s5 ∧ sv = s6 ∧ k ≤ L.length ∧ i = .int .i64 k ∧ wr.ownsRow w.heap.size 36 4 ov ((L.take k).filter f).length (pkcells ((L.take k).filter f)) ∧
      wr.ownsRow w.heap.size 36 4 sv ((L.take k).filter (fun p => !f p)).length (pkcells ((L.take k).filter (fun p => !f p))) ∧ Apart ov sv ∧ Below w.heap.size w wr) (fun _ _ i _ => L.length - (intOf i).toNat)
  case atStart => exact ⟨_, _, 0, rfl, rfl, Nat.zero_le _, rfl, World.ownsRow_nil _ _ _ _, World.ownsRow_nil _ _ _ _, .inl rfl, Below.refl _ _⟩
  case round =>
    obtain ⟨ov, sv, k, rfl, rfl, hkn, rfl, hO, hS, hA, hB⟩ := hrel
    have hn1 := HF1.out k
    have hn2 := HF2.out k
    by_cases hlt : k < L.length
    · obtain ⟨b, off, rfl, hbl, c0, c1, c2, c3⟩ := (HP.out.below hB).2 k hlt
      have T1 := Lib.hid (fil_take f L k hlt)
      have T2 := Lib.hid (fil_take (fun p => !f p) L k hlt)
      obtain ⟨p, hp⟩ : ∃ p, p = L.getD k pk0 := ⟨_, rfl⟩
      have hpo : PkOk p := by
        rw [hp]
        have e : L.getD k pk0 = L[k] := by simp [List.getD, hlt]
        rw [e]
        exact HK.out _ (List.getElem_mem hlt)
      rw [← hp] at c0 c1 c2 c3 T1 T2
      clear hp
      obtain ⟨F1, hF1⟩ : ∃ F1, F1 = (L.take k).filter f := ⟨_, rfl⟩
      obtain ⟨F2, hF2⟩ : ∃ F2, F2 = (L.take k).filter (fun p => !f p) := ⟨_, rfl⟩
      rw [← hF1] at hO T1 hn1
      rw [← hF2] at hS T2 hn2
      clear hF1 hF2
      obtain ⟨pn, ps, pz, pa⟩ := p
      simp only at c0 c1 c2 c3
      obtain ⟨r, hr⟩ : ∃ r, r = f ⟨pn, ps, pz, pa⟩ := ⟨_, rfl⟩
      have hcon2 := fun wz (hz : Below wr.heap.size wr wz) => hcon ⟨pn, ps, pz, pa⟩ wz hpo (hB.trans (hz.mono hB.size))
      rw [← hr] at hcon2 T1
      have T3 : Hid (List.filter (fun p => !f p) (List.take (k + 1) L) = F2 ++ if (!r) = true then [⟨pn, ps, pz, pa⟩] else []) := by rw [hr]; exact T2
      clear hr hpo T2
      have hcon3 := hcon2 (wr.alloc (.cells #[.int .u64 pn, .int .u64 ps, .int .i64 pz, .bool pa] 36)) ((Below.refl _ _).alloc (Nat.le_refl _) _)
      clear hcon2
      unfold Pk.agg at hcon3
      cases r
      · replace T1 : Hid (List.filter f (List.take (k + 1) L) = F1) := Lib.hid (by simpa using T1.out)
        replace T3 : Hid (List.filter (fun p => !f p) (List.take (k + 1) L) = F2 ++ [⟨pn, ps, pz, pa⟩]) := Lib.hid (by simpa using T3.out)
        go_wp2_with (first | (go_at_call 34; refine hcon3.mono ?_; rintro e w2 ⟨rfl, hb2⟩; have K2 := alloc_kept hb2; clear c0 c1 c2 c3; have hW2 : Below wr.heap.size wr w2 := ((Below.refl _ _).alloc (Nat.le_refl _) _).trans (hb2.mono (by simp)); have hO2 := own_same hO hW2; have hS2 := own_same hS hW2; have hB2 := hB.trans (hW2.mono hB.size); have l2 := hb2.size; rw [World.size_alloc] at l2; clear hb2; obtain ⟨K2a, K2b, K2c, K2d⟩ := K2; have m0 := K2c 0; have m1 := K2c 1; have m2 := K2c 2; have m3 := K2c 3; clear K2c K2b; simp only [List.getElem?_toArray, List.getElem?_cons_zero, List.getElem?_cons_succ] at m0 m1 m2 m3) | (at_builtin; refine wpList_append_any _ rfl _ _ 26 rfl w.heap.size 36 i0 _ 4 32 Try.underlying26 hi hz0 hz1 hz2 rfl (by decide) sv F2.length _ rfl (hS2.alloc _) (some ⟨w2.heap.size, 0, none⟩) 1 1 (Pk.cells ⟨pn, ps, pz, pa⟩) rfl (pk_rdv _ ⟨pn, ps, pz, pa⟩ (Blk.new w2 36 _)) (pk_cells_one _) (by unfold maxLen; omega) (by omega) (by have := hB2.size; simp; omega) (by simp) ?_; intro v4 w4 hown4 hgrow4 hat4))
        have hB3 := hB2.alloc hB2.size (.cells #[.int .u64 pn, .int .u64 ps, .int .i64 pz, .bool pa] 36)
        have hB4 := hB3.grown hgrow4 hB3.size (fun b hb => (hS2.lt b hb).1)
        have hO4 := own_apart (hO2.alloc _) hgrow4 hA
        have hA4 := apart_comm (apart_left (w1 := w2.alloc (.cells #[.int .u64 pn, .int .u64 ps, .int .i64 pz, .bool pa] 36)) (apart_comm hA) (fun k hk => by have := (hO2.lt k hk).2; simp; omega) hat4)
        clear m0 m1 m2 m3 hO hS hO2 hS2 hgrow4 hat4 hB hB2 hB3 hA
        go_roundw
        case rel => exact ⟨_, _, k + 1, rfl, rfl, by omega, by go_num, by rw [T1.out]; exact hO4, by rw [T3.out, pkcells_append]; simpa [pkcells] using hown4, hA4, hB4⟩
        case measure => simp [intOf]; omega
      · replace T1 : Hid (List.filter f (List.take (k + 1) L) = F1 ++ [⟨pn, ps, pz, pa⟩]) := Lib.hid (by simpa using T1.out)
        replace T3 : Hid (List.filter (fun p => !f p) (List.take (k + 1) L) = F2) := Lib.hid (by simpa using T3.out)
        go_wp2_with (first | (go_at_call 34; refine hcon3.mono ?_; rintro e w2 ⟨rfl, hb2⟩; have K2 := alloc_kept hb2; clear c0 c1 c2 c3; have hW2 : Below wr.heap.size wr w2 := ((Below.refl _ _).alloc (Nat.le_refl _) _).trans (hb2.mono (by simp)); have hO2 := own_same hO hW2; have hS2 := own_same hS hW2; have hB2 := hB.trans (hW2.mono hB.size); have l2 := hb2.size; rw [World.size_alloc] at l2; clear hb2; obtain ⟨K2a, K2b, K2c, K2d⟩ := K2; have m0 := K2c 0; have m1 := K2c 1; have m2 := K2c 2; have m3 := K2c 3; clear K2c K2b; simp only [List.getElem?_toArray, List.getElem?_cons_zero, List.getElem?_cons_succ] at m0 m1 m2 m3) | (at_builtin; refine wpList_append_any _ rfl _ _ 26 rfl w.heap.size 36 i0 _ 4 32 Try.underlying26 hi hz0 hz1 hz2 rfl (by decide) ov F1.length _ rfl (hO2.alloc _) (some ⟨w2.heap.size, 0, none⟩) 1 1 (Pk.cells ⟨pn, ps, pz, pa⟩) rfl (pk_rdv _ ⟨pn, ps, pz, pa⟩ (Blk.new w2 36 _)) (pk_cells_one _) (by unfold maxLen; omega) (by omega) (by have := hB2.size; simp; omega) (by simp) ?_; intro v4 w4 hown4 hgrow4 hat4))
        have hB3 := hB2.alloc hB2.size (.cells #[.int .u64 pn, .int .u64 ps, .int .i64 pz, .bool pa] 36)
        have hB4 := hB3.grown hgrow4 hB3.size (fun b hb => (hO2.lt b hb).1)
        have hS4 := own_apart (hS2.alloc _) hgrow4 (apart_comm hA)
        have hA4 := apart_left (w1 := w2.alloc (.cells #[.int .u64 pn, .int .u64 ps, .int .i64 pz, .bool pa] 36)) hA (fun k hk => by have := (hS2.lt k hk).2; simp; omega) hat4
        clear m0 m1 m2 m3 hO hS hO2 hS2 hgrow4 hat4 hB hB2 hB3 hA
        go_roundw
        case rel => exact ⟨_, _, k + 1, rfl, rfl, by omega, by go_num, by rw [T1.out, pkcells_append]; simpa [pkcells] using hown4, by rw [T3.out]; exact hS4, hA4, hB4⟩
        case measure => simp [intOf]; omega
    · have htk : L.take k = L := List.take_of_length_le (by omega)
      rw [htk] at hO hS
      clear htk
      have hb := HBk.out.below hB hgl
      have f0 := hb.frozen 0
      have x0 := hb.cell 0
      have hgr := hb.lt
      have hne := own_blk_ne hO hb (by decide)
      have hne2 := own_blk_ne hS hb (by decide)
      obtain ⟨A2, cp2, rfl, _⟩ := sl_of_own hS
      obtain ⟨A1, cp1, rfl, _⟩ := sl_of_own hO
      go_wp2_with fail
      go_ret
      exact ⟨_, rfl, own_far hO hne _, ⟨hBg, _, hb.set_ 0 _, own_base (own_far hS hne2 _) (by omega)⟩, grown_set (grown_below hB _) _ _⟩

set_option maxHeartbeats 4000000 in
set_option maxRecDepth 100000 in
theorem take_clear  (B g : Nat) (L : List Pk) (nx ak : Int) (sm : Bool) (w : World) (hl : Led B w g L nx ak sm) (hL : L.length ≤ 100000) (hk : ∀ p ∈ L, PkOk p)  :
    Calls Try.prog 31 #[.pointer (some ⟨g, 0, none⟩), .func (.func 37) #[] #[]] w fun e w' => ∃ v, e = .returned v ∧ w'.ownsRow w.heap.size 36 4 v (L.filter (fun _ => true)).length (pkcells (L.filter (fun _ => true))) ∧ Led B w' g (L.filter (fun p => !(fun _ => true) p)) nx ak sm ∧ w.grownBy w' (some g) := by
  obtain ⟨f, hf⟩ : ∃ f : Pk → Bool, f = fun _ => true := ⟨_, rfl⟩
  rw [← hf]
  have hcon : ∀ (p : Pk) (wz : World), PkOk p → Below w.heap.size w wz → Calls Try.prog 37 #[p.agg] wz fun e w' => e = .returned (.bool (f p)) ∧ Below wz.heap.size wz w' := by
    intro p wz hp hz
    rw [hf]
    exact c37_any p wz
  clear hf 
  obtain ⟨i0, hi, hz0, hz1, hz2⟩ := info_parts infoP
  obtain ⟨hBg, V, hb, hown⟩ := hl
  obtain ⟨A, cap, rfl, _, hnc, hcm, hpk⟩ := pks_of_own hown
  have hcm' : cap ≤ 9223372036854775807 := by unfold maxLen at hcm; omega
  clear hcm
  have HP := Lib.hid hpk
  have HBk := Lib.hid hb
  have HK := Lib.hid hk
  clear hpk hk
  have c0 : w.cell? ⟨g, 0, none⟩ = some (.slice A L.length cap) := hb.cell 0
  have hgl := hb.lt
  clear hb hown
  have hfl := fun k => fil_len f L k
  have hgl2 := fun k => fil_len (fun p => !f p) L k
  have HF1 := Lib.hid hfl
  have HF2 := Lib.hid hgl2
  clear hfl hgl2
  go_enter Try.func31, Try.ntmps31
  go_wp2_with fail
  clear c0
  go_loopw [5, 6, 14] (fun s5 s6 i wr => ∃ (ov sv : Value) (k : Nat), ov = s5 ∧ sv = s6 ∧ k ≤ L.length ∧ i = .int .i64 k ∧ wr.ownsRow w.heap.size 36 4 ov ((L.take k).filter f).length (pkcells ((L.take k).filter f)) ∧
      wr.ownsRow w.heap.size 36 4 sv ((L.take k).filter (fun p => !f p)).length (pkcells ((L.take k).filter (fun p => !f p))) ∧ Apart ov sv ∧ Below w.heap.size w wr) (fun _ _ i _ => L.length - (intOf i).toNat)
  case atStart => exact ⟨_, _, 0, rfl, rfl, Nat.zero_le _, rfl, World.ownsRow_nil _ _ _ _, World.ownsRow_nil _ _ _ _, .inl rfl, Below.refl _ _⟩
  case round =>
    obtain ⟨ov, sv, k, rfl, rfl, hkn, rfl, hO, hS, hA, hB⟩ := hrel
    have hn1 := HF1.out k
    have hn2 := HF2.out k
    by_cases hlt : k < L.length
    · obtain ⟨b, off, rfl, hbl, c0, c1, c2, c3⟩ := (HP.out.below hB).2 k hlt
      have T1 := Lib.hid (fil_take f L k hlt)
      have T2 := Lib.hid (fil_take (fun p => !f p) L k hlt)
      obtain ⟨p, hp⟩ : ∃ p, p = L.getD k pk0 := ⟨_, rfl⟩
      have hpo : PkOk p := by
        rw [hp]
        have e : L.getD k pk0 = L[k] := by simp [List.getD, hlt]
        rw [e]
        exact HK.out _ (List.getElem_mem hlt)
      rw [← hp] at c0 c1 c2 c3 T1 T2
      clear hp
      obtain ⟨F1, hF1⟩ : ∃ F1, F1 = (L.take k).filter f := ⟨_, rfl⟩
      obtain ⟨F2, hF2⟩ : ∃ F2, F2 = (L.take k).filter (fun p => !f p) := ⟨_, rfl⟩
      rw [← hF1] at hO T1 hn1
      rw [← hF2] at hS T2 hn2
      clear hF1 hF2
      obtain ⟨pn, ps, pz, pa⟩ := p
      simp only at c0 c1 c2 c3
      obtain ⟨r, hr⟩ : ∃ r, r = f ⟨pn, ps, pz, pa⟩ := ⟨_, rfl⟩
      have hcon2 := fun wz (hz : Below wr.heap.size wr wz) => hcon ⟨pn, ps, pz, pa⟩ wz hpo (hB.trans (hz.mono hB.size))
      rw [← hr] at hcon2 T1
      have T3 : Hid (List.filter (fun p => !f p) (List.take (k + 1) L) = F2 ++ if (!r) = true then [⟨pn, ps, pz, pa⟩] else []) := by rw [hr]; exact T2
      clear hr hpo T2
      have hcon3 := hcon2 (wr.alloc (.cells #[.int .u64 pn, .int .u64 ps, .int .i64 pz, .bool pa] 36)) ((Below.refl _ _).alloc (Nat.le_refl _) _)
      clear hcon2
      unfold Pk.agg at hcon3
      cases r
      · replace T1 : Hid (List.filter f (List.take (k + 1) L) = F1) := Lib.hid (by simpa using T1.out)
        replace T3 : Hid (List.filter (fun p => !f p) (List.take (k + 1) L) = F2 ++ [⟨pn, ps, pz, pa⟩]) := Lib.hid (by simpa using T3.out)
        go_wp2_with (first | (go_at_call 37; refine hcon3.mono ?_; rintro e w2 ⟨rfl, hb2⟩; have K2 := alloc_kept hb2; clear c0 c1 c2 c3; have hW2 : Below wr.heap.size wr w2 := ((Below.refl _ _).alloc (Nat.le_refl _) _).trans (hb2.mono (by simp)); have hO2 := own_same hO hW2; have hS2 := own_same hS hW2; have hB2 := hB.trans (hW2.mono hB.size); have l2 := hb2.size; rw [World.size_alloc] at l2; clear hb2; obtain ⟨K2a, K2b, K2c, K2d⟩ := K2; have m0 := K2c 0; have m1 := K2c 1; have m2 := K2c 2; have m3 := K2c 3; clear K2c K2b; simp only [List.getElem?_toArray, List.getElem?_cons_zero, List.getElem?_cons_succ] at m0 m1 m2 m3) | (at_builtin; refine wpList_append_any _ rfl _ _ 26 rfl w.heap.size 36 i0 _ 4 32 Try.underlying26 hi hz0 hz1 hz2 rfl (by decide) sv F2.length _ rfl (hS2.alloc _) (some ⟨w2.heap.size, 0, none⟩) 1 1 (Pk.cells ⟨pn, ps, pz, pa⟩) rfl (pk_rdv _ ⟨pn, ps, pz, pa⟩ (Blk.new w2 36 _)) (pk_cells_one _) (by unfold maxLen; omega) (by omega) (by have := hB2.size; simp; omega) (by simp) ?_; intro v4 w4 hown4 hgrow4 hat4))
        have hB3 := hB2.alloc hB2.size (.cells #[.int .u64 pn, .int .u64 ps, .int .i64 pz, .bool pa] 36)
        have hB4 := hB3.grown hgrow4 hB3.size (fun b hb => (hS2.lt b hb).1)
        have hO4 := own_apart (hO2.alloc _) hgrow4 hA
        have hA4 := apart_comm (apart_left (w1 := w2.alloc (.cells #[.int .u64 pn, .int .u64 ps, .int .i64 pz, .bool pa] 36)) (apart_comm hA) (fun k hk => by have := (hO2.lt k hk).2; simp; omega) hat4)
        clear m0 m1 m2 m3 hO hS hO2 hS2 hgrow4 hat4 hB hB2 hB3 hA
        go_roundw
        case rel => exact ⟨_, _, k + 1, rfl, rfl, by omega, by go_num, by rw [T1.out]; exact hO4, by rw [T3.out, pkcells_append]; simpa [pkcells] using hown4, hA4, hB4⟩
        case measure => simp [intOf]; omega
      · replace T1 : Hid (List.filter f (List.take (k + 1) L) = F1 ++ [⟨pn, ps, pz, pa⟩]) := Lib.hid (by simpa using T1.out)
        replace T3 : Hid (List.filter (fun p => !f p) (List.take (k + 1) L) = F2) := Lib.hid (by simpa using T3.out)
        go_wp2_with (first | (go_at_call 37; refine hcon3.mono ?_; rintro e w2 ⟨rfl, hb2⟩; have K2 := alloc_kept hb2; clear c0 c1 c2 c3; have hW2 : Below wr.heap.size wr w2 := ((Below.refl _ _).alloc (Nat.le_refl _) _).trans (hb2.mono (by simp)); have hO2 := own_same hO hW2; have hS2 := own_same hS hW2; have hB2 := hB.trans (hW2.mono hB.size); have l2 := hb2.size; rw [World.size_alloc] at l2; clear hb2; obtain ⟨K2a, K2b, K2c, K2d⟩ := K2; have m0 := K2c 0; have m1 := K2c 1; have m2 := K2c 2; have m3 := K2c 3; clear K2c K2b; simp only [List.getElem?_toArray, List.getElem?_cons_zero, List.getElem?_cons_succ] at m0 m1 m2 m3) | (at_builtin; refine wpList_append_any _ rfl _ _ 26 rfl w.heap.size 36 i0 _ 4 32 Try.underlying26 hi hz0 hz1 hz2 rfl (by decide) ov F1.length _ rfl (hO2.alloc _) (some ⟨w2.heap.size, 0, none⟩) 1 1 (Pk.cells ⟨pn, ps, pz, pa⟩) rfl (pk_rdv _ ⟨pn, ps, pz, pa⟩ (Blk.new w2 36 _)) (pk_cells_one _) (by unfold maxLen; omega) (by omega) (by have := hB2.size; simp; omega) (by simp) ?_; intro v4 w4 hown4 hgrow4 hat4))
        have hB3 := hB2.alloc hB2.size (.cells #[.int .u64 pn, .int .u64 ps, .int .i64 pz, .bool pa] 36)
        have hB4 := hB3.grown hgrow4 hB3.size (fun b hb => (hO2.lt b hb).1)
        have hS4 := own_apart (hS2.alloc _) hgrow4 (apart_comm hA)
        have hA4 := apart_left (w1 := w2.alloc (.cells #[.int .u64 pn, .int .u64 ps, .int .i64 pz, .bool pa] 36)) hA (fun k hk => by have := (hS2.lt k hk).2; simp; omega) hat4
        clear m0 m1 m2 m3 hO hS hO2 hS2 hgrow4 hat4 hB hB2 hB3 hA
        go_roundw
        case rel => exact ⟨_, _, k + 1, rfl, rfl, by omega, by go_num, by rw [T1.out, pkcells_append]; simpa [pkcells] using hown4, by rw [T3.out]; exact hS4, hA4, hB4⟩
        case measure => simp [intOf]; omega
    · have htk : L.take k = L := List.take_of_length_le (by omega)
      rw [htk] at hO hS
      clear htk
      have hb := HBk.out.below hB hgl
      have f0 := hb.frozen 0
      have x0 := hb.cell 0
      have hgr := hb.lt
      have hne := own_blk_ne hO hb (by decide)
      have hne2 := own_blk_ne hS hb (by decide)
      obtain ⟨A2, cp2, rfl, _⟩ := sl_of_own hS
      obtain ⟨A1, cp1, rfl, _⟩ := sl_of_own hO
      go_wp2_with fail
      go_ret
      exact ⟨_, rfl, own_far hO hne _, ⟨hBg, _, hb.set_ 0 _, own_base (own_far hS hne2 _) (by omega)⟩, grown_set (grown_below hB _) _ _⟩

end Go.Proofs.Ytohjifbkjfnkfaa
