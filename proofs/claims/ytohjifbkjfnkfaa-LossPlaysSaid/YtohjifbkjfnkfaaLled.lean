/-
  Packets, ranges, a ledger; the closures that ask of a range.
-/
import Derived.Test.YtohjifbkjfnkfaaOpen
namespace Go.Proofs.Ytohjifbkjfnkfaa
open Go.RowKit
set_option linter.unusedVariables false
set_option linter.unusedSimpArgs false


/-- A packet. -/
structure Pk where
  num : Int
  sent : Int
  size : Int
  asks : Bool
def Pk.cells (p : Pk) : List Value := [.int .u64 p.num, .int .u64 p.sent, .int .i64 p.size, .bool p.asks]
def Pk.agg (p : Pk) : Value := .agg #[.int .u64 p.num, .int .u64 p.sent, .int .i64 p.size, .bool p.asks]
def PkOk (p : Pk) : Prop := (0 ≤ p.num ∧ p.num ≤ 4611686018427387903) ∧ (0 ≤ p.sent ∧ p.sent ≤ 4611686018427387903) ∧ (0 ≤ p.size ∧ p.size ≤ 9223372036854775807)
def pkcells (L : List Pk) : List Value := L.flatMap Pk.cells
def pk0 : Pk := ⟨0, 0, 0, false⟩
theorem pkcells_len (L : List Pk) : (pkcells L).length = L.length * 4 := by
  induction L with
  | nil => rfl
  | cons p r ih => simp only [pkcells, List.flatMap_cons, List.length_append, List.length_cons] at ih ⊢; rw [ih]; simp [Pk.cells]; omega
theorem pkcells_at (L : List Pk) (k j : Nat) (hk : k < L.length) (hj : j < 4) : (pkcells L).getD (k * 4 + j) undef = (L.getD k pk0).cells.getD j undef := by
  induction L generalizing k with
  | nil => simp at hk
  | cons p r ih =>
    have hl : p.cells.length = 4 := rfl
    cases k with
    | zero => simp [pkcells, List.flatMap_cons, List.getD, List.getElem?_append_left (show j < p.cells.length by omega)]
    | succ k =>
      have := ih k (by simpa using hk)
      simp only [pkcells] at this
      simp only [pkcells, List.flatMap_cons, List.getD, List.getElem?_append_right (show p.cells.length ≤ (k + 1) * 4 + j by omega), hl]
      rw [show (k + 1) * 4 + j - 4 = k * 4 + j by omega]
      simpa [List.getD] using this
theorem pkcells_append (A B : List Pk) : pkcells (A ++ B) = pkcells A ++ pkcells B := by simp [pkcells]
/-- A slice of packets that reads as a list. -/
def Pks (w : World) (A : Option Addr) (n : Nat) (L : List Pk) : Prop :=
  L.length = n ∧ ∀ k, k < n → ∃ b off, A = some ⟨b, off, none⟩ ∧ b < w.heap.size ∧ w.cell? ⟨b, off + k * 4, none⟩ = some (.int .u64 (L.getD k pk0).num) ∧ w.cell? ⟨b, off + k * 4 + 1, none⟩ = some (.int .u64 (L.getD k pk0).sent) ∧
    w.cell? ⟨b, off + k * 4 + 2, none⟩ = some (.int .i64 (L.getD k pk0).size) ∧ w.cell? ⟨b, off + k * 4 + 3, none⟩ = some (.bool (L.getD k pk0).asks)
theorem Pks.below {w w' : World} {A : Option Addr} {n : Nat} {L : List Pk} (h : Pks w A n L) (hb : Below w.heap.size w w') : Pks w' A n L :=
  ⟨h.1, fun k hk => by
    obtain ⟨b, off, e, hlt, h0, h1, h2, h3⟩ := h.2 k hk
    exact ⟨b, off, e, Nat.lt_of_lt_of_le hlt hb.size, (hb.cell (p := ⟨b, _, none⟩) hlt).trans h0, (hb.cell (p := ⟨b, _, none⟩) hlt).trans h1, (hb.cell (p := ⟨b, _, none⟩) hlt).trans h2, (hb.cell (p := ⟨b, _, none⟩) hlt).trans h3⟩⟩
theorem pks_of_own {w : World} {base n : Nat} {v : Value} {L : List Pk} (h : w.ownsRow base 36 4 v n (pkcells L)) : ∃ A cap, v = .slice A L.length cap ∧ n = L.length ∧ L.length ≤ cap ∧ cap ≤ maxLen ∧ Pks w A L.length L := by
  have hn : n = L.length := by have := h.1; rw [pkcells_len] at this; omega
  subst hn
  obtain ⟨A, cap, e, h1, h2, h3⟩ := sl_of_own h
  refine ⟨A, cap, e, rfl, h1, h2, rfl, fun k hk => ?_⟩
  obtain ⟨b, off, ea, hb, hc⟩ := h3 k hk
  have key : ∀ j, j < 4 → w.cell? ⟨b, off + (k * 4 + j), none⟩ = some ((L.getD k pk0).cells.getD j undef) := fun j hj => (hc j hj).trans (congrArg some (pkcells_at L k j hk hj))
  exact ⟨b, off, ea, hb, by simpa [Pk.cells] using key 0 (by decide), by simpa [Pk.cells, Nat.add_assoc] using key 1 (by decide), by simpa [Pk.cells, Nat.add_assoc] using key 2 (by decide), by simpa [Pk.cells, Nat.add_assoc] using key 3 (by decide)⟩
/-- Ranges: pairs of numbers. -/
def PairsOk (L : List (Int × Int)) : Prop := ∀ p ∈ L, (0 ≤ p.1 ∧ p.1 ≤ 18446744073709551615) ∧ (0 ≤ p.2 ∧ p.2 ≤ 18446744073709551615)
def Pairs (w : World) (A : Option Addr) (n : Nat) (L : List (Int × Int)) : Prop :=
  L.length = n ∧ ∀ k, k < n → ∃ b off, A = some ⟨b, off, none⟩ ∧ b < w.heap.size ∧ w.cell? ⟨b, off + k * 2, none⟩ = some (.int .u64 (L.getD k (0, 0)).1) ∧ w.cell? ⟨b, off + k * 2 + 1, none⟩ = some (.int .u64 (L.getD k (0, 0)).2)
theorem Pairs.below {w w' : World} {A : Option Addr} {n : Nat} {L : List (Int × Int)} (h : Pairs w A n L) (hb : Below w.heap.size w w') : Pairs w' A n L :=
  ⟨h.1, fun k hk => by
    obtain ⟨b, off, e, hlt, h0, h1⟩ := h.2 k hk
    exact ⟨b, off, e, Nat.lt_of_lt_of_le hlt hb.size, (hb.cell (p := ⟨b, _, none⟩) hlt).trans h0, (hb.cell (p := ⟨b, _, none⟩) hlt).trans h1⟩⟩
/-- A range's place in a list: the first that a test takes. -/
def ixOf {α : Type} (f : α → Bool) (L : List α) : Int := match L.findIdx? f with | some i => i | none => -1
theorem ix_none {α : Type} (f : α → Bool) (L : List α) (d : α) (h : ∀ j, j < L.length → f (L.getD j d) = false) : ixOf f L = -1 ∧ L.any f = false := by
  have hall : ∀ x ∈ L, f x = false := fun x hx => by
    obtain ⟨i, hi, rfl⟩ := List.getElem_of_mem hx
    have := h i hi
    simpa [List.getD, hi] using this
  constructor
  · unfold ixOf
    rw [List.findIdx?_eq_none_iff.2 hall]
  · simpa using hall
theorem ix_some {α : Type} (f : α → Bool) (L : List α) (d : α) (k : Nat) (hk : k < L.length) (h : ∀ j, j < k → f (L.getD j d) = false) (h1 : f (L.getD k d) = true) : ixOf f L = k ∧ L.any f = true := by
  have hd : ∀ j (hj : j < L.length), L.getD j d = L[j] := fun j hj => by simp [List.getD, hj]
  constructor
  · unfold ixOf
    rw [show L.findIdx? f = some k from List.findIdx?_eq_some_iff_getElem.2 ⟨hk, by rw [← hd k hk]; exact h1, fun j hj => by rw [← hd j (by omega), h j hj]; simp⟩]
  · rw [List.any_eq_true]
    exact ⟨L[k], List.getElem_mem hk, by rw [← hd k hk]; exact h1⟩
set_option maxRecDepth 100000 in
theorem c29_any (a b : Int) (w : World) : Calls Try.prog 29 #[.agg #[.int .u64 a, .int .u64 b]] w fun e w' => e = .returned (.bool (decide (b < a))) ∧ Below w.heap.size w w' := by
  have hB := (Below.refl w.heap.size w).alloc (Nat.le_refl _) (.cells #[.int .u64 a, .int .u64 b] 31)
  go_enter Try.func29, Try.ntmps29
  go_wp2_with fail
  go_ret
  exact ⟨rfl, hB⟩
set_option maxRecDepth 100000 in
theorem c30_any (lb g : Nat) (nx a b : Int) (w : World) (h0 : w.cell? ⟨lb, 0, none⟩ = some (.pointer (some ⟨g, 0, none⟩))) (h1 : w.cell? ⟨g, 1, none⟩ = some (.int .u64 nx)) :
    Calls Try.prog 30 #[.agg #[.int .u64 a, .int .u64 b], .pointer (some ⟨lb, 0, none⟩)] w fun e w' => e = .returned (.bool (decide (nx ≤ b))) ∧ Below w.heap.size w w' := by
  have hB := (Below.refl w.heap.size w).alloc (Nat.le_refl _) (.cells #[.int .u64 a, .int .u64 b] 31)
  have l0 := World.block_lt_of_cell? _ _ h0
  have l1 := World.block_lt_of_cell? _ _ h1
  have k0 := (keepB_cell h0 _ hB)
  have k1 := (keepB_cell h1 _ hB)
  clear h0 h1
  go_enter Try.func30, Try.ntmps30
  go_wp2_with fail
  go_quiet (fail)
  go_wp2_with fail
  go_ret
  exact ⟨rfl, below_drewN hB _⟩
set_option maxRecDepth 100000 in
theorem c33_any (pb : Nat) (n a b : Int) (w : World) (h0 : w.cell? ⟨pb, 0, none⟩ = some (.int .u64 n)) :
    Calls Try.prog 33 #[.agg #[.int .u64 a, .int .u64 b], .pointer (some ⟨pb, 0, none⟩)] w fun e w' => e = .returned (.bool (decide (a ≤ n) && decide (n ≤ b))) ∧ Below w.heap.size w w' := by
  have hB := (Below.refl w.heap.size w).alloc (Nat.le_refl _) (.cells #[.int .u64 a, .int .u64 b] 31)
  have l0 := World.block_lt_of_cell? _ _ h0
  have k0 := (keepB_cell h0 _ hB)
  clear h0
  by_cases h1 : a ≤ n
  · have h1' : decide (a ≤ n) = true := by simpa using h1
    go_enter Try.func33, Try.ntmps33
    go_wp2_with fail
    go_ret
    exact ⟨by simp [h1], hB⟩
  · have h1' : decide (a ≤ n) = false := by simpa using h1
    go_enter Try.func33, Try.ntmps33
    go_wp2_with fail
    go_ret
    exact ⟨by simp [h1], hB⟩

set_option maxRecDepth 100000 in
theorem ix_bad  (A : Option Addr) (n cap : Nat) (L : List (Int × Int)) (w : World) (hp : Pairs w A n L) (hnc : n ≤ cap) (hcm : cap ≤ maxLen)  :
    Calls Try.prog 40 #[.slice A n cap, .func (.func 29) #[] #[]] w fun e w' => e = .returned (.int .i64 (ixOf (fun x => decide (x.2 < x.1)) L)) ∧ Below w.heap.size w w' := by
  have hcm' : cap ≤ 9223372036854775807 := by unfold maxLen at hcm; omega
  clear hcm
  have HP := Lib.hid hp
  have hlen := hp.1
  clear hp
  go_enter Try.func40, Try.ntmps40
  go_wp2_with fail
  go_loopw [8] (fun i wr => ∃ (k : Nat), k ≤ n ∧ i = .int .i64 k ∧ (∀ j, j < k → (fun x : Int × Int => decide (x.2 < x.1)) (L.getD j (0, 0)) = false) ∧ Below w.heap.size w wr) (fun i _ => n - (intOf i).toNat)
  case atStart => exact ⟨0, Nat.zero_le _, rfl, fun j hj => absurd hj (by omega), Below.refl _ _⟩
  case round =>
    obtain ⟨k, hkn, rfl, hall, hB⟩ := hrel
    have hHA := Lib.hid hall
    clear hall
    by_cases hlt : k < n
    · obtain ⟨b, off, rfl, hb, d0, d1⟩ := (HP.out.below hB).2 k hlt
      obtain ⟨x, hx⟩ : ∃ x, x = L.getD k (0, 0) := ⟨_, rfl⟩
      rw [← hx] at d0 d1
      have HX := Lib.hid hx
      clear hx
      obtain ⟨a, b'⟩ := x
      simp only at d0 d1
      obtain ⟨r, hr⟩ : ∃ r, r = (fun x : Int × Int => decide (x.2 < x.1)) (a, b') := ⟨_, rfl⟩
      have HR := Lib.hid hr
      simp only at hr
      have hcon := fun wz (hz : Below wr.heap.size wr wz) => c29_any a b' wz
      rw [← hr] at hcon
      clear hr
      go_wp2_with (go_at_call 29; refine (hcon _ (Below.refl _ _)).mono ?_; rintro e w2 ⟨rfl, hb2⟩)
      all_goals have hB2 := hB.trans (hb2.mono hB.size)
      · go_ret
        exact ⟨by rw [(ix_some (fun x : Int × Int => decide (x.2 < x.1)) L (0, 0) k (by omega) hHA.out (by rw [← HX.out, ← HR.out]; assumption)).1]; rfl, hB2⟩
      · go_roundw
        case rel => exact ⟨k + 1, by omega, by go_num, fun j hj => (by
          by_cases hjk : j < k
          · exact hHA.out j hjk
          · obtain rfl : j = k := by omega
            rw [← HX.out, ← HR.out]; assumption), hB2⟩
        case measure => simp [intOf]; omega
    · go_wp2_with fail
      go_ret
      exact ⟨by rw [(ix_none (fun x : Int × Int => decide (x.2 < x.1)) L (0, 0) (fun j hj => hHA.out j (by omega))).1]; rfl, hB⟩
theorem any_ix_bad  (L : List (Int × Int)) : decide (0 ≤ ixOf (fun x => decide (x.2 < x.1)) L) = L.any (fun x => decide (x.2 < x.1)) := by
  unfold ixOf
  rcases h : L.findIdx? (fun x => decide (x.2 < x.1)) with _ | i
  · have := List.findIdx?_eq_none_iff.1 h
    rw [show L.any (fun x => decide (x.2 < x.1)) = false by simpa using this, h]
    rfl
  · obtain ⟨hi, h1, _⟩ := List.findIdx?_eq_some_iff_getElem.1 h
    rw [show L.any (fun x => decide (x.2 < x.1)) = true from List.any_eq_true.2 ⟨_, List.getElem_mem hi, h1⟩, h]
    simp
set_option maxRecDepth 100000 in
theorem any_bad  (A : Option Addr) (n cap : Nat) (L : List (Int × Int)) (w : World) (hp : Pairs w A n L) (hnc : n ≤ cap) (hcm : cap ≤ maxLen)  :
    Calls Try.prog 28 #[.slice A n cap, .func (.func 29) #[] #[]] w fun e w' => e = .returned (.bool (L.any (fun x => decide (x.2 < x.1)))) ∧ Below w.heap.size w w' := by
  go_enter Try.func28, Try.ntmps28
  go_wp2_with fail
  refine (ix_bad  A n cap L w hp hnc hcm ).mono ?_
  rintro e w1 ⟨rfl, hB⟩
  have hE := any_ix_bad  L
  generalize ixOf (fun x => decide (x.2 < x.1)) L = r at hE ⊢
  generalize HQ : L.any (fun x => decide (x.2 < x.1)) = q at hE
  have HQ' := Lib.hid HQ
  clear HQ
  go_wp2_with fail
  go_ret
  exact ⟨by rw [HQ'.out]; rfl, hB⟩

set_option maxRecDepth 100000 in
theorem ix_far (lb g : Nat) (nx : Int) (A : Option Addr) (n cap : Nat) (L : List (Int × Int)) (w : World) (hp : Pairs w A n L) (hnc : n ≤ cap) (hcm : cap ≤ maxLen) (h0 : w.cell? ⟨lb, 0, none⟩ = some (.pointer (some ⟨g, 0, none⟩))) (h1 : w.cell? ⟨g, 1, none⟩ = some (.int .u64 nx)) :
    Calls Try.prog 40 #[.slice A n cap, .func (.func 30) #[] #[.pointer (some ⟨lb, 0, none⟩)]] w fun e w' => e = .returned (.int .i64 (ixOf (fun x => decide (nx ≤ x.2)) L)) ∧ Below w.heap.size w w' := by
  have hcm' : cap ≤ 9223372036854775807 := by unfold maxLen at hcm; omega
  clear hcm
  have HP := Lib.hid hp
  have hlen := hp.1
  clear hp
  go_enter Try.func40, Try.ntmps40
  go_wp2_with fail
  go_loopw [8] (fun i wr => ∃ (k : Nat), k ≤ n ∧ i = .int .i64 k ∧ (∀ j, j < k → (fun x : Int × Int => decide (nx ≤ x.2)) (L.getD j (0, 0)) = false) ∧ Below w.heap.size w wr) (fun i _ => n - (intOf i).toNat)
  case atStart => exact ⟨0, Nat.zero_le _, rfl, fun j hj => absurd hj (by omega), Below.refl _ _⟩
  case round =>
    obtain ⟨k, hkn, rfl, hall, hB⟩ := hrel
    have hHA := Lib.hid hall
    clear hall
    by_cases hlt : k < n
    · obtain ⟨b, off, rfl, hb, d0, d1⟩ := (HP.out.below hB).2 k hlt
      obtain ⟨x, hx⟩ : ∃ x, x = L.getD k (0, 0) := ⟨_, rfl⟩
      rw [← hx] at d0 d1
      have HX := Lib.hid hx
      clear hx
      obtain ⟨a, b'⟩ := x
      simp only at d0 d1
      obtain ⟨r, hr⟩ : ∃ r, r = (fun x : Int × Int => decide (nx ≤ x.2)) (a, b') := ⟨_, rfl⟩
      have HR := Lib.hid hr
      simp only at hr
      have hcon := fun wz (hz : Below wr.heap.size wr wz) => c30_any lb g nx a b' wz (keepB_cell h0 _ (hB.trans (hz.mono hB.size))) (keepB_cell h1 _ (hB.trans (hz.mono hB.size)))
      rw [← hr] at hcon
      clear hr
      go_wp2_with (go_at_call 30; refine (hcon _ (Below.refl _ _)).mono ?_; rintro e w2 ⟨rfl, hb2⟩)
      all_goals have hB2 := hB.trans (hb2.mono hB.size)
      · go_ret
        exact ⟨by rw [(ix_some (fun x : Int × Int => decide (nx ≤ x.2)) L (0, 0) k (by omega) hHA.out (by rw [← HX.out, ← HR.out]; assumption)).1]; rfl, hB2⟩
      · go_roundw
        case rel => exact ⟨k + 1, by omega, by go_num, fun j hj => (by
          by_cases hjk : j < k
          · exact hHA.out j hjk
          · obtain rfl : j = k := by omega
            rw [← HX.out, ← HR.out]; assumption), hB2⟩
        case measure => simp [intOf]; omega
    · go_wp2_with fail
      go_ret
      exact ⟨by rw [(ix_none (fun x : Int × Int => decide (nx ≤ x.2)) L (0, 0) (fun j hj => hHA.out j (by omega))).1]; rfl, hB⟩
theorem any_ix_far (lb g : Nat) (nx : Int) (L : List (Int × Int)) : decide (0 ≤ ixOf (fun x => decide (nx ≤ x.2)) L) = L.any (fun x => decide (nx ≤ x.2)) := by
  unfold ixOf
  rcases h : L.findIdx? (fun x => decide (nx ≤ x.2)) with _ | i
  · have := List.findIdx?_eq_none_iff.1 h
    rw [show L.any (fun x => decide (nx ≤ x.2)) = false by simpa using this, h]
    rfl
  · obtain ⟨hi, h1, _⟩ := List.findIdx?_eq_some_iff_getElem.1 h
    rw [show L.any (fun x => decide (nx ≤ x.2)) = true from List.any_eq_true.2 ⟨_, List.getElem_mem hi, h1⟩, h]
    simp
set_option maxRecDepth 100000 in
theorem any_far (lb g : Nat) (nx : Int) (A : Option Addr) (n cap : Nat) (L : List (Int × Int)) (w : World) (hp : Pairs w A n L) (hnc : n ≤ cap) (hcm : cap ≤ maxLen) (h0 : w.cell? ⟨lb, 0, none⟩ = some (.pointer (some ⟨g, 0, none⟩))) (h1 : w.cell? ⟨g, 1, none⟩ = some (.int .u64 nx)) :
    Calls Try.prog 28 #[.slice A n cap, .func (.func 30) #[] #[.pointer (some ⟨lb, 0, none⟩)]] w fun e w' => e = .returned (.bool (L.any (fun x => decide (nx ≤ x.2)))) ∧ Below w.heap.size w w' := by
  go_enter Try.func28, Try.ntmps28
  go_wp2_with fail
  refine (ix_far lb g nx A n cap L w hp hnc hcm h0 h1).mono ?_
  rintro e w1 ⟨rfl, hB⟩
  have hE := any_ix_far lb g nx L
  generalize ixOf (fun x => decide (nx ≤ x.2)) L = r at hE ⊢
  generalize HQ : L.any (fun x => decide (nx ≤ x.2)) = q at hE
  have HQ' := Lib.hid HQ
  clear HQ
  go_wp2_with fail
  go_ret
  exact ⟨by rw [HQ'.out]; rfl, hB⟩

set_option maxRecDepth 100000 in
theorem ix_within (pb : Nat) (pn : Int) (A : Option Addr) (n cap : Nat) (L : List (Int × Int)) (w : World) (hp : Pairs w A n L) (hnc : n ≤ cap) (hcm : cap ≤ maxLen) (h0 : w.cell? ⟨pb, 0, none⟩ = some (.int .u64 pn)) :
    Calls Try.prog 40 #[.slice A n cap, .func (.func 33) #[] #[.pointer (some ⟨pb, 0, none⟩)]] w fun e w' => e = .returned (.int .i64 (ixOf (fun x => decide (x.1 ≤ pn) && decide (pn ≤ x.2)) L)) ∧ Below w.heap.size w w' := by
  have hcm' : cap ≤ 9223372036854775807 := by unfold maxLen at hcm; omega
  clear hcm
  have HP := Lib.hid hp
  have hlen := hp.1
  clear hp
  go_enter Try.func40, Try.ntmps40
  go_wp2_with fail
  go_loopw [8] (fun i wr => ∃ (k : Nat), k ≤ n ∧ i = .int .i64 k ∧ (∀ j, j < k → (fun x : Int × Int => decide (x.1 ≤ pn) && decide (pn ≤ x.2)) (L.getD j (0, 0)) = false) ∧ Below w.heap.size w wr) (fun i _ => n - (intOf i).toNat)
  case atStart => exact ⟨0, Nat.zero_le _, rfl, fun j hj => absurd hj (by omega), Below.refl _ _⟩
  case round =>
    obtain ⟨k, hkn, rfl, hall, hB⟩ := hrel
    have hHA := Lib.hid hall
    clear hall
    by_cases hlt : k < n
    · obtain ⟨b, off, rfl, hb, d0, d1⟩ := (HP.out.below hB).2 k hlt
      obtain ⟨x, hx⟩ : ∃ x, x = L.getD k (0, 0) := ⟨_, rfl⟩
      rw [← hx] at d0 d1
      have HX := Lib.hid hx
      clear hx
      obtain ⟨a, b'⟩ := x
      simp only at d0 d1
      obtain ⟨r, hr⟩ : ∃ r, r = (fun x : Int × Int => decide (x.1 ≤ pn) && decide (pn ≤ x.2)) (a, b') := ⟨_, rfl⟩
      have HR := Lib.hid hr
      simp only at hr
      have hcon := fun wz (hz : Below wr.heap.size wr wz) => c33_any pb pn a b' wz (keepB_cell h0 _ (hB.trans (hz.mono hB.size)))
      rw [← hr] at hcon
      clear hr
      go_wp2_with (go_at_call 33; refine (hcon _ (Below.refl _ _)).mono ?_; rintro e w2 ⟨rfl, hb2⟩)
      all_goals have hB2 := hB.trans (hb2.mono hB.size)
      · go_ret
        exact ⟨by rw [(ix_some (fun x : Int × Int => decide (x.1 ≤ pn) && decide (pn ≤ x.2)) L (0, 0) k (by omega) hHA.out (by rw [← HX.out, ← HR.out]; assumption)).1]; rfl, hB2⟩
      · go_roundw
        case rel => exact ⟨k + 1, by omega, by go_num, fun j hj => (by
          by_cases hjk : j < k
          · exact hHA.out j hjk
          · obtain rfl : j = k := by omega
            rw [← HX.out, ← HR.out]; assumption), hB2⟩
        case measure => simp [intOf]; omega
    · go_wp2_with fail
      go_ret
      exact ⟨by rw [(ix_none (fun x : Int × Int => decide (x.1 ≤ pn) && decide (pn ≤ x.2)) L (0, 0) (fun j hj => hHA.out j (by omega))).1]; rfl, hB⟩
theorem any_ix_within (pb : Nat) (pn : Int) (L : List (Int × Int)) : decide (0 ≤ ixOf (fun x => decide (x.1 ≤ pn) && decide (pn ≤ x.2)) L) = L.any (fun x => decide (x.1 ≤ pn) && decide (pn ≤ x.2)) := by
  unfold ixOf
  rcases h : L.findIdx? (fun x => decide (x.1 ≤ pn) && decide (pn ≤ x.2)) with _ | i
  · have := List.findIdx?_eq_none_iff.1 h
    rw [show L.any (fun x => decide (x.1 ≤ pn) && decide (pn ≤ x.2)) = false by simpa using this, h]
    rfl
  · obtain ⟨hi, h1, _⟩ := List.findIdx?_eq_some_iff_getElem.1 h
    rw [show L.any (fun x => decide (x.1 ≤ pn) && decide (pn ≤ x.2)) = true from List.any_eq_true.2 ⟨_, List.getElem_mem hi, h1⟩, h]
    simp
set_option maxRecDepth 100000 in
theorem any_within (pb : Nat) (pn : Int) (A : Option Addr) (n cap : Nat) (L : List (Int × Int)) (w : World) (hp : Pairs w A n L) (hnc : n ≤ cap) (hcm : cap ≤ maxLen) (h0 : w.cell? ⟨pb, 0, none⟩ = some (.int .u64 pn)) :
    Calls Try.prog 28 #[.slice A n cap, .func (.func 33) #[] #[.pointer (some ⟨pb, 0, none⟩)]] w fun e w' => e = .returned (.bool (L.any (fun x => decide (x.1 ≤ pn) && decide (pn ≤ x.2)))) ∧ Below w.heap.size w w' := by
  go_enter Try.func28, Try.ntmps28
  go_wp2_with fail
  refine (ix_within pb pn A n cap L w hp hnc hcm h0).mono ?_
  rintro e w1 ⟨rfl, hB⟩
  have hE := any_ix_within pb pn L
  generalize ixOf (fun x => decide (x.1 ≤ pn) && decide (pn ≤ x.2)) L = r at hE ⊢
  generalize HQ : L.any (fun x => decide (x.1 ≤ pn) && decide (pn ≤ x.2)) = q at hE
  have HQ' := Lib.hid HQ
  clear HQ
  go_wp2_with fail
  go_ret
  exact ⟨by rw [HQ'.out]; rfl, hB⟩

end Go.Proofs.Ytohjifbkjfnkfaa
