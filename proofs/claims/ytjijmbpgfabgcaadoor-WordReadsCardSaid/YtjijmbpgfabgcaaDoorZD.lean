/-
  The kinds' table; parts; Less, Has.
  A message: bare, empty, right.
-/
import Derived.Test.YtjijmbpgfabgcaaDoorZC
import Derived.Test.YtjijmbpgfabgcaaDoorZA
namespace Go.Proofs.YtjijmbpgfabgcaaDoor
open Go.RowKit
set_option linter.unusedVariables false
set_option linter.unusedSimpArgs false

def kT : List (Int × Int) := [(3, 191), (4, 289), (5, 1537), (6, 5), (7, 1), (8, 1537), (9, 4), (10, 1), (11, 1537), (16, 0), (21, 2048), (22, 109), (23, 1), (24, 1), (25, 1537), (32, 10240), (33, 6144)]
/-- The table lies in the variable's block. -/
def Glob (w : World) : Prop := ∀ j, j < 17 → w.cell? ⟨0, j * 2, none⟩ = some (.int .u64 (kT.getD j (0, 0)).1) ∧ w.cell? ⟨0, j * 2 + 1, none⟩ = some (.int .i64 (kT.getD j (0, 0)).2)
theorem Glob.lt {w : World} (h : Glob w) : 0 < w.heap.size := World.block_lt_of_cell? _ _ (h 0 (by decide)).1
theorem Glob.below {w w' : World} {B : Nat} (h : Glob w) (hb : Below B w w') (hB : 0 < B) : Glob w' := fun j hj =>
  ⟨(hb.cell (p := ⟨0, j * 2, none⟩) hB).trans (h j hj).1, (hb.cell (p := ⟨0, j * 2 + 1, none⟩) hB).trans (h j hj).2⟩
theorem Glob.same {w w' : World} (h : Glob w) (hb : Below w.heap.size w w') : Glob w' := h.below hb h.lt
def prt (k : Int) : Int × Bool := match kT.findIdx? (fun x => x.1 == k) with | some i => ((kT.getD i (0, 0)).2, true) | none => (0, false)
theorem kt_ok : ∀ j, j < 17 → (0 ≤ (kT.getD j (0, 0)).1 ∧ (kT.getD j (0, 0)).1 ≤ 100) ∧ 0 ≤ (kT.getD j (0, 0)).2 ∧ (kT.getD j (0, 0)).2 ≤ 20000 := by decide
/-- A range's place in a list: the first that a test takes. -/
def ixOf {α : Type} (f : α → Bool) (L : List α) : Int := match L.findIdx? f with | some i => i | none => -1
theorem ix_none {α : Type} (f : α → Bool) (L : List α) (d : α) (h : ∀ j, j < L.length → f (L.getD j d) = false) : ixOf f L = -1 ∧ L.any f = false := by
  have hall : ∀ x ∈ L, f x = false := fun x hx => by
    obtain ⟨i, hi, rfl⟩ := List.getElem_of_mem hx
    have := h i hi
    simpa [List.getD, hi] using this
  constructor
  · unfold ixOf
    rw [List.findIdx?_eq_none_iff.2 hall]
  · simpa using hall
theorem ix_some {α : Type} (f : α → Bool) (L : List α) (d : α) (k : Nat) (hk : k < L.length) (h : ∀ j, j < k → f (L.getD j d) = false) (h1 : f (L.getD k d) = true) : ixOf f L = k ∧ L.any f = true := by
  have hd : ∀ j (hj : j < L.length), L.getD j d = L[j] := fun j hj => by simp [List.getD, hj]
  constructor
  · unfold ixOf
    rw [show L.findIdx? f = some k from List.findIdx?_eq_some_iff_getElem.2 ⟨hk, by rw [← hd k hk]; exact h1, fun j hj => by rw [← hd j (by omega), h j hj]; simp⟩]
  · rw [List.any_eq_true]
    exact ⟨L[k], List.getElem_mem hk, by rw [← hd k hk]; exact h1⟩
theorem prt_ix (k : Int) : (ixOf (fun x : Int × Int => x.1 == k) kT = -1 ∧ prt k = (0, false)) ∨ ∃ i : Nat, i < 17 ∧ ixOf (fun x : Int × Int => x.1 == k) kT = i ∧ prt k = ((kT.getD i (0, 0)).2, true) := by
  unfold ixOf prt
  rcases h : kT.findIdx? (fun x : Int × Int => x.1 == k) with _ | i
  · exact .inl ⟨rfl, rfl⟩
  · obtain ⟨hi, _, _⟩ := List.findIdx?_eq_some_iff_getElem.1 h
    exact .inr ⟨i, hi, rfl, rfl⟩
set_option maxHeartbeats 4000000 in
set_option maxRecDepth 100000 in
theorem c43_any (kb : Nat) (k a b : Int) (w : World) (h0 : w.cell? ⟨kb, 0, none⟩ = some (.int .u64 k)) :
    Calls Tryd.prog 43 #[.agg #[.int .u64 a, .int .i64 b], .pointer (some ⟨kb, 0, none⟩)] w fun e w' => e = .returned (.bool (decide (a = k))) ∧ Below w.heap.size w w' := by
  have hB := (Below.refl w.heap.size w).alloc (Nat.le_refl _) (.cells #[.int .u64 a, .int .i64 b] 85)
  have l0 := World.block_lt_of_cell? _ _ h0
  have k0 := (keepB_cell h0 _ hB)
  go_enter Tryd.func43, Tryd.ntmps43
  go_wp2_with fail
  go_ret
  exact ⟨rfl, hB⟩
set_option maxHeartbeats 4000000 in
set_option maxRecDepth 100000 in
theorem ix_kind (kb : Nat) (kk : Int) (w : World) (hG : Glob w) (h0 : w.cell? ⟨kb, 0, none⟩ = some (.int .u64 kk)) :
    Calls Tryd.prog 42 #[.slice (some ⟨0, 0, none⟩) 17 17, .func (.func 43) #[] #[.pointer (some ⟨kb, 0, none⟩)]] w fun e w' => e = .returned (.int .i64 (ixOf (fun x : Int × Int => x.1 == kk) kT)) ∧ Below w.heap.size w w' := by
  have HG := Lib.hid hG
  have hlen : kT.length = 17 := rfl
  clear hG
  go_enter Tryd.func42, Tryd.ntmps42
  go_wp2_with fail
  go_loopw [8] (fun i wr => ∃ (k : Nat), k ≤ 17 ∧ i = .int .i64 k ∧ (∀ j, j < k → (fun x : Int × Int => x.1 == kk) (kT.getD j (0, 0)) = false) ∧ Below w.heap.size w wr) (fun i _ => 17 - (intOf i).toNat)
  case atStart => exact ⟨0, Nat.zero_le _, rfl, fun j hj => absurd hj (by omega), Below.refl _ _⟩
  case round =>
    obtain ⟨k, hkn, rfl, hall, hB⟩ := hrel
    have hHA := Lib.hid hall
    clear hall
    by_cases hlt : k < 17
    · obtain ⟨d0, d1⟩ := (HG.out.below hB HG.out.lt) k hlt
      have g0 := keepB_cell h0 _ hB
      obtain ⟨⟨hk0, hk1⟩, hk2, hk3⟩ := kt_ok k hlt
      obtain ⟨x, hx⟩ : ∃ x, x = kT.getD k (0, 0) := ⟨_, rfl⟩
      rw [← hx] at d0 d1 hk0 hk1 hk2 hk3
      have HX := Lib.hid hx
      clear hx
      obtain ⟨a, b'⟩ := x
      simp only at d0 d1 hk0 hk1 hk2 hk3
      have hcon := fun wz (hz : Below wr.heap.size wr wz) => c43_any kb kk a b' wz (keepB_cell g0 _ hz)
      have HR : (fun x : Int × Int => x.1 == kk) (kT.getD k (0, 0)) = decide (a = kk) := by rw [← HX.out]; simp [BEq.beq]
      obtain ⟨r, hr⟩ : ∃ r, r = decide (a = kk) := ⟨_, rfl⟩
      rw [← hr] at hcon HR
      have HR' := Lib.hid HR
      clear hr HR
      go_wp2_with (go_at_call 43; refine (hcon _ (Below.refl _ _)).mono ?_; rintro e w2 ⟨rfl, hb2⟩)
      all_goals have hB2 := hB.trans (hb2.mono hB.size)
      · go_ret
        exact ⟨by rw [(ix_some (fun x : Int × Int => x.1 == kk) kT (0, 0) k (by omega) hHA.out (by rw [HR'.out]; assumption)).1]; rfl, hB2⟩
      · go_roundw
        case rel => exact ⟨k + 1, by omega, by go_num, fun j hj => (by
          by_cases hjk : j < k
          · exact hHA.out j hjk
          · obtain rfl : j = k := by omega
            rw [HR'.out]; assumption), hB2⟩
        case measure => simp [intOf]; omega
    · go_wp2_with fail
      go_ret
      exact ⟨by rw [(ix_none (fun x : Int × Int => x.1 == kk) kT (0, 0) (fun j hj => hHA.out j (by omega))).1]; rfl, hB⟩
set_option maxHeartbeats 4000000 in
set_option maxRecDepth 100000 in
theorem parts_all (k : Int) (w : World) (hG : Glob w) : Calls Tryd.prog 26 #[.int .u64 k] w fun e w' => e = .returned (.tuple #[.int .i64 (prt k).1, .bool (prt k).2]) ∧ Below w.heap.size w w' := by
  have hB := (Below.refl w.heap.size w).alloc (Nat.le_refl _) (.cells #[.int .u64 k] 22)
  have hK := Blk.new w 22 #[.int .u64 k]
  have k0 : World.cell? _ ⟨w.heap.size, 0, none⟩ = some (.int .u64 k) := hK.cell 0
  have hG1 := hG.same hB
  have HX := Lib.hid (prt_ix k)
  go_enter Tryd.func26, Tryd.ntmps26
  go_wp2_with fail
  (with_reducible refine (ix_kind _ k _ hG1 k0).mono ?_)
  rintro e w1 ⟨rfl, hb1⟩
  have hB1 := hB.trans (hb1.mono hB.size)
  have hG2 := hG1.same hb1
  rcases HX.out with ⟨he, hp⟩ | ⟨i, hi, he, hp⟩
  · rw [he]
    go_wp2_with fail
    go_ret2
    exact ⟨by rw [hp]; rfl, hB1⟩
  · rw [he]
    clear he
    have d1 := (hG2 i hi).2
    have c17 : (Value.int .i64 (i : Int)) = .int .i64 i := rfl
    go_wp2_with fail
    go_ret2
    exact ⟨by rw [hp]; rfl, hB1⟩
def ltP (a b c d : Int) : Bool := decide (a < c ∨ a = c ∧ b < d)
set_option maxHeartbeats 4000000 in
set_option maxRecDepth 100000 in
theorem less_all (a b c d : Int) (w : World) : Calls Tryd.prog 23 #[.agg #[.int .u64 a, .int .u64 b], .agg #[.int .u64 c, .int .u64 d]] w fun e w' => e = .returned (.bool (ltP a b c d)) ∧ Below w.heap.size w w' := by
  have hB := ((Below.refl w.heap.size w).alloc (Nat.le_refl _) (.cells #[.int .u64 a, .int .u64 b] 25)).alloc (by simp) (.cells #[.int .u64 c, .int .u64 d] 25)
  rcases Int.lt_trichotomy a c with h | h | h
  · have h' : ¬ a = c := by omega
    go_enter Tryd.func23, Tryd.ntmps23
    go_wp2_with fail
    go_ret
    exact ⟨by simp [ltP, h], hB⟩
  · subst h
    go_enter Tryd.func23, Tryd.ntmps23
    go_wp2_with fail
    go_ret
    exact ⟨by simp [ltP], hB⟩
  · have h' : ¬ a < c := by omega
    have h'' : ¬ a = c := by omega
    go_enter Tryd.func23, Tryd.ntmps23
    go_wp2_with fail
    go_ret
    exact ⟨by simp [ltP, h', h''], hB⟩
set_option maxHeartbeats 4000000 in
set_option maxRecDepth 100000 in
theorem rless_all (a b c d : Int) (w : World) : Calls Tryd.prog 24 #[.agg #[.int .u64 a, .int .u64 b], .agg #[.int .u64 c, .int .u64 d]] w fun e w' => e = .returned (.bool (ltP a b c d)) ∧ Below w.heap.size w w' := by
  have hB := ((Below.refl w.heap.size w).alloc (Nat.le_refl _) (.cells #[.int .u64 a, .int .u64 b] 25)).alloc (by simp) (.cells #[.int .u64 c, .int .u64 d] 25)
  rcases Int.lt_trichotomy a c with h | h | h
  · have h' : ¬ a = c := by omega
    go_enter Tryd.func24, Tryd.ntmps24
    go_wp2_with fail
    go_ret
    exact ⟨by simp [ltP, h], hB⟩
  · subst h
    go_enter Tryd.func24, Tryd.ntmps24
    go_wp2_with fail
    go_ret
    exact ⟨by simp [ltP], hB⟩
  · have h' : ¬ a < c := by omega
    have h'' : ¬ a = c := by omega
    go_enter Tryd.func24, Tryd.ntmps24
    go_wp2_with fail
    go_ret
    exact ⟨by simp [ltP, h', h''], hB⟩

end Go.Proofs.YtjijmbpgfabgcaaDoor
namespace Go.Proofs.YtjijmbpgfabgcaaDoor
open Go.RowKit
set_option linter.unusedVariables false
set_option linter.unusedSimpArgs false

def SH : List Int := [191, 289, 1537, 5, 1, 4, 0, 2048, 109, 10240, 6144]
theorem prt_sh {k P : Int} (h : prt k = (P, true)) : P ∈ SH := by
  rcases prt_ix k with ⟨_, e⟩ | ⟨i, hi, _, e⟩
  · rw [e] at h; cases h
  · rw [e] at h
    obtain ⟨rfl, _⟩ := Prod.mk.inj h
    exact (show ∀ i, i < 17 → (kT.getD i (0, 0)).2 ∈ SH by decide) i hi
/-- P without the part b: the value; else zero. -/
def zf {α : Type} (P b : Int) (x z : α) : α := if bits .and .i64 P b = 0 then x else z
theorem or64 (a b : Int) (ha : 0 ≤ a ∧ a ≤ 18446744073709551615) (hb : 0 ≤ b ∧ b ≤ 18446744073709551615) : (0 ≤ bits .or .u64 a b ∧ bits .or .u64 a b ≤ 18446744073709551615) ∧ (bits .or .u64 a b = 0 ↔ a = 0 ∧ b = 0) := by
  obtain ⟨a, rfl⟩ : ∃ m : Nat, a = m := ⟨a.toNat, by omega⟩
  obtain ⟨b, rfl⟩ : ∃ m : Nat, b = m := ⟨b.toNat, by omega⟩
  rw [bits_or_u64_nat a b (by omega) (by omega)]
  have h1 : a ||| b < 2 ^ 64 := Nat.or_lt_two_pow (by omega) (by omega)
  have h2 : a ||| b = 0 ↔ a = 0 ∧ b = 0 := Nat.or_eq_zero_iff
  omega
theorem or8 (a b : Int) (ha : 0 ≤ a ∧ a ≤ 255) (hb : 0 ≤ b ∧ b ≤ 255) : bits .or .u8 a b = 0 ↔ a = 0 ∧ b = 0 := by
  obtain ⟨a, rfl⟩ : ∃ m : Nat, a = m := ⟨a.toNat, by omega⟩
  obtain ⟨b, rfl⟩ : ∃ m : Nat, b = m := ⟨b.toNat, by omega⟩
  have h0 : a ||| b < 2 ^ 8 := Nat.or_lt_two_pow (by omega) (by omega)
  have e : bits .or .u8 (a : Int) (b : Int) = ((a ||| b : Nat) : Int) := by
    have h1 : (BitVec.ofInt 8 (a : Int)).toNat = a := by
      rw [BitVec.ofInt_natCast, BitVec.toNat_ofNat]; exact Nat.mod_eq_of_lt (by omega)
    have h2 : (BitVec.ofInt 8 (b : Int)).toNat = b := by
      rw [BitVec.ofInt_natCast, BitVec.toNat_ofNat]; exact Nat.mod_eq_of_lt (by omega)
    show IntKind.u8.wrap ((BitVec.ofInt 8 (a : Int) ||| BitVec.ofInt 8 (b : Int)).toNat : Int) = _
    rw [BitVec.toNat_or, h1, h2, IntKind.wrap_u8]
    omega
  rw [e]
  have h2 : a ||| b = 0 ↔ a = 0 ∧ b = 0 := Nat.or_eq_zero_iff
  omega

end Go.Proofs.YtjijmbpgfabgcaaDoor
