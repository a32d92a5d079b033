/-
  The set in memory; where a number's place is. No condition.
-/
import Derived.Test.YtcmkegkljappfaaSset
import Derived.Test.YtcmkegkljappfaaOpenr
namespace Go.Proofs.Ytcmkegkljappfaa
open Go.RowKit
set_option linter.unusedVariables false
set_option linter.unusedSimpArgs false


/-- A set in memory. -/
def SetP (B : Nat) (w : World) (g : Nat) (L : List (Int × Int)) : Prop := B ≤ g ∧ ∃ V, Blk w g 58 #[V] ∧ w.ownsRow B 30 2 V L.length (pcs L)
section
variable {B B' : Nat} {w w' : World} {g : Nat} {L : List (Int × Int)}
theorem SetP.below (h : SetP B w g L) (hb : Below w.heap.size w w') : SetP B w' g L := by
  obtain ⟨h0, V, h1, h2⟩ := h
  exact ⟨h0, V, h1.same hb, own_same h2 hb⟩
theorem SetP.base (h : SetP B w g L) (hB : B' ≤ B) : SetP B' w g L := by
  obtain ⟨h0, V, h1, h2⟩ := h
  exact ⟨Nat.le_trans hB h0, V, h1, own_base h2 hB⟩
theorem SetP.drewN (h : SetP B w g L) (n : Nat) : SetP B (w.drewN n) g L := h
theorem SetP.drew (h : SetP B w g L) : SetP B w.drew g L := h
theorem SetP.lt (h : SetP B w g L) : g < w.heap.size := by obtain ⟨_, V, h1, _⟩ := h; exact h1.lt
theorem SetP.cell (h : SetP B w g L) : ∃ V, w.cell? ⟨g, 0, none⟩ = some V ∧ RdP w V L := by
  obtain ⟨h0, V, h1, h2⟩ := h
  exact ⟨V, h1.cell 0, rdp_of_own h2⟩
end
/-- What is told of elements that lie at hand. -/
theorem RdP.get {w : World} {A : Option Addr} {n cap : Nat} {L : List (Int × Int)} (h : RdP w (.slice A n cap) L) (i : Nat) (hi : i < n) :
    ∃ b off, A = some ⟨b, off, none⟩ ∧ b < w.heap.size ∧ w.cell? ⟨b, off + i * 2, none⟩ = some (.int .u64 (L.getD i (0, 0)).1) ∧ w.cell? ⟨b, off + i * 2 + 1, none⟩ = some (.int .u64 (L.getD i (0, 0)).2) :=
  h.at_ i (by have := h.parts.1; omega)
/-- A normal list is no longer than there are numbers. -/
theorem nm_short {b : Int} {L : List (Int × Int)} (h : Nm b L) : (L.length : Int) * 2 + min b (MX + 2) ≤ MX + 2 := by
  induction L generalizing b with
  | nil => simp only [List.length_nil]; omega
  | cons r T ih =>
    obtain ⟨h1, h2, h3, h4⟩ := h
    have := ih h4
    simp only [List.length_cons]
    have e : min (r.2 + 2) (MX + 2) = r.2 + 2 := by simp only [MX] at *; omega
    rw [e] at this
    have e2 : min b (MX + 2) = b := by simp only [MX] at *; omega
    rw [e2]
    push_cast
    omega
def cmpN (b n : Int) : Int := if b < n then -1 else 1
set_option maxHeartbeats 4000000 in
set_option maxRecDepth 100000 in
theorem cmp_any (a b n : Int) (w : World) : Calls Try.prog 34 #[.agg #[.int .u64 a, .int .u64 b], .int .u64 n] w fun e w' => e = .returned (.int .i64 (cmpN b n)) ∧ Below w.heap.size w w' := by
  have hB := (Below.refl w.heap.size w).alloc (Nat.le_refl _) (.cells #[.int .u64 a, .int .u64 b] 30)
  unfold cmpN
  by_cases h : b < n
  · rw [if_pos h]
    go_enter Try.func34, Try.ntmps34
    go_wp2_with fail
    go_ret
    exact ⟨rfl, hB⟩
  · rw [if_neg h]
    have h' : n ≤ b := by omega
    go_enter Try.func34, Try.ntmps34
    go_wp2_with fail
    go_ret
    exact ⟨rfl, hB⟩
set_option maxHeartbeats 4000000 in
set_option maxRecDepth 100000 in
theorem bin_any (v : Value) (L : List (Int × Int)) (b n : Int) (w : World) (hv : RdP w v L) (hN : Nm b L) (hb0 : 0 ≤ b) :
    Calls Try.prog 33 #[v, .int .u64 n, .func (.func 34) #[] #[]] w fun e w' => e = .returned (.tuple #[.int .i64 (pl n L), .bool false]) ∧ Below w.heap.size w w' := by
  obtain ⟨A, cap, rfl⟩ := hv.form
  obtain ⟨_, _, hnc, hcm, _⟩ := hv.parts
  have hcm' : cap ≤ 9223372036854775807 := by unfold maxLen at hcm; omega
  -- the walk sees the length as a letter
  obtain ⟨len, hlen⟩ : ∃ len, len = L.length := ⟨_, rfl⟩
  rw [← hlen] at hv hnc ⊢
  have HV := Lib.hid hv
  have HN := Lib.hid hN
  have hbig : len < 4611686018427387904 := by
    rcases Nat.lt_or_ge len 4611686018427387904 with h | h
    · exact h
    · exact absurd (nm_short hN) (by simp only [MX]; omega)
  clear hv hN hcm
  have HL := Lib.hid hlen
  clear hlen
  go_enter Try.func33, Try.ntmps33
  go_wp2_with fail
  go_loopw [9, 10] (fun s9 s10 wr => ∃ (lo hi : Nat), s9 = .int .i64 lo ∧ s10 = .int .i64 hi ∧ lo ≤ hi ∧ hi ≤ len ∧ Below w.heap.size w wr ∧
    Hid ((∀ t, t < lo → (L.getD t (0, 0)).2 < n) ∧ (∀ t, hi ≤ t → t < len → n ≤ (L.getD t (0, 0)).2))) (fun s9 s10 _ => (intOf s10 - intOf s9).toNat)
  case atStart => exact ⟨0, len, rfl, rfl, Nat.zero_le _, Nat.le_refl _, Below.refl _ _, Lib.hid ⟨fun t ht => by omega, fun t h1 h2 => by omega⟩⟩
  case round =>
    obtain ⟨lo, hi, rfl, rfl, hlh, hhn, hB, HI⟩ := hrel
    by_cases hlt : lo < hi
    · have hm : (lo + hi) / 2 < len := by omega
      obtain ⟨bb, off, rfl, hbb, d0, d1⟩ := (HV.out.below hB).get ((lo + hi) / 2) hm
      have HU : Hid (∀ u, u ≤ (lo + hi) / 2 → (L.getD u (0, 0)).2 ≤ (L.getD ((lo + hi) / 2) (0, 0)).2) := Lib.hid fun u hu => by
        rcases Nat.lt_or_eq_of_le hu with h | rfl
        · have := HN.out.lt u _ h (by rw [← HL.out]; exact hm)
          have := (HN.out.up ((lo + hi) / 2) (by rw [← HL.out]; exact hm)).2.1
          omega
        · exact Int.le_refl _
      have HW : Hid (∀ u, (lo + hi) / 2 ≤ u → u < len → (L.getD ((lo + hi) / 2) (0, 0)).2 ≤ (L.getD u (0, 0)).2) := Lib.hid fun u hu hul => by
        rcases Nat.lt_or_eq_of_le hu with h | rfl
        · have := HN.out.lt _ u h (by rw [← HL.out]; exact hul)
          have := (HN.out.up u (by rw [← HL.out]; exact hul)).2.1
          omega
        · exact Int.le_refl _
      obtain ⟨x, hx⟩ : ∃ x, x = L.getD ((lo + hi) / 2) (0, 0) := ⟨_, rfl⟩
      rw [← hx] at d0 d1 HU HW
      clear hx
      obtain ⟨xa, xb⟩ := x
      simp only at d0 d1 HU HW
      by_cases hc : xb < n
      · have hcm : cmpN xb n = -1 := by unfold cmpN; rw [if_pos hc]
        go_wp2_with (go_at_call 34; refine (cmp_any _ _ _ _).mono ?_; rintro e w3 ⟨rfl, hb3⟩; rw [hcm])
        have hB3 := hB.trans (hb3.mono hB.size)
        clear d0 d1 hb3
        go_roundw
        case rel => exact ⟨(lo + hi) / 2 + 1, hi, by go_num, rfl, by omega, hhn, hB3, Lib.hid ⟨fun t ht => by have := HU.out t (by omega); omega, HI.out.2⟩⟩
        case measure => simp [intOf]; omega
      · have hcm : cmpN xb n = 1 := by unfold cmpN; rw [if_neg hc]
        go_wp2_with (go_at_call 34; refine (cmp_any _ _ _ _).mono ?_; rintro e w3 ⟨rfl, hb3⟩; rw [hcm])
        have hB3 := hB.trans (hb3.mono hB.size)
        clear d0 d1 hb3
        go_roundw
        case rel => exact ⟨lo, (lo + hi) / 2, rfl, by go_num, by omega, by omega, hB3, Lib.hid ⟨HI.out.1, fun t h1 h2 => by have := HW.out t h1 h2; omega⟩⟩
        case measure => simp [intOf]; omega
    · have he : lo = hi := by omega
      subst he
      have hpl : lo = pl n L := pl_eq HN.out n lo (by rw [← HL.out]; exact hhn) HI.out.1 (fun t h1 h2 => HI.out.2 t h1 (by rw [HL.out]; exact h2))
      have HPL := Lib.hid hpl
      clear hpl
      by_cases hend : lo < len
      · obtain ⟨bb, off, rfl, hbb, d0, d1⟩ := (HV.out.below hB).get lo hend
        obtain ⟨x, hx⟩ : ∃ x, x = L.getD lo (0, 0) := ⟨_, rfl⟩
        rw [← hx] at d0 d1
        clear hx
        obtain ⟨xa, xb⟩ := x
        simp only at d0 d1
        have hq : (cmpN xb n == 0) = false := by unfold cmpN; split <;> rfl
        go_wp2_with (go_at_call 34; refine (cmp_any _ _ _ _).mono ?_; rintro e w3 ⟨rfl, hb3⟩)
        go_ret2
        exact ⟨by rw [← HPL.out]; rfl, hB.trans (hb3.mono hB.size)⟩
      · go_wp2_with fail
        go_ret2
        exact ⟨by rw [← HPL.out]; rfl, hB⟩
set_option maxHeartbeats 4000000 in
set_option maxRecDepth 100000 in
theorem place_any (B g : Nat) (L : List (Int × Int)) (b n : Int) (w : World) (hs : SetP B w g L) (hN : Nm b L) (hb0 : 0 ≤ b) :
    Calls Try.prog 25 #[.pointer (some ⟨g, 0, none⟩), .int .u64 n] w fun e w' => e = .returned (.int .i64 (pl n L)) ∧ Below w.heap.size w w' := by
  obtain ⟨V, c0, hV⟩ := hs.cell
  go_enter Try.func25, Try.ntmps25
  go_wp2_with fail
  refine (bin_any V L b n _ hV hN hb0).mono ?_
  rintro e w2 ⟨rfl, hB⟩
  clear c0
  go_wp2_with fail
  go_ret
  exact ⟨rfl, hB⟩

end Go.Proofs.Ytcmkegkljappfaa
