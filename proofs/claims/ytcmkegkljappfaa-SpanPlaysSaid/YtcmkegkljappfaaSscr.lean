/-
  Scripts that came in. No condition.
-/
import Derived.Test.YtcmkegkljappfaaSdo2
namespace Go.Proofs.Ytcmkegkljappfaa
open Go.RowKit
set_option linter.unusedVariables false
set_option linter.unusedSimpArgs false


/-- A script: each step's three cells. -/
structure Scr (W : World) (A : Option Addr) (len : Nat) (d f t : Nat → Int) : Prop where
  at_ : ∀ k, k < len → ∃ b off, A = some ⟨b, off, none⟩ ∧ b < W.heap.size ∧ W.cell? ⟨b, off + k * 3, none⟩ = some (.int .u8 (d k)) ∧ W.cell? ⟨b, off + k * 3 + 1, none⟩ = some (.int .u64 (f k)) ∧ W.cell? ⟨b, off + k * 3 + 2, none⟩ = some (.int .u64 (t k))
  db : ∀ k, k < len → 0 ≤ d k ∧ d k ≤ 255
  fb : ∀ k, k < len → 0 ≤ f k ∧ f k ≤ 18446744073709551615
  tb : ∀ k, k < len → 0 ≤ t k ∧ t k ≤ 18446744073709551615
theorem Scr.below {W W' : World} {A : Option Addr} {len : Nat} {d f t : Nat → Int} (h : Scr W A len d f t) (hb : Below W.heap.size W W') : Scr W' A len d f t :=
  ⟨fun k hk => by
    obtain ⟨b, off, e, hlt, h0, h1, h2⟩ := h.at_ k hk
    exact ⟨b, off, e, Nat.lt_of_lt_of_le hlt hb.size, (hb.cell (p := ⟨b, _, none⟩) hlt).trans h0, (hb.cell (p := ⟨b, _, none⟩) hlt).trans h1, (hb.cell (p := ⟨b, _, none⟩) hlt).trans h2⟩, h.db, h.fb, h.tb⟩
open Go.ChangeShapes Go.WideShapes Go.ChangeAt in
theorem scr_of {H : Type} {enc : TypeId × Value → H} {W : World} {A : Option Addr} {len cap : Nat} {d1 : DataW H} {p1 : List MemPlace}
    (h : DataW.Trod enc Try.prog W 0 (fun _ => true) true 34 (.slice A len cap) d1 p1) : len ≤ 9223372036854775807 ∧ ∃ d f t, Scr W A len d f t := by
  obtain ⟨fuel, hf⟩ := h
  obtain ⟨hlc, hcm, F, hF, hR⟩ := open_structs (A := A) (n := len) (c := cap) Try.underlying34 Try.underlying39 (by kernel_rfl) (by kernel_rfl) (by decide) (by simpa [Value.cells] using hf)
  have hm : len ≤ 9223372036854775807 := by unfold maxLen at hcm; omega
  have f0 : ∀ k, k < len → ∃ x : Int, F k 0 = .int .u8 x ∧ (Lit.int .u8 x).wf = true := fun k hk => by
    obtain ⟨m, y, hy⟩ := hR k hk 0 _ rfl
    obtain ⟨x, e, _, hw⟩ := DataW.trod_int Try.underlying5 hy
    exact ⟨x, by simpa using e, hw⟩
  have f1 : ∀ k, k < len → ∃ x : Int, F k 1 = .int .u64 x ∧ (Lit.int .u64 x).wf = true := fun k hk => by
    obtain ⟨m, y, hy⟩ := hR k hk 1 _ rfl
    obtain ⟨x, e, _, hw⟩ := DataW.trod_int Try.underlying28 hy
    exact ⟨x, by simpa using e, hw⟩
  have f2 : ∀ k, k < len → ∃ x : Int, F k 2 = .int .u64 x ∧ (Lit.int .u64 x).wf = true := fun k hk => by
    obtain ⟨m, y, hy⟩ := hR k hk 2 _ rfl
    obtain ⟨x, e, _, hw⟩ := DataW.trod_int Try.underlying28 hy
    exact ⟨x, by simpa using e, hw⟩
  refine ⟨hm, fun k => intOf (F k 0), fun k => intOf (F k 1), fun k => intOf (F k 2), ⟨fun k hk => ?_, fun k hk => ?_, fun k hk => ?_, fun k hk => ?_⟩⟩
  · obtain ⟨b, off, e, hb, hc⟩ := hF k hk
    obtain ⟨x, ex, _⟩ := f0 k hk
    obtain ⟨y, ey, _⟩ := f1 k hk
    obtain ⟨z, ez, _⟩ := f2 k hk
    have c0 := hc 0 (by decide)
    have c1 := hc 1 (by decide)
    have c2 := hc 2 (by decide)
    rw [ex] at c0
    rw [ey] at c1
    rw [ez] at c2
    refine ⟨b, off, e, hb, ?_, ?_, ?_⟩
    · rw [ex]; exact c0
    · rw [ey]; exact c1
    · rw [ez]; exact c2
  · obtain ⟨x, ex, hw⟩ := f0 k hk
    rw [ex]; exact bounds_u8 hw
  · obtain ⟨x, ex, hw⟩ := f1 k hk
    rw [ex]; exact bounds_u64 hw
  · obtain ⟨x, ex, hw⟩ := f2 k hk
    rw [ex]; exact bounds_u64 hw
/-- What is plain of both sets behind so many steps. -/
structure Dp (k : Nat) (L R : List (Int × Int)) : Prop where
  r : Rp R L
  l : L.length ≤ min k 30
  n : R.length + 1 ≤ 2 ^ min k 30
theorem Dp.start : Dp 0 [] [] := ⟨⟨trivial, fun x => Iff.rfl, fun r hr => by simp at hr⟩, Nat.zero_le _, by simp⟩
theorem Dp.step {k : Nat} {L R : List (Int × Int)} (h : Dp k L R) (hk : k < 30) {d f t : Int} (hf : 0 ≤ f) : Dp (k + 1) (doL d f t L) (doR d f t L R) := by
  have h1 := rp_len h.r
  have h2 := doL_len (d := d) (f := f) (t := t) h.r.n
  have h3 := doR_len (d := d) (f := f) (t := t) h1
  have h4 := h.l
  have h5 := h.n
  refine ⟨doR_rp h.r hf, by omega, ?_⟩
  rw [show min (k + 1) 30 = min k 30 + 1 by omega, Nat.pow_succ]
  omega
theorem Dp.skip {k : Nat} {L R : List (Int × Int)} (h : Dp k L R) (hk : ¬ k < 30) : Dp (k + 1) L R := by
  have e : min (k + 1) 30 = min k 30 := by omega
  exact ⟨h.r, by rw [e]; exact h.l, by rw [e]; exact h.n⟩
theorem Dp.small {k : Nat} {L R : List (Int × Int)} (h : Dp k L R) : L.length ≤ 30 ∧ R.length ≤ 2000000000 := by
  have h4 := h.l
  have h5 := h.n
  have h6 : 2 ^ min k 30 ≤ 2 ^ 30 := Nat.pow_le_pow_right (by decide) (by omega)
  have h7 : (2 : Nat) ^ 30 = 1073741824 := by decide
  omega
theorem rnewR {B : Nat} {w w' : World} (h : Below (w.alloc (.cells #[.slice none 0 0] 37)).heap.size (w.alloc (.cells #[.slice none 0 0] 37)) w') (hB : B ≤ w.heap.size) : RSet B w' w.heap.size none [] :=
  ⟨hB, _, rfl, (Blk.new w _ _).same h, World.ownsRow_nil _ _ _ _⟩

end Go.Proofs.Ytcmkegkljappfaa
