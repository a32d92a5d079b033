/-
  Scripts that came in, opened to their parts.
-/
import Derived.Test.YtohjifbkjfnkfaaLerr
import Derived.Test.YtohjifbkjfnkfaaLgives
namespace Go.Proofs.Ytohjifbkjfnkfaa
open Go.RowKit
set_option linter.unusedVariables false
set_option linter.unusedSimpArgs false


/-- The nine cells of a step. -/
structure Oq where
  do_ : Int
  p : Pk
  gone : Bool
  A : Option Addr
  n : Nat
  cap : Nat
  R : List (Int × Int)
  now : Int
  wait : Int
def Oq.cells (o : Oq) : List Value := [.int .u8 o.do_, .int .u64 o.p.num, .int .u64 o.p.sent, .int .i64 o.p.size, .bool o.p.asks, .bool o.gone, .slice o.A o.n o.cap, .int .u64 o.now, .int .u64 o.wait]
def OqOk (W : World) (o : Oq) : Prop := (0 ≤ o.do_ ∧ o.do_ ≤ 255) ∧ PkIn o.p ∧ (o.n ≤ o.cap ∧ o.cap ≤ maxLen ∧ (o.A = none → o.n = 0 ∧ o.cap = 0) ∧ Pairs W o.A o.n o.R ∧ PairsOk o.R) ∧ (0 ≤ o.now ∧ o.now ≤ 18446744073709551615) ∧ (0 ≤ o.wait ∧ o.wait ≤ 18446744073709551615)
theorem OqOk.below {w w' : World} {o : Oq} (h : OqOk w o) (hb : Below w.heap.size w w') : OqOk w' o := by
  obtain ⟨h1, h2, ⟨h3, h4, h5, h6, h7⟩, h8⟩ := h
  exact ⟨h1, h2, ⟨h3, h4, h5, h6.below hb, h7⟩, h8⟩
def Ops (w : World) (A : Option Addr) (n : Nat) : Prop :=
  ∀ k, k < n → ∃ (b off : Nat) (o : Oq), A = some ⟨b, off, none⟩ ∧ b < w.heap.size ∧ OqOk w o ∧ ∀ j, j < 9 → w.cell? ⟨b, off + (k * 9 + j), none⟩ = o.cells[j]?
theorem Ops.below {w w' : World} {A : Option Addr} {n : Nat} (h : Ops w A n) (hb : Below w.heap.size w w') : Ops w' A n := fun k hk => by
  obtain ⟨b, off, o, e, hlt, ho, h0⟩ := h k hk
  exact ⟨b, off, o, e, Nat.lt_of_lt_of_le hlt hb.size, ho.below hb, fun j hj => (hb.cell (p := ⟨b, _, none⟩) hlt).trans (h0 j hj)⟩
open Go.ChangeShapes Go.WideShapes Go.ChangeAt Go.Deep in
theorem ranges_cell {H : Type} {enc : TypeId × Value → H} {W : World} {v : Value} {m : Nat} {y : DataW H × List MemPlace}
    (h : DataW.trod enc Try.prog W 0 (fun _ => true) true m 32 [v] = some y) : ∃ A n cap R, v = .slice A n cap ∧ n ≤ cap ∧ cap ≤ maxLen ∧ (A = none → n = 0 ∧ cap = 0) ∧ Pairs W A n R ∧ PairsOk R := by
  rcases open_slice Try.underlying32 h with ⟨e, _⟩ | ⟨a, len, cap, m', n'', D, Pl, e, _⟩
  · simp only [List.cons.injEq, and_true] at e
    subst e
    exact ⟨none, 0, 0, [], rfl, Nat.le_refl _, Nat.zero_le _, fun _ => ⟨rfl, rfl⟩, ⟨rfl, fun k hk => absurd hk (by omega)⟩, fun x hx => by simp at hx⟩
  · simp only [List.cons.injEq, and_true] at e
    subst e
    obtain ⟨h1, h2, L, h3, h4⟩ := ranges_of (A := some a) ⟨m, h⟩
    exact ⟨some a, len, cap, L, rfl, h1, h2, fun e => (by cases e), h3, h4⟩
open Go.ChangeShapes Go.WideShapes Go.ChangeAt Go.Deep in
set_option maxRecDepth 100000 in
theorem op_cells {H : Type} {enc : TypeId × Value → H} {W : World} {m : Nat} {cs : List Value} {x : DataW H × List MemPlace}
    (hm : DataW.trod enc Try.prog W 0 (fun _ => true) true m 52 cs = some x) : ∃ o : Oq, cs = o.cells ∧ OqOk W o := by
  have k5 : Try.prog.cellsOf 5 = 1 := by kernel_rfl
  have k4 : Try.prog.cellsOf 4 = 1 := by kernel_rfl
  have k3 : Try.prog.cellsOf 3 = 1 := by kernel_rfl
  have k22 : Try.prog.cellsOf 22 = 1 := by kernel_rfl
  have k50 : Try.prog.cellsOf 50 = 5 := by kernel_rfl
  have k32 : Try.prog.cellsOf 32 = 1 := by kernel_rfl
  have k52 : Try.prog.cellsOf 52 = 9 := by kernel_rfl
  obtain ⟨xs, n, _, _, hlen, hxl, hg⟩ := DataW.trod_struct Try.underlying52 hm
  rw [k52] at hlen
  match cs, hlen with
  | [c0, c1, c2, c3, c4, c5, c6, c7, c8], _ =>
    have g0 := hg 0 _ rfl
    have g1 := hg 1 _ rfl
    have g2 := hg 2 _ rfl
    have g3 := hg 3 _ rfl
    have g4 := hg 4 _ rfl
    match xs, hxl with
    | [y0, y1, y2, y3, y4], _ =>
      simp [k5, k4, k3, k22, k50, k32] at g0 g1 g2 g3 g4
      obtain ⟨zs, n', _, _, _, hzl, hq⟩ := DataW.trod_struct Try.underlying50 g1
      have q0 := hq 0 _ rfl
      have q1 := hq 1 _ rfl
      have q2 := hq 2 _ rfl
      have q3 := hq 3 _ rfl
      have q4 := hq 4 _ rfl
      match zs, hzl with
      | [z0, z1, z2, z3, z4], _ =>
        simp [k5, k4, k3, k22] at q0 q1 q2 q3 q4
        obtain ⟨d, e0, _, w0⟩ := DataW.trod_int Try.underlying5 g0
        obtain ⟨pn, e1, _, w1⟩ := DataW.trod_int Try.underlying22 q0
        obtain ⟨ps, e2, _, w2⟩ := DataW.trod_int Try.underlying22 q1
        obtain ⟨pz, e3, _, w3⟩ := DataW.trod_int Try.underlying3 q2
        obtain ⟨pa, e4, _⟩ := DataW.trod_bool Try.underlying4 q3
        obtain ⟨pg, e5, _⟩ := DataW.trod_bool Try.underlying4 q4
        obtain ⟨A, ln, cap, R, e6, r1, r2, r3, r4, r5⟩ := ranges_cell g2
        obtain ⟨nw, e7, _, w7⟩ := DataW.trod_int Try.underlying22 g3
        obtain ⟨wt, e8, _, w8⟩ := DataW.trod_int Try.underlying22 g4
        simp only [List.cons.injEq, and_true] at e0 e1 e2 e3 e4 e5 e7 e8
        subst e0 e1 e2 e3 e4 e5 e6 e7 e8
        exact ⟨⟨d, ⟨pn, ps, pz, pa⟩, pg, A, ln, cap, R, nw, wt⟩, rfl, bounds_u8 w0, ⟨bounds_u64 w1, bounds_u64 w2, bounds_i64 w3⟩, ⟨r1, r2, r3, r4, r5⟩, bounds_u64 w7, bounds_u64 w8⟩
open Go.ChangeShapes Go.WideShapes Go.ChangeAt Go.Deep in
theorem ops_of {H : Type} {enc : TypeId × Value → H} {W : World} {A : Option Addr} {n c : Nat} {d : DataW H} {p : List MemPlace}
    (h : DataW.Trod enc Try.prog W 0 (fun _ => true) true 47 (.slice A n c) d p) : n ≤ c ∧ c ≤ maxLen ∧ Ops W A n := by
  obtain ⟨fuel, hf⟩ := h
  obtain ⟨h1, h2, _, G, hs, hk⟩ := open_elems (C := 9) Try.underlying47 (by kernel_rfl) (by decide) hf
  refine ⟨h1, h2, fun k hkn => ?_⟩
  obtain ⟨m, y, hy⟩ := hk k hkn
  obtain ⟨o, ho, hok⟩ := op_cells hy
  obtain ⟨b, off, e, hlt, hc⟩ := hs k hkn
  refine ⟨b, off, o, e, hlt, hok, fun j hj => ?_⟩
  rw [hc j hj, ← ho]
  simp [hj]

end Go.Proofs.Ytohjifbkjfnkfaa
