/-
  Scripts of pieces that came in, opened to their parts; what reads a quilt, on the plain state. No condition.
-/
import Derived.Test.YtpkondemkpogoaaQopen
namespace Go.Proofs.Ytpkondemkpogoaa
open Go.RowKit
set_option linter.unusedVariables false
set_option linter.unusedSimpArgs false

/-- The five cells of a step. -/
structure Oq where
  do_ : Int
  off : Int
  V : Value
  l : List Int
  en : Bool
  m : Int
def Oq.cells (o : Oq) : List Value := [.int .u8 o.do_, .int .u64 o.off, o.V, .bool o.en, .int .i64 o.m]
def OqOk (W : World) (o : Oq) : Prop := (0 ≤ o.do_ ∧ o.do_ ≤ 255) ∧ (0 ≤ o.off ∧ o.off ≤ 18446744073709551615) ∧ (Rd W .u8 o.V o.l ∧ BytesOk o.l) ∧ (-9223372036854775808 ≤ o.m ∧ o.m ≤ 9223372036854775807)
theorem OqOk.below {w w' : World} {o : Oq} (h : OqOk w o) (hb : Below w.heap.size w w') : OqOk w' o := by
  obtain ⟨h1, h2, ⟨h3, h4⟩, h5⟩ := h
  exact ⟨h1, h2, ⟨h3.below hb, h4⟩, h5⟩
def Ops (w : World) (A : Option Addr) (n : Nat) : Prop :=
  ∀ k, k < n → ∃ (b off : Nat) (o : Oq), A = some ⟨b, off, none⟩ ∧ b < w.heap.size ∧ OqOk w o ∧ ∀ j, j < 5 → w.cell? ⟨b, off + (k * 5 + j), none⟩ = o.cells[j]?
theorem Ops.below {w w' : World} {A : Option Addr} {n : Nat} (h : Ops w A n) (hb : Below w.heap.size w w') : Ops w' A n := fun k hk => by
  obtain ⟨b, off, o, e, hlt, ho, h0⟩ := h k hk
  exact ⟨b, off, o, e, Nat.lt_of_lt_of_le hlt hb.size, ho.below hb, fun j hj => (hb.cell (p := ⟨b, _, none⟩) hlt).trans (h0 j hj)⟩
open Go.ChangeShapes Go.WideShapes Go.ChangeAt Go.Deep in
theorem bytes_cell {H : Type} {enc : TypeId × Value → H} {W : World} {v : Value} {m : Nat} {y : DataW H × List MemPlace}
    (h : DataW.trod enc Try.prog W 0 (fun _ => true) true m 22 [v] = some y) : ∃ l, Rd W .u8 v l ∧ BytesOk l := by
  rcases open_slice Try.underlying22 h with ⟨e, _⟩ | ⟨a, len, cap, m', n'', D, Pl, e, _⟩
  · simp only [List.cons.injEq, and_true] at e
    subst e
    exact ⟨[], Rd.nil _ _, fun x hx => by simp at hx⟩
  · simp only [List.cons.injEq, and_true] at e
    subst e
    exact bytes_of (A := some a) ⟨m, h⟩
open Go.ChangeShapes Go.WideShapes Go.ChangeAt Go.Deep in
set_option maxRecDepth 100000 in
theorem op_cells {H : Type} {enc : TypeId × Value → H} {W : World} {m : Nat} {cs : List Value} {x : DataW H × List MemPlace}
    (hm : DataW.trod enc Try.prog W 0 (fun _ => true) true m 44 cs = some x) : ∃ o : Oq, cs = o.cells ∧ OqOk W o := by
  have k5 : Try.prog.cellsOf 5 = 1 := by kernel_rfl
  have k4 : Try.prog.cellsOf 4 = 1 := by kernel_rfl
  have k3 : Try.prog.cellsOf 3 = 1 := by kernel_rfl
  have k22 : Try.prog.cellsOf 22 = 1 := by kernel_rfl
  have k27 : Try.prog.cellsOf 27 = 1 := by kernel_rfl
  have k44 : Try.prog.cellsOf 44 = 5 := by kernel_rfl
  obtain ⟨xs, n, _, _, hlen, hxl, hg⟩ := DataW.trod_struct Try.underlying44 hm
  rw [k44] at hlen
  match cs, hlen with
  | [c0, c1, c2, c3, c4], _ =>
    have g0 := hg 0 _ rfl
    have g1 := hg 1 _ rfl
    have g2 := hg 2 _ rfl
    have g3 := hg 3 _ rfl
    have g4 := hg 4 _ rfl
    match xs, hxl with
    | [y0, y1, y2, y3, y4], _ =>
      simp [k5, k4, k3, k22, k27] at g0 g1 g2 g3 g4
      obtain ⟨d, e0, _, w0⟩ := DataW.trod_int Try.underlying5 g0
      obtain ⟨pn, e1, _, w1⟩ := DataW.trod_int Try.underlying27 g1
      obtain ⟨l, r1, r2⟩ := bytes_cell g2
      obtain ⟨en, e3, _⟩ := DataW.trod_bool Try.underlying4 g3
      obtain ⟨mm, e4, _, w4⟩ := DataW.trod_int Try.underlying3 g4
      simp only [List.cons.injEq, and_true] at e0 e1 e3 e4
      subst e0 e1 e3 e4
      exact ⟨⟨d, pn, c2, l, en, mm⟩, rfl, bounds_u8 w0, bounds_u64 w1, ⟨r1, r2⟩, bounds_i64 w4⟩
open Go.ChangeShapes Go.WideShapes Go.ChangeAt Go.Deep in
theorem ops_of {H : Type} {enc : TypeId × Value → H} {W : World} {A : Option Addr} {n c : Nat} {d : DataW H} {p : List MemPlace}
    (h : DataW.Trod enc Try.prog W 0 (fun _ => true) true 41 (.slice A n c) d p) : n ≤ c ∧ c ≤ maxLen ∧ Ops W A n := by
  obtain ⟨fuel, hf⟩ := h
  obtain ⟨h1, h2, _, G, hs, hk⟩ := open_elems (C := 5) Try.underlying41 (by kernel_rfl) (by decide) hf
  refine ⟨h1, h2, fun k hkn => ?_⟩
  obtain ⟨m, y, hy⟩ := hk k hkn
  obtain ⟨o, ho, hok⟩ := op_cells hy
  obtain ⟨b, off, e, hlt, hc⟩ := hs k hkn
  refine ⟨b, off, o, e, hlt, hok, fun j hj => ?_⟩
  rw [hc j hj, ← ho]
  simp [hj]
theorem end_law {B g : Nat} {q : Q} {w : World} (h : QA B w g q) : Calls Try.prog 20 #[.pointer (some ⟨g, 0, none⟩)] w fun e w' => e = .returned (.tuple #[.int .u64 q.la, .bool q.kn]) ∧ Below w.heap.size w w' := by
  obtain ⟨rb, d, h1, h2⟩ := h
  refine (end_any _ B g rb d _ _ _ _ w h1).mono ?_
  rintro e w' ⟨rfl, m, rfl⟩
  exact ⟨rfl, below_drewN (Below.refl _ _) m⟩
theorem high_law {B g : Nat} {q : Q} {w : World} (h : QA B w g q) : Calls Try.prog 21 #[.pointer (some ⟨g, 0, none⟩)] w fun e w' => e = .returned (.int .u64 q.hi) ∧ w = w' := by
  obtain ⟨rb, d, h1, h2⟩ := h
  exact high_any _ B g rb d _ _ _ _ w h1
theorem held_law {B g : Nat} {q : Q} {w : World} (h : QA B w g q) (hi : QI q) : Calls Try.prog 16 #[.pointer (some ⟨g, 0, none⟩)] w fun e w' => e = .returned (.int .i64 (hld q.L)) ∧ Below w.heap.size w w' := by
  obtain ⟨rb, d, h1, h2⟩ := h
  rw [← h2]
  exact held_any _ B g rb d _ _ _ _ w h1 (by rw [h2]; exact hi.k)
theorem read_law {B g : Nat} {q : Q} {w : World} (h : QA B w g q) : Calls Try.prog 18 #[.pointer (some ⟨g, 0, none⟩)] w fun e w' => e = .returned (.int .u64 q.rd) ∧ w = w' := by
  obtain ⟨rb, d, h1, h2⟩ := h
  exact read_any _ B g rb d _ _ _ _ w h1
theorem ready_law {B g : Nat} {q : Q} {w : World} (h : QA B w g q) (hi : QI q) : Calls Try.prog 19 #[.pointer (some ⟨g, 0, none⟩)] w fun e w' => e = .returned (.int .i64 (rdy q.rd q.L)) ∧ Below w.heap.size w w' := by
  obtain ⟨rb, d, h1, h2⟩ := h
  rw [← h2]
  exact ready_any _ B g rb d _ _ _ _ w h1 (by rw [h2]; exact hi.k)
theorem done_law {B g : Nat} {q : Q} {w : World} (h : QA B w g q) : Calls Try.prog 17 #[.pointer (some ⟨g, 0, none⟩)] w fun e w' => e = .returned (.bool q.done) ∧ Below w.heap.size w w' := by
  obtain ⟨rb, d, h1, h2⟩ := h
  exact done_any _ B g rb d _ _ _ _ w h1

end Go.Proofs.Ytpkondemkpogoaa
