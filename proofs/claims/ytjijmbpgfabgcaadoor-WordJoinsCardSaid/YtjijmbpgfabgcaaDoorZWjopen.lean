/-
  A list of messages that came in. No condition.
-/
import Derived.Test.YtjijmbpgfabgcaaDoorZWopen
namespace Go.Proofs.YtjijmbpgfabgcaaDoor
open Go.RowKit
set_option linter.unusedVariables false
set_option linter.unusedSimpArgs false

set_option maxHeartbeats 4000000 in
set_option maxRecDepth 100000 in
open Go.ChangeShapes Go.WideShapes Go.ChangeAt Go.Deep in
theorem msg_cells {H : Type} {enc : TypeId × Value → H} {W : World} {c : List Value} {fuel : Nat} {y : DataW H × List MemPlace} (hc : c.length = 16)
    (hm : DataW.trod enc Tryd.prog W 0 (fun _ => true) true fuel 28 c = some y) : ∃ (m : M) (nv rv vv : Value), c = (m.cells nv rv vv).toList ∧ MV W m nv rv vv ∧ m.Ok := by
  have k4 : Tryd.prog.cellsOf 4 = 1 := by kernel_rfl
  have k5 : Tryd.prog.cellsOf 5 = 1 := by kernel_rfl
  have k22 : Tryd.prog.cellsOf 22 = 1 := by kernel_rfl
  have k23 : Tryd.prog.cellsOf 23 = 1 := by kernel_rfl
  have k25 : Tryd.prog.cellsOf 25 = 2 := by kernel_rfl
  have k26 : Tryd.prog.cellsOf 26 = 1 := by kernel_rfl
  have k28 : Tryd.prog.cellsOf 28 = 16 := by kernel_rfl
  obtain ⟨xs, n, _, _, _, hxl, hg⟩ := DataW.trod_struct Tryd.underlying28 hm
  match c, hc with
  | [c0, c1, c2, c3, c4, c5, c6, c7, c8, c9, c10, c11, c12, c13, c14, c15], _ =>
    have g0 := hg 0 _ rfl
    have g1 := hg 1 _ rfl
    have g2 := hg 2 _ rfl
    have g3 := hg 3 _ rfl
    have g4 := hg 4 _ rfl
    have g5 := hg 5 _ rfl
    have g6 := hg 6 _ rfl
    have g7 := hg 7 _ rfl
    have g8 := hg 8 _ rfl
    have g9 := hg 9 _ rfl
    have g10 := hg 10 _ rfl
    have g11 := hg 11 _ rfl
    have g12 := hg 12 _ rfl
    have g13 := hg 13 _ rfl
    match xs, hxl with
    | [y0, y1, y2, y3, y4, y5, y6, y7, y8, y9, y10, y11, y12, y13], _ =>
      simp [k4, k5, k22, k23, k25, k26] at g0 g1 g2 g3 g4 g5 g6 g7 g8 g9 g10 g11 g12 g13
      obtain ⟨x0, e0, _, w0⟩ := DataW.trod_int Tryd.underlying22 g0
      obtain ⟨x1, e1, _, w1⟩ := DataW.trod_int Tryd.underlying22 g1
      obtain ⟨x2, e2, _, w2⟩ := DataW.trod_int Tryd.underlying22 g2
      obtain ⟨l3, h3, o3⟩ := bytes_cell g3
      obtain ⟨x4, e4, _, w4⟩ := DataW.trod_int Tryd.underlying5 g4
      obtain ⟨x5, e5, _, w5⟩ := DataW.trod_int Tryd.underlying5 g5
      obtain ⟨ys, n6, _, _, _, hyl, hg6⟩ := DataW.trod_struct Tryd.underlying25 g6
      have g60 := hg6 0 _ rfl
      have g61 := hg6 1 _ rfl
      obtain ⟨zs, n7, _, _, _, hzl, hg7⟩ := DataW.trod_struct Tryd.underlying25 g7
      have g70 := hg7 0 _ rfl
      have g71 := hg7 1 _ rfl
      obtain ⟨x8, e8, _⟩ := DataW.trod_bool Tryd.underlying4 g8
      obtain ⟨x9, e9, _, w9⟩ := DataW.trod_int Tryd.underlying22 g9
      obtain ⟨l10, h10, o10⟩ := bytes_cell g10
      obtain ⟨x11, e11, _, w11⟩ := DataW.trod_int Tryd.underlying22 g11
      obtain ⟨x12, e12, _, w12⟩ := DataW.trod_int Tryd.underlying22 g12
      obtain ⟨l13, h13, o13⟩ := nums_cell g13
      match ys, hyl with
      | [u0, u1], _ =>
        match zs, hzl with
        | [t0, t1], _ =>
          simp [k22] at g60 g61 g70 g71
          obtain ⟨a0, e60, _, w60⟩ := DataW.trod_int Tryd.underlying22 g60
          obtain ⟨a1, e61, _, w61⟩ := DataW.trod_int Tryd.underlying22 g61
          obtain ⟨a2, e70, _, w70⟩ := DataW.trod_int Tryd.underlying22 g70
          obtain ⟨a3, e71, _, w71⟩ := DataW.trod_int Tryd.underlying22 g71
          simp only [List.cons.injEq, and_true] at e0 e1 e2 e4 e5 e60 e61 e70 e71 e8 e9 e11 e12
          subst e0 e1 e2 e4 e5 e60 e61 e70 e71 e8 e9 e11 e12
          exact ⟨⟨x0, x1, x2, l3, x4, x5, a0, a1, a2, a3, x8, x9, l10, x11, x12, l13⟩, c3, c12, c15, rfl, ⟨h3, h10, h13⟩, ⟨bounds_u64 w0, bounds_u64 w1, bounds_u64 w2, bounds_u64 w60, bounds_u64 w61, bounds_u64 w70, bounds_u64 w71, bounds_u64 w9, bounds_u64 w11, bounds_u64 w12, bounds_u8 w4, bounds_u8 w5, o3, o10, o13⟩⟩
/-- The slice reads as messages. -/
def Msgs (w : World) (A : Option Addr) (n : Nat) : Prop := ∀ k, k < n → ∃ (b off : Nat) (m : M) (nv rv vv : Value), A = some ⟨b, off, none⟩ ∧ b < w.heap.size ∧ (∀ j, j < 16 → w.cell? ⟨b, off + (k * 16 + j), none⟩ = (m.cells nv rv vv)[j]?) ∧ MV w m nv rv vv ∧ m.Ok
open Go.ChangeShapes Go.WideShapes Go.ChangeAt Go.Deep in
theorem msgs_of {H : Type} {enc : TypeId × Value → H} {W : World} {A : Option Addr} {len cap : Nat} {d1 : DataW H} {p1 : List MemPlace}
    (h : DataW.Trod enc Tryd.prog W 0 (fun _ => true) true 49 (.slice A len cap) d1 p1) : len ≤ cap ∧ cap ≤ maxLen ∧ Msgs W A len := by
  obtain ⟨fuel, hf⟩ := h
  obtain ⟨h1, h2, hA, G, hs, hk⟩ := open_elems (C := 16) Tryd.underlying49 (by kernel_rfl) (by decide) hf
  refine ⟨h1, h2, fun k hkn => ?_⟩
  obtain ⟨b, off, e, hb, hc⟩ := hs k hkn
  obtain ⟨f, y, hy⟩ := hk k hkn
  obtain ⟨m, nv, rv, vv, hcs, hM, hO⟩ := msg_cells (by simp) hy
  refine ⟨b, off, m, nv, rv, vv, e, hb, fun j hj => ?_, hM, hO⟩
  rw [hc j hj]
  have := congrArg (fun l => l[j]?) hcs
  simp only [List.getElem?_map, List.getElem?_range hj, Option.map_some] at this
  simpa using this
theorem Msgs.below {w w' : World} {A : Option Addr} {n : Nat} (h : Msgs w A n) (hb : Below w.heap.size w w') : Msgs w' A n := fun k hk => by
  obtain ⟨b, off, m, nv, rv, vv, e, hlt, hc, hM, hO⟩ := h k hk
  exact ⟨b, off, m, nv, rv, vv, e, Nat.lt_of_lt_of_le hlt hb.size, fun j hj => (hb.cell (p := ⟨b, _, none⟩) hlt).trans (hc j hj), hM.below hb, hO⟩

end Go.Proofs.YtjijmbpgfabgcaaDoor
