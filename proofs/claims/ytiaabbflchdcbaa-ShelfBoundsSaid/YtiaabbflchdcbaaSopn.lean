/-
  Objects and calls that came in, opened to their parts. No condition.
-/
import Derived.Test.YtiaabbflchdcbaaSopen
namespace Go.Proofs.Ytiaabbflchdcbaa
open Go.RowKit
set_option linter.unusedVariables false
set_option linter.unusedSimpArgs false

/-- The five cells of an object. -/
def ObjC (W : World) (cs : List Value) (G O pr : Int) (gr : Bool) (V : Value) (l : List Int) : Prop := cs = [.int .u64 G, .int .u64 O, .int .u8 pr, .bool gr, V] ∧ (U64 G ∧ U64 O ∧ (0 ≤ pr ∧ pr ≤ 255)) ∧ Rd W .u8 V l ∧ BytesOk l
open Go.ChangeShapes Go.WideShapes Go.ChangeAt Go.Deep in
set_option maxRecDepth 100000 in
theorem obj_cells {H : Type} {enc : TypeId × Value → H} {W : World} {m : Nat} {cs : List Value} {x : DataW H × List MemPlace}
    (hm : DataW.trod enc Try.prog W 0 (fun _ => true) true m 35 cs = some x) : ∃ G O pr gr V l, ObjC W cs G O pr gr V l := by
  have k26 : Try.prog.cellsOf 33 = 2 := by kernel_rfl
  have k5 : Try.prog.cellsOf 5 = 1 := by kernel_rfl
  have k4 : Try.prog.cellsOf 4 = 1 := by kernel_rfl
  have k27 : Try.prog.cellsOf 30 = 1 := by kernel_rfl
  have k22 : Try.prog.cellsOf 31 = 1 := by kernel_rfl
  have k29 : Try.prog.cellsOf 35 = 5 := by kernel_rfl
  obtain ⟨xs, n, _, _, hlen, hxl, hg⟩ := DataW.trod_struct Try.underlying35 hm
  rw [k29] at hlen
  match cs, hlen with
  | [c0, c1, c2, c3, c4], _ =>
    have g0 := hg 0 _ rfl
    have g1 := hg 1 _ rfl
    have g2 := hg 2 _ rfl
    have g3 := hg 3 _ rfl
    match xs, hxl with
    | [y0, y1, y2, y3], _ =>
      simp [k26, k5, k4, k27] at g0 g1 g2 g3
      obtain ⟨zs, n', _, _, _, hzl, hq⟩ := DataW.trod_struct Try.underlying33 g0
      have q0 := hq 0 _ rfl
      have q1 := hq 1 _ rfl
      match zs, hzl with
      | [z0, z1], _ =>
        simp [k22] at q0 q1
        obtain ⟨G, e0, _, w0⟩ := DataW.trod_int Try.underlying31 q0
        obtain ⟨O, e1, _, w1⟩ := DataW.trod_int Try.underlying31 q1
        obtain ⟨pr, e2, _, w2⟩ := DataW.trod_int Try.underlying5 g1
        obtain ⟨gr, e3, _⟩ := DataW.trod_bool Try.underlying4 g2
        simp only [List.cons.injEq, and_true] at e0 e1 e2 e3
        subst e0 e1 e2 e3
        have key : ∃ l, Rd W .u8 c4 l ∧ BytesOk l := by
          rcases open_slice Try.underlying30 g3 with ⟨e, _⟩ | ⟨a, len, cap, m', n'', D, Pl, e, _⟩
          · simp only [List.cons.injEq, and_true] at e
            rw [e]
            exact ⟨[], Rd.nil _ _, fun x hx => by simp at hx⟩
          · simp only [List.cons.injEq, and_true] at e
            rw [e] at g3 ⊢
            exact bytes_of ⟨n, g3⟩
        obtain ⟨l, hl1, hl2⟩ := key
        exact ⟨G, O, pr, gr, c4, l, rfl, ⟨bounds_u64 w0, bounds_u64 w1, bounds_u8 w2⟩, hl1, hl2⟩
/-- The slice reads as objects. -/
def Obs (w : World) (A : Option Addr) (N : Nat) : Prop := ∀ k, k < N → ∃ (b off : Nat) (g n p : Int) (gr : Bool) (V : Value) (l : List Int), A = some ⟨b, off, none⟩ ∧ b < w.heap.size ∧ (∀ j, j < 5 → w.cell? ⟨b, off + (k * 5 + j), none⟩ = ([.int .u64 g, .int .u64 n, .int .u8 p, .bool gr, V] : List Value)[j]?) ∧ (U64 g ∧ U64 n ∧ (0 ≤ p ∧ p ≤ 255)) ∧ Rd w .u8 V l ∧ BytesOk l
/-- The slice reads as calls. -/
def Ops (w : World) (A : Option Addr) (N : Nat) : Prop := ∀ k, k < N → ∃ (b off : Nat) (o g n p : Int) (gr : Bool) (tV V : Value) (tl l : List Int) (tg tn : Int), A = some ⟨b, off, none⟩ ∧ b < w.heap.size ∧ (∀ j, j < 9 → w.cell? ⟨b, off + (k * 9 + j), none⟩ = ([.int .u8 o, tV, .int .u64 g, .int .u64 n, .int .u8 p, .bool gr, V, .int .u64 tg, .int .u64 tn] : List Value)[j]?) ∧ (0 ≤ o ∧ o ≤ 255) ∧ (U64 g ∧ U64 n ∧ (0 ≤ p ∧ p ≤ 255)) ∧ Rd w .u8 V l ∧ BytesOk l ∧ Rd w .u8 tV tl ∧ BytesOk tl ∧ U64 tg ∧ U64 tn
open Go.ChangeShapes Go.WideShapes Go.ChangeAt Go.Deep in
theorem cells_at {w : World} {b off k C : Nat} {F : Nat → Nat → Value} {cs : List Value} (hc : ∀ j, j < C → w.cell? ⟨b, off + (k * C + j), none⟩ = some (F k j)) (hcs : (List.range C).map (F k) = cs) : ∀ j, j < C → w.cell? ⟨b, off + (k * C + j), none⟩ = cs[j]? := fun j hj => by
  rw [hc j hj, ← hcs]
  simp [List.getElem?_range hj]
open Go.ChangeShapes Go.WideShapes Go.ChangeAt Go.Deep in
theorem obs_of {H : Type} {enc : TypeId × Value → H} {W : World} {A : Option Addr} {len cap : Nat} {d1 : DataW H} {p1 : List MemPlace}
    (h : DataW.Trod enc Try.prog W 0 (fun _ => true) true 44 (.slice A len cap) d1 p1) : len ≤ cap ∧ cap ≤ maxLen ∧ Obs W A len := by
  obtain ⟨fuel, hf⟩ := h
  obtain ⟨h1, h2, hA, G, hs, hk⟩ := open_elems (C := 5) Try.underlying44 (by kernel_rfl) (by decide) hf
  refine ⟨h1, h2, fun k hkn => ?_⟩
  obtain ⟨b, off, e, hb, hc⟩ := hs k hkn
  obtain ⟨f, y, hy⟩ := hk k hkn
  obtain ⟨g, n, p, gr, V, l, hcs, ho, hR, hK⟩ := obj_cells hy
  exact ⟨b, off, g, n, p, gr, V, l, e, hb, cells_at (fun j hj => hc j hj) hcs, ho, hR, hK⟩
set_option maxRecDepth 100000 in
open Go.ChangeShapes Go.WideShapes Go.ChangeAt Go.Deep in
theorem op_cells {H : Type} {enc : TypeId × Value → H} {W : World} {m : Nat} {cs : List Value} {x : DataW H × List MemPlace}
    (hm : DataW.trod enc Try.prog W 0 (fun _ => true) true m 37 cs = some x) : ∃ (o g n p : Int) (gr : Bool) (tV V : Value) (tl l : List Int) (tg tn : Int), cs = [.int .u8 o, tV, .int .u64 g, .int .u64 n, .int .u8 p, .bool gr, V, .int .u64 tg, .int .u64 tn] ∧ (0 ≤ o ∧ o ≤ 255) ∧ (U64 g ∧ U64 n ∧ (0 ≤ p ∧ p ≤ 255)) ∧ Rd W .u8 V l ∧ BytesOk l ∧ Rd W .u8 tV tl ∧ BytesOk tl ∧ U64 tg ∧ U64 tn := by
  have k26 : Try.prog.cellsOf 33 = 2 := by kernel_rfl
  have k5 : Try.prog.cellsOf 5 = 1 := by kernel_rfl
  have k27 : Try.prog.cellsOf 30 = 1 := by kernel_rfl
  have k22 : Try.prog.cellsOf 31 = 1 := by kernel_rfl
  have k29 : Try.prog.cellsOf 35 = 5 := by kernel_rfl
  have k37 : Try.prog.cellsOf 37 = 9 := by kernel_rfl
  obtain ⟨xs, n, _, _, hlen, hxl, hg⟩ := DataW.trod_struct Try.underlying37 hm
  rw [k37] at hlen
  match cs, hlen with
  | [c0, c1, c2, c3, c4, c5, c6, c7, c8], _ =>
    have g0 := hg 0 _ rfl
    have g1 := hg 1 _ rfl
    have g2 := hg 2 _ rfl
    have g3 := hg 3 _ rfl
    match xs, hxl with
    | [y0, y1, y2, y3], _ =>
      simp [k26, k5, k27, k29] at g0 g1 g2 g3
      obtain ⟨zs, n', _, _, _, hzl, hq⟩ := DataW.trod_struct Try.underlying33 g3
      have q0 := hq 0 _ rfl
      have q1 := hq 1 _ rfl
      obtain ⟨G, O, pr, gr, V, l, hcs, ho, hR, hK⟩ := obj_cells g2
      match zs, hzl with
      | [z0, z1], _ =>
        simp [k22] at q0 q1
        obtain ⟨tg, e0, _, w0⟩ := DataW.trod_int Try.underlying31 q0
        obtain ⟨tn, e1, _, w1⟩ := DataW.trod_int Try.underlying31 q1
        obtain ⟨o, e2, _, w2⟩ := DataW.trod_int Try.underlying5 g0
        simp only [List.cons.injEq, and_true] at e0 e1 e2 hcs
        obtain ⟨e3, e4, e5, e6, e7⟩ := hcs
        subst e0 e1 e2 e3 e4 e5 e6 e7
        have key : ∃ l, Rd W .u8 c1 l ∧ BytesOk l := by
          rcases open_slice Try.underlying30 g1 with ⟨e, _⟩ | ⟨a, len, cap, m', n'', D, Pl, e, _⟩
          · simp only [List.cons.injEq, and_true] at e
            rw [e]
            exact ⟨[], Rd.nil _ _, fun x hx => by simp at hx⟩
          · simp only [List.cons.injEq, and_true] at e
            rw [e] at g1 ⊢
            exact bytes_of ⟨n, g1⟩
        obtain ⟨tl, hl1, hl2⟩ := key
        exact ⟨o, G, O, pr, gr, c1, c6, tl, l, tg, tn, rfl, bounds_u8 w2, ho, hR, hK, hl1, hl2, bounds_u64 w0, bounds_u64 w1⟩
open Go.ChangeShapes Go.WideShapes Go.ChangeAt Go.Deep in
theorem ops_of {H : Type} {enc : TypeId × Value → H} {W : World} {A : Option Addr} {len cap : Nat} {d1 : DataW H} {p1 : List MemPlace}
    (h : DataW.Trod enc Try.prog W 0 (fun _ => true) true 23 (.slice A len cap) d1 p1) : len ≤ cap ∧ cap ≤ maxLen ∧ Ops W A len := by
  obtain ⟨fuel, hf⟩ := h
  obtain ⟨h1, h2, hA, G, hs, hk⟩ := open_elems (C := 9) Try.underlying23 (by kernel_rfl) (by decide) hf
  refine ⟨h1, h2, fun k hkn => ?_⟩
  obtain ⟨b, off, e, hb, hc⟩ := hs k hkn
  obtain ⟨f, y, hy⟩ := hk k hkn
  obtain ⟨o, g, n, p, gr, tV, V, tl, l, tg, tn, hcs, ho⟩ := op_cells hy
  exact ⟨b, off, o, g, n, p, gr, tV, V, tl, l, tg, tn, e, hb, cells_at (fun j hj => hc j hj) hcs, ho⟩

end Go.Proofs.Ytiaabbflchdcbaa
