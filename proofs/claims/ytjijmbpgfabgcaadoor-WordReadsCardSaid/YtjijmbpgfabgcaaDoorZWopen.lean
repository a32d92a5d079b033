/-
  What came in: the table, a message, places.
-/
import Derived.Test.YtjijmbpgfabgcaaDoorZI
import Derived.Test.YtjijmbpgfabgcaaDoorZA
import Derived.Test.YtjijmbpgfabgcaaDoorTie
import Derived.Test.YtjijmbpgfabgcaaDoorCards
import Derived.ProofKit
import Derived.OpenShut
import Derived.LaidMore
import Derived.Lay
import Derived.SevenTiedAt
import Derived.Stop.Joined
namespace Go.Proofs.YtjijmbpgfabgcaaDoor
open Go.RowKit
set_option linter.unusedVariables false
set_option linter.unusedSimpArgs false

abbrev laidL : List (String × DataW Unit) := [("colonnade/word.all", Rows.laid_colonnade_word_all)]
set_option maxRecDepth 100000 in
open Go.ChangeShapes Go.WideShapes Go.ChangeAt in
theorem glob_of {W : World} (h : laidMetH Tryd.prog laidL W) : Glob W := by
  rw [MakeChecks.laidMetH_plain _ _ _ (by kernel_rfl)] at h
  obtain ⟨ps, ⟨g, t, cs, fuel, p, q, hg, ht, hv, hd, _, _⟩, _, _⟩ := h
  obtain rfl := Option.some.inj ((show Tryd.prog.globalNamed "colonnade/word.all" = some 0 by kernel_rfl).symm.trans hg)
  obtain rfl := Option.some.inj ((show (Tryd.prog.globals[0]?).map (·.type) = some 86 by kernel_rfl).symm.trans ht)
  obtain ⟨xs, m, _, ex, _, hl, hel⟩ := DataW.trod_array Tryd.underlying86 hd
  have cK : Tryd.prog.cellsOf 85 = 2 := by kernel_rfl
  have c22 : Tryd.prog.cellsOf 22 = 1 := by kernel_rfl
  have c3 : Tryd.prog.cellsOf 3 = 1 := by kernel_rfl
  have e3 : (xs.map (·.1)) = kT.map fun z => (DataW.agg [.lit (.int .u64 z.1), .lit (.int .i64 z.2)] : DataW Unit) := (DataW.agg.inj (Prod.mk.inj ex).1).symm
  have hkl : kT.length = 17 := rfl
  intro r hr
  have hr' : r < kT.length := hr
  have hE := hel r hr
  rw [cK, List.getElem?_eq_getElem (by omega)] at hE
  obtain ⟨ys, n, _, ey, _, hyl, hf⟩ := DataW.trod_struct Tryd.underlying85 hE
  have f0 := hf 0 _ rfl
  have f1 := hf 1 _ rfl
  match ys, hyl with
  | [y0, y1], _ =>
    simp [c22, c3] at f0 f1
    obtain ⟨z0, e0, k0, _⟩ := DataW.trod_int Tryd.underlying22 f0
    obtain ⟨z1, e1, k1, _⟩ := DataW.trod_int Tryd.underlying3 f1
    have e4 : (xs.map (·.1))[r]? = (kT.map fun z => (DataW.agg [.lit (.int .u64 z.1), .lit (.int .i64 z.2)] : DataW Unit))[r]? := by rw [e3]
    rw [List.getElem?_map, List.getElem?_map, List.getElem?_eq_getElem (by omega : r < xs.length), List.getElem?_eq_getElem hr', ey] at e4
    subst k0 k1
    simp only [Option.map_some, Option.some.injEq, List.map_cons, List.map_nil, DataW.agg.injEq, List.cons.injEq, DataW.lit.injEq, Lit.int.injEq, true_and, and_true] at e4
    have q0 : cs.toList[r * 2]? = some (.int .u64 z0) := by
      have := congrArg (fun (l : List Value) => l[0]?) e0
      simpa using this
    have q1 : cs.toList[r * 2 + 1]? = some (.int .i64 z1) := by
      have := congrArg (fun (l : List Value) => l[0]?) e1
      simpa using this
    have hd : kT.getD r (0, 0) = kT[r]'hr' := by rw [List.getD, List.getElem?_eq_getElem hr']; rfl
    rw [World.var?_cell hg hv (r * 2), World.var?_cell hg hv (r * 2 + 1), hd]
    obtain ⟨e5, e6⟩ := e4
    rw [e5] at q0
    rw [e6] at q1
    exact ⟨by simpa using q0, by simpa using q1⟩
set_option maxRecDepth 100000 in
open Go.ChangeShapes Go.WideShapes Go.ChangeAt Go.Deep in
theorem bytes_of {H : Type} {enc : TypeId × Value → H} {W : World} {A : Option Addr} {len cap : Nat} {d1 : DataW H} {p1 : List MemPlace}
    (h : DataW.Trod enc Tryd.prog W 0 (fun _ => true) true 23 (.slice A len cap) d1 p1) : ∃ l, Rd W .u8 (.slice A len cap) l ∧ BytesOk l := by
  obtain ⟨fuel, hf⟩ := h
  rcases open_ints Tryd.underlying23 Tryd.underlying5 (by kernel_rfl) hf with ⟨hcs, _⟩ | ⟨x, l, c, zs, hcs, _, hl, hm, hz, _, hcell, hwz⟩
  · simp [Value.cells] at hcs
    obtain ⟨rfl, rfl, rfl⟩ := hcs
    exact ⟨[], Rd.nil _ _, fun x hx => by simp at hx⟩
  · simp [Value.cells] at hcs
    obtain ⟨rfl, rfl, rfl⟩ := hcs
    have hz' : zs.length = cap := by simpa using hz
    have hlen : (zs.take len).length = len := by simp; omega
    refine ⟨zs.take len, ⟨some x, cap, by rw [hlen], by omega, hm, fun e => (by cases e), fun i hi => ?_⟩, fun n hn => bounds_u8 (hwz n (List.mem_of_mem_take hn))⟩
    rw [hlen] at hi
    have hc := hcell i (by omega)
    have hsp : x.spot = none := by
      have h0 := World.cell?_spot (hcell 0 (by omega))
      simpa [Addr.add] using h0
    obtain ⟨b, o, s⟩ := x
    simp only at hsp
    subst hsp
    have hlt := World.block_lt_of_cell? W _ hc
    rw [addr_add] at hc hlt
    refine ⟨b, o, rfl, hlt, fun j hj => ?_⟩
    obtain rfl : j = 0 := by omega
    rw [show o + (i * 1 + 0) = o + i by omega, hc]
    simp [List.getD, List.getElem?_take, hi]
open Go.ChangeShapes Go.WideShapes Go.ChangeAt Go.Deep in
theorem bytes_cell {H : Type} {enc : TypeId × Value → H} {W : World} {v : Value} {m : Nat} {y : DataW H × List MemPlace}
    (h : DataW.trod enc Tryd.prog W 0 (fun _ => true) true m 23 [v] = some y) : ∃ l, Rd W .u8 v l ∧ BytesOk l := by
  rcases open_slice Tryd.underlying23 h with ⟨e, _⟩ | ⟨a, len, cap, m', n'', D, Pl, e, _⟩
  · simp only [List.cons.injEq, and_true] at e
    subst e
    exact ⟨[], Rd.nil _ _, fun x hx => by simp at hx⟩
  · simp only [List.cons.injEq, and_true] at e
    subst e
    exact bytes_of ⟨m, h⟩
set_option maxRecDepth 100000 in
open Go.ChangeShapes Go.WideShapes Go.ChangeAt Go.Deep in
theorem nums_of {H : Type} {enc : TypeId × Value → H} {W : World} {A : Option Addr} {len cap : Nat} {d1 : DataW H} {p1 : List MemPlace}
    (h : DataW.Trod enc Tryd.prog W 0 (fun _ => true) true 26 (.slice A len cap) d1 p1) : ∃ l, Rd W .u64 (.slice A len cap) l ∧ NumsOk l := by
  obtain ⟨fuel, hf⟩ := h
  rcases open_ints Tryd.underlying26 Tryd.underlying22 (by kernel_rfl) hf with ⟨hcs, _⟩ | ⟨x, l, c, zs, hcs, _, hl, hm, hz, _, hcell, hwz⟩
  · simp [Value.cells] at hcs
    obtain ⟨rfl, rfl, rfl⟩ := hcs
    exact ⟨[], Rd.nil _ _, fun x hx => by simp at hx⟩
  · simp [Value.cells] at hcs
    obtain ⟨rfl, rfl, rfl⟩ := hcs
    have hz' : zs.length = cap := by simpa using hz
    have hlen : (zs.take len).length = len := by simp; omega
    refine ⟨zs.take len, ⟨some x, cap, by rw [hlen], by omega, hm, fun e => (by cases e), fun i hi => ?_⟩, fun n hn => bounds_u64 (hwz n (List.mem_of_mem_take hn))⟩
    rw [hlen] at hi
    have hc := hcell i (by omega)
    have hsp : x.spot = none := by
      have h0 := World.cell?_spot (hcell 0 (by omega))
      simpa [Addr.add] using h0
    obtain ⟨b, o, s⟩ := x
    simp only at hsp
    subst hsp
    have hlt := World.block_lt_of_cell? W _ hc
    rw [addr_add] at hc hlt
    refine ⟨b, o, rfl, hlt, fun j hj => ?_⟩
    obtain rfl : j = 0 := by omega
    rw [show o + (i * 1 + 0) = o + i by omega, hc]
    simp [List.getD, List.getElem?_take, hi]
open Go.ChangeShapes Go.WideShapes Go.ChangeAt Go.Deep in
theorem nums_cell {H : Type} {enc : TypeId × Value → H} {W : World} {v : Value} {m : Nat} {y : DataW H × List MemPlace}
    (h : DataW.trod enc Tryd.prog W 0 (fun _ => true) true m 26 [v] = some y) : ∃ l, Rd W .u64 v l ∧ NumsOk l := by
  rcases open_slice Tryd.underlying26 h with ⟨e, _⟩ | ⟨a, len, cap, m', n'', D, Pl, e, _⟩
  · simp only [List.cons.injEq, and_true] at e
    subst e
    exact ⟨[], Rd.nil _ _, fun x hx => by simp at hx⟩
  · simp only [List.cons.injEq, and_true] at e
    subst e
    exact nums_of ⟨m, h⟩
set_option maxRecDepth 100000 in
open Go.ChangeShapes Go.WideShapes Go.ChangeAt in
theorem place_of {H : Type} {enc : TypeId × Value → H} {W : World} {v : Value} {d : DataW H} {p : List MemPlace} {r : Reach} {b : Nat} (hv : Value.okWide Tryd.prog W r b 25 v)
    (h : DataW.Trod enc Tryd.prog W 0 (fun _ => true) true 25 v d p) : ∃ a b : Int, v = .agg #[.int .u64 a, .int .u64 b] ∧ (0 ≤ a ∧ a ≤ 18446744073709551615) ∧ (0 ≤ b ∧ b ≤ 18446744073709551615) := by
  have c22 : Tryd.prog.cellsOf 22 = 1 := by kernel_rfl
  have c25 : Tryd.prog.cellsOf 25 = 2 := by kernel_rfl
  obtain ⟨cs, rfl, _⟩ := okWide_struct Tryd.underlying25 hv
  obtain ⟨m, hm⟩ := h
  obtain ⟨xs, n, _, _, hlen, hxl, hg⟩ := DataW.trod_struct Tryd.underlying25 hm
  obtain ⟨c⟩ := cs
  rw [c25] at hlen
  simp only [Value.cells] at hlen hg
  match c, hlen with
  | [c0, c1], _ =>
    have g0 := hg 0 _ rfl
    have g1 := hg 1 _ rfl
    match xs, hxl with
    | [y0, y1], _ =>
      simp [c22] at g0 g1
      obtain ⟨x0, e0, _, w0⟩ := DataW.trod_int Tryd.underlying22 g0
      obtain ⟨x1, e1, _, w1⟩ := DataW.trod_int Tryd.underlying22 g1
      simp only [List.cons.injEq, and_true] at e0 e1
      subst e0 e1
      exact ⟨x0, x1, rfl, bounds_u64 w0, bounds_u64 w1⟩
set_option maxHeartbeats 4000000 in
set_option maxRecDepth 100000 in
open Go.ChangeShapes Go.WideShapes Go.ChangeAt Go.Deep in
theorem msg_of {H : Type} {enc : TypeId × Value → H} {W : World} {v : Value} {d : DataW H} {p : List MemPlace} {r : Reach} {b : Nat} (hv : Value.okWide Tryd.prog W r b 28 v)
    (h : DataW.Trod enc Tryd.prog W 0 (fun _ => true) true 28 v d p) : ∃ (m : M) (nv rv vv : Value), v = .agg (m.cells nv rv vv) ∧ MV W m nv rv vv ∧ m.Ok := by
  have k4 : Tryd.prog.cellsOf 4 = 1 := by kernel_rfl
  have k5 : Tryd.prog.cellsOf 5 = 1 := by kernel_rfl
  have k22 : Tryd.prog.cellsOf 22 = 1 := by kernel_rfl
  have k23 : Tryd.prog.cellsOf 23 = 1 := by kernel_rfl
  have k25 : Tryd.prog.cellsOf 25 = 2 := by kernel_rfl
  have k26 : Tryd.prog.cellsOf 26 = 1 := by kernel_rfl
  have k28 : Tryd.prog.cellsOf 28 = 16 := by kernel_rfl
  obtain ⟨cs, rfl, _⟩ := okWide_struct Tryd.underlying28 hv
  obtain ⟨m, hm⟩ := h
  obtain ⟨xs, n, _, _, hlen, hxl, hg⟩ := DataW.trod_struct Tryd.underlying28 hm
  obtain ⟨c⟩ := cs
  rw [k28] at hlen
  simp only [Value.cells] at hlen hg
  match c, hlen with
  | [c0, c1, c2, c3, c4, c5, c6, c7, c8, c9, c10, c11, c12, c13, c14, c15], _ =>
    have g0 := hg 0 _ rfl
    have g1 := hg 1 _ rfl
    have g2 := hg 2 _ rfl
    have g3 := hg 3 _ rfl
    have g4 := hg 4 _ rfl
    have g5 := hg 5 _ rfl
    have g6 := hg 6 _ rfl
    have g7 := hg 7 _ rfl
    have g8 := hg 8 _ rfl
    have g9 := hg 9 _ rfl
    have g10 := hg 10 _ rfl
    have g11 := hg 11 _ rfl
    have g12 := hg 12 _ rfl
    have g13 := hg 13 _ rfl
    match xs, hxl with
    | [y0, y1, y2, y3, y4, y5, y6, y7, y8, y9, y10, y11, y12, y13], _ =>
      simp [k4, k5, k22, k23, k25, k26] at g0 g1 g2 g3 g4 g5 g6 g7 g8 g9 g10 g11 g12 g13
      obtain ⟨x0, e0, _, w0⟩ := DataW.trod_int Tryd.underlying22 g0
      obtain ⟨x1, e1, _, w1⟩ := DataW.trod_int Tryd.underlying22 g1
      obtain ⟨x2, e2, _, w2⟩ := DataW.trod_int Tryd.underlying22 g2
      obtain ⟨l3, h3, o3⟩ := bytes_cell g3
      obtain ⟨x4, e4, _, w4⟩ := DataW.trod_int Tryd.underlying5 g4
      obtain ⟨x5, e5, _, w5⟩ := DataW.trod_int Tryd.underlying5 g5
      obtain ⟨ys, n6, _, _, _, hyl, hg6⟩ := DataW.trod_struct Tryd.underlying25 g6
      have g60 := hg6 0 _ rfl
      have g61 := hg6 1 _ rfl
      obtain ⟨zs, n7, _, _, _, hzl, hg7⟩ := DataW.trod_struct Tryd.underlying25 g7
      have g70 := hg7 0 _ rfl
      have g71 := hg7 1 _ rfl
      obtain ⟨x8, e8, _⟩ := DataW.trod_bool Tryd.underlying4 g8
      obtain ⟨x9, e9, _, w9⟩ := DataW.trod_int Tryd.underlying22 g9
      obtain ⟨l10, h10, o10⟩ := bytes_cell g10
      obtain ⟨x11, e11, _, w11⟩ := DataW.trod_int Tryd.underlying22 g11
      obtain ⟨x12, e12, _, w12⟩ := DataW.trod_int Tryd.underlying22 g12
      obtain ⟨l13, h13, o13⟩ := nums_cell g13
      match ys, hyl with
      | [u0, u1], _ =>
        match zs, hzl with
        | [t0, t1], _ =>
          simp [k22] at g60 g61 g70 g71
          obtain ⟨a0, e60, _, w60⟩ := DataW.trod_int Tryd.underlying22 g60
          obtain ⟨a1, e61, _, w61⟩ := DataW.trod_int Tryd.underlying22 g61
          obtain ⟨a2, e70, _, w70⟩ := DataW.trod_int Tryd.underlying22 g70
          obtain ⟨a3, e71, _, w71⟩ := DataW.trod_int Tryd.underlying22 g71
          simp only [List.cons.injEq, and_true] at e0 e1 e2 e4 e5 e60 e61 e70 e71 e8 e9 e11 e12
          subst e0 e1 e2 e4 e5 e60 e61 e70 e71 e8 e9 e11 e12
          exact ⟨⟨x0, x1, x2, l3, x4, x5, a0, a1, a2, a3, x8, x9, l10, x11, x12, l13⟩, c3, c12, c15, rfl, ⟨h3, h10, h13⟩, ⟨bounds_u64 w0, bounds_u64 w1, bounds_u64 w2, bounds_u64 w60, bounds_u64 w61, bounds_u64 w70, bounds_u64 w71, bounds_u64 w9, bounds_u64 w11, bounds_u64 w12, bounds_u8 w4, bounds_u8 w5, o3, o10, o13⟩⟩

end Go.Proofs.YtjijmbpgfabgcaaDoor
