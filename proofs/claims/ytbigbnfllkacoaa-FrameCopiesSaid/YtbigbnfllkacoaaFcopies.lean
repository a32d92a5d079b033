/-
  A copy of a frame is the same, and goes its own way.
-/
import Derived.Test.YtbigbnfllkacoaaFcp
import Derived.Test.YtbigbnfllkacoaaOpenr
namespace Go.Proofs.Ytbigbnfllkacoaa
open Go.RowKit
set_option linter.unusedVariables false
set_option linter.unusedSimpArgs false


open Go.ChangeShapes Go.WideShapes Go.ChangeAt Go.Deep in
theorem bytes_of {H : Type} {enc : TypeId × Value → H} {W : World} {A : Option Addr} {len cap : Nat} {d1 : DataW H} {p1 : List MemPlace}
    (h : DataW.Trod enc Try.prog W 0 (fun _ => true) true 23 (.slice A len cap) d1 p1) : ∃ l, Rd W .u8 (.slice A len cap) l ∧ BytesOk l := by
  obtain ⟨fuel, hf⟩ := h
  rcases open_ints Try.underlying23 Try.underlying5 (by kernel_rfl) hf with ⟨hcs, _⟩ | ⟨x, l, c, zs, hcs, _, hl, hm, hz, _, hcell, hwz⟩
  · simp [Value.cells] at hcs
    obtain ⟨rfl, rfl, rfl⟩ := hcs
    exact ⟨[], Rd.nil _ _, fun x hx => by simp at hx⟩
  · simp [Value.cells] at hcs
    obtain ⟨rfl, rfl, rfl⟩ := hcs
    have hz' : zs.length = cap := by simpa using hz
    have hlen : (zs.take len).length = len := by simp; omega
    refine ⟨zs.take len, ⟨some x, cap, by rw [hlen], by omega, hm, fun e => (by cases e), fun i hi => ?_⟩, fun n hn => bounds_u8 (hwz n (List.mem_of_mem_take hn))⟩
    rw [hlen] at hi
    have hc := hcell i (by omega)
    have hsp : x.spot = none := by
      have h0 := World.cell?_spot (hcell 0 (by omega))
      simpa [Addr.add] using h0
    obtain ⟨b, o, s⟩ := x
    simp only at hsp
    subst hsp
    have hlt := World.block_lt_of_cell? W _ hc
    rw [addr_add] at hc hlt
    refine ⟨b, o, rfl, hlt, fun j hj => ?_⟩
    obtain rfl : j = 0 := by omega
    rw [show o + (i * 1 + 0) = o + i by omega, hc]
    simp [List.getD, List.getElem?_take, hi]
open Go.ChangeShapes Go.WideShapes Go.ChangeAt Go.Deep in
theorem bytes_cell {H : Type} {enc : TypeId × Value → H} {W : World} {v : Value} {m : Nat} {y : DataW H × List MemPlace}
    (h : DataW.trod enc Try.prog W 0 (fun _ => true) true m 23 [v] = some y) : ∃ l, Rd W .u8 v l ∧ BytesOk l := by
  rcases open_slice Try.underlying23 h with ⟨e, _⟩ | ⟨a, len, cap, m', n'', D, Pl, e, _⟩
  · simp only [List.cons.injEq, and_true] at e
    subst e
    exact ⟨[], Rd.nil _ _, fun x hx => by simp at hx⟩
  · simp only [List.cons.injEq, and_true] at e
    subst e
    exact bytes_of ⟨m, h⟩
open Go.ChangeShapes Go.WideShapes Go.ChangeAt Go.Deep in
set_option maxRecDepth 100000 in
theorem frame_of {H : Type} {enc : TypeId × Value → H} {W : World} {v : Value} {d : DataW H} {p : List MemPlace} {r : Reach} {b : Nat} (hv : Value.okWide Try.prog W r b 26 v)
    (h : DataW.Trod enc Try.prog W 0 (fun _ => true) true 26 v d p) : ∃ k i o n c fin D T R ld lt lr, v = .agg #[.int .u64 k, .int .u64 i, .int .u64 o, .int .u64 n, .int .u64 c, .bool fin, D, T, R] ∧ Rd W .u8 D ld ∧ Rd W .u8 T lt ∧ RdP W R lr ∧
      (0 ≤ k ∧ k ≤ 18446744073709551615) ∧ (0 ≤ i ∧ i ≤ 18446744073709551615) ∧ (0 ≤ o ∧ o ≤ 18446744073709551615) ∧ (0 ≤ n ∧ n ≤ 18446744073709551615) ∧ (0 ≤ c ∧ c ≤ 18446744073709551615) ∧ BytesOk ld ∧ BytesOk lt ∧ PairsOk lr := by
  have k4 : Try.prog.cellsOf 4 = 1 := by kernel_rfl
  have k22 : Try.prog.cellsOf 22 = 1 := by kernel_rfl
  have k23 : Try.prog.cellsOf 23 = 1 := by kernel_rfl
  have k24 : Try.prog.cellsOf 24 = 1 := by kernel_rfl
  have k26 : Try.prog.cellsOf 26 = 9 := by kernel_rfl
  obtain ⟨cs, rfl, _⟩ := okWide_struct Try.underlying26 hv
  obtain ⟨m, hm⟩ := h
  obtain ⟨xs, n, _, _, hlen, hxl, hg⟩ := DataW.trod_struct Try.underlying26 hm
  obtain ⟨c⟩ := cs
  rw [k26] at hlen
  simp only [Value.cells] at hlen hg
  match c, hlen with
  | [c0, c1, c2, c3, c4, c5, c6, c7, c8], _ =>
    have g0 := hg 0 _ rfl
    have g1 := hg 1 _ rfl
    have g2 := hg 2 _ rfl
    have g3 := hg 3 _ rfl
    have g4 := hg 4 _ rfl
    have g5 := hg 5 _ rfl
    have g6 := hg 6 _ rfl
    have g7 := hg 7 _ rfl
    have g8 := hg 8 _ rfl
    match xs, hxl with
    | [y0, y1, y2, y3, y4, y5, y6, y7, y8], _ =>
      simp [k4, k22, k23, k24] at g0 g1 g2 g3 g4 g5 g6 g7 g8
      obtain ⟨x0, e0, _, w0⟩ := DataW.trod_int Try.underlying22 g0
      obtain ⟨x1, e1, _, w1⟩ := DataW.trod_int Try.underlying22 g1
      obtain ⟨x2, e2, _, w2⟩ := DataW.trod_int Try.underlying22 g2
      obtain ⟨x3, e3, _, w3⟩ := DataW.trod_int Try.underlying22 g3
      obtain ⟨x4, e4, _, w4⟩ := DataW.trod_int Try.underlying22 g4
      obtain ⟨x5, e5, _⟩ := DataW.trod_bool Try.underlying4 g5
      obtain ⟨ld, hd, kd⟩ := bytes_cell g6
      obtain ⟨lt, ht, kt⟩ := bytes_cell g7
      obtain ⟨lr, hr, kr⟩ := rdp_cell g8
      simp only [List.cons.injEq, and_true] at e0 e1 e2 e3 e4 e5
      subst e0 e1 e2 e3 e4 e5
      exact ⟨x0, x1, x2, x3, x4, x5, c6, c7, c8, ld, lt, lr, rfl, hd, ht, hr, bounds_u64 w0, bounds_u64 w1, bounds_u64 w2, bounds_u64 w3, bounds_u64 w4, kd, kt, kr⟩

theorem own_rows_ne {w : World} {b b' : Nat} {e e' : TypeId} {s s' n n' : Nat} {v v' : Value} {xs xs' : List Value} (h : w.ownsRow b e s v n xs) (h' : w.ownsRow b' e' s' v' n' xs') (hne : e ≠ e') : ∀ g, v.ownBlock = some g → v'.ownBlock ≠ some g := by
  intro g hg
  rcases h.2 with ⟨rfl, _⟩ | ⟨g', cap, cur, rfl, _, hh, _⟩
  · simp [Value.ownBlock] at hg
  · simp [Value.ownBlock] at hg
    subst hg
    exact own_blk_ne h' hh (Ne.symm hne)
theorem Blk.set9 {w : World} {g : Nat} {t : TypeId} {a0 a1 a2 a3 a4 a5 a6 a7 a8 : Value} (h : Blk w g t #[a0, a1, a2, a3, a4, a5, a6, a7, a8]) (b0 b1 b2 b3 b4 b5 b6 b7 b8 : Value) :
    Blk (((((((((w.setCell ⟨g, 0, none⟩ b0).setCell ⟨g, 1, none⟩ b1).setCell ⟨g, 2, none⟩ b2).setCell ⟨g, 3, none⟩ b3).setCell ⟨g, 4, none⟩ b4).setCell ⟨g, 5, none⟩ b5).setCell ⟨g, 6, none⟩ b6).setCell ⟨g, 7, none⟩ b7).setCell ⟨g, 8, none⟩ b8) g t #[b0, b1, b2, b3, b4, b5, b6, b7, b8] := by
  have h1 := ((((((((h.set_ 0 b0).set_ 1 b1).set_ 2 b2).set_ 3 b3).set_ 4 b4).set_ 5 b5).set_ 6 b6).set_ 7 b7).set_ 8 b8
  simpa using h1
theorem own_some {w : World} {b n c : Nat} {e : TypeId} {s : Nat} {A : Option Addr} {xs : List Value} (h : w.ownsRow b e s (.slice A n c) n xs) (hn : 0 < n) : ∃ g, A = some ⟨g, 0, none⟩ := by
  rcases h.2 with ⟨h1, h2⟩ | ⟨g', cap, cur, h1, _⟩
  · simp at h1; omega
  · simp at h1; exact ⟨g', h1.1⟩
theorem own_int_at {w : World} {b g n c : Nat} {xs : List Int} (h : w.ownsRow b 5 1 (.slice (some ⟨g, 0, none⟩) n c) n (xs.map (Value.int .u8))) (hl : xs.length = n) (k : Nat) (hk : k < n) : ∃ x, w.cell? ⟨g, k, none⟩ = some (.int .u8 x) ∧ w.frozen? ⟨g, k, none⟩ = false := by
  obtain ⟨h1, h2⟩ := own_cell_at h k (by omega)
  refine ⟨xs[k]'(by omega), ?_, h2⟩
  rw [h1]
  simp [List.getD, show k < xs.length by omega]
theorem own_pair_at {w : World} {b g n c : Nat} {xs : List (Int × Int)} (h : w.ownsRow b 31 2 (.slice (some ⟨g, 0, none⟩) n c) n (pcs xs)) (hl : xs.length = n) (k : Nat) (hk : k < n) : ∃ x, w.cell? ⟨g, k * 2 + 1, none⟩ = some (.int .u64 x) ∧ w.frozen? ⟨g, k * 2 + 1, none⟩ = false := by
  obtain ⟨h1, h2⟩ := own_cell_at h (k * 2 + 1) (by omega)
  refine ⟨(xs.getD k (0, 0)).2, ?_, h2⟩
  rw [h1]
  simp [List.getD, (pcs_get xs k (by omega)).2]
structure CpI (w5 wr : World) (gC : Nat) (cs : Array Value) (D T R : Value) (nD nT nR : Nat) : Prop where
  blk : Blk wr gC 26 cs
  ge : w5.heap.size ≤ gC
  d : ∃ xs : List Int, xs.length = nD ∧ wr.ownsRow w5.heap.size 5 1 D nD (xs.map (Value.int .u8))
  t : ∃ xs : List Int, xs.length = nT ∧ wr.ownsRow w5.heap.size 5 1 T nT (xs.map (Value.int .u8))
  r : ∃ xs : List (Int × Int), xs.length = nR ∧ wr.ownsRow w5.heap.size 31 2 R nR (pcs xs)
  below : Below w5.heap.size w5 wr
section
variable {w5 wr : World} {gC : Nat} {cs : Array Value} {D T R : Value} {nD nT nR : Nat}
theorem CpI.drew (h : CpI w5 wr gC cs D T R nD nT nR) (k : Nat) : CpI w5 (wr.drewN k) gC cs D T R nD nT nR := ⟨h.blk, h.ge, h.d, h.t, h.r, below_drewN h.below k⟩
theorem CpI.same {w' : World} (h : CpI w5 wr gC cs D T R nD nT nR) (hb : Below wr.heap.size wr w') : CpI w5 w' gC cs D T R nD nT nR :=
  ⟨h.blk.same hb, h.ge, let ⟨xs, a, b⟩ := h.d; ⟨xs, a, own_same b hb⟩, let ⟨xs, a, b⟩ := h.t; ⟨xs, a, own_same b hb⟩, let ⟨xs, a, b⟩ := h.r; ⟨xs, a, own_same b hb⟩, h.below.trans (hb.mono h.below.size)⟩
theorem CpI.setD (h : CpI w5 wr gC cs D T R nD nT nR) (hap : Apt D T) {g cap : Nat} (hD : D = .slice (some ⟨g, 0, none⟩) nD cap) (j : Nat) (hj : j < nD) (v : Int) : CpI w5 (wr.setCell ⟨g, j, none⟩ (.int .u8 v)) gC cs D T R nD nT nR := by
  subst hD
  obtain ⟨xs, hl, ho⟩ := h.d
  obtain ⟨ys, hl', ht⟩ := h.t
  obtain ⟨zs, hl'', hr⟩ := h.r
  refine ⟨h.blk.far (fun e => own_blk_ne ho h.blk (by decide) (by simp [Value.ownBlock, e])) _, h.ge, ⟨xs.set j v, by simp [hl], by rw [List.map_set]; exact own_put ho j (by omega) _⟩, ⟨ys, hl', own_far ht (hap g rfl) _⟩, ⟨zs, hl'', own_far hr (own_rows_ne ho hr (by decide) g rfl) _⟩, h.below.setCell (ho.lt g rfl).1 _⟩
theorem CpI.setT (h : CpI w5 wr gC cs D T R nD nT nR) (hap : Apt D T) {g cap : Nat} (hT : T = .slice (some ⟨g, 0, none⟩) nT cap) (j : Nat) (hj : j < nT) (v : Int) : CpI w5 (wr.setCell ⟨g, j, none⟩ (.int .u8 v)) gC cs D T R nD nT nR := by
  subst hT
  obtain ⟨xs, hl, ho⟩ := h.d
  obtain ⟨ys, hl', ht⟩ := h.t
  obtain ⟨zs, hl'', hr⟩ := h.r
  refine ⟨h.blk.far (fun e => own_blk_ne ht h.blk (by decide) (by simp [Value.ownBlock, e])) _, h.ge, ⟨xs, hl, own_far ho (fun e => hap g e rfl) _⟩, ⟨ys.set j v, by simp [hl'], by rw [List.map_set]; exact own_put ht j (by omega) _⟩, ⟨zs, hl'', own_far hr (own_rows_ne ht hr (by decide) g rfl) _⟩, h.below.setCell (ht.lt g rfl).1 _⟩
theorem pcs_set (l : List (Int × Int)) : ∀ (j : Nat) (v : Int), j < l.length → (pcs l).set (j * 2 + 1) (.int .u64 v) = pcs (l.set j ((l.getD j (0, 0)).1, v)) := by
  induction l with
  | nil => intro j v h; simp at h
  | cons x r ih =>
    intro j v hj
    cases j with
    | zero => rfl
    | succ j =>
      have := ih j v (by simpa using hj)
      rw [show (j + 1) * 2 + 1 = (j * 2 + 1) + 1 + 1 by omega]
      exact congrArg (fun z => Value.int .u64 x.1 :: Value.int .u64 x.2 :: z) this
theorem CpI.setR (h : CpI w5 wr gC cs D T R nD nT nR) {g cap : Nat} (hR : R = .slice (some ⟨g, 0, none⟩) nR cap) (j : Nat) (hj : j < nR) (v : Int) : CpI w5 (wr.setCell ⟨g, j * 2 + 1, none⟩ (.int .u64 v)) gC cs D T R nD nT nR := by
  subst hR
  obtain ⟨xs, hl, ho⟩ := h.d
  obtain ⟨ys, hl', ht⟩ := h.t
  obtain ⟨zs, hl'', hr⟩ := h.r
  refine ⟨h.blk.far (fun e => own_blk_ne hr h.blk (by decide) (by simp [Value.ownBlock, e])) _, h.ge, ⟨xs, hl, own_far ho (fun e => own_rows_ne ho hr (by decide) g e rfl) _⟩, ⟨ys, hl', own_far ht (fun e => own_rows_ne ht hr (by decide) g e rfl) _⟩, ⟨zs.set j ((zs.getD j (0, 0)).1, v), by simp [hl''], ?_⟩, h.below.setCell (hr.lt g rfl).1 _⟩
  rw [← pcs_set zs j v (by omega)]
  exact own_put hr (j * 2 + 1) (by omega) _
end
set_option maxHeartbeats 4000000 in
set_option maxRecDepth 100000 in
theorem copies_walk (k i o n c : Int) (fin : Bool) (D T R : Value) (ld lt : List Int) (lr : List (Int × Int)) (w : World) (hD : Rd w .u8 D ld) (hT : Rd w .u8 T lt) (hR : RdP w R lr) :
    Calls Try.prog 3 #[.agg #[.int .u64 k, .int .u64 i, .int .u64 o, .int .u64 n, .int .u64 c, .bool fin, D, T, R]] w fun e w' => e = .returned (.bool true) ∧ Below w.heap.size w w' := by
  have hO := Blk.new w 26 #[.int .u64 k, .int .u64 i, .int .u64 o, .int .u64 n, .int .u64 c, .bool fin, D, T, R]
  have hB := (Below.refl w.heap.size w).alloc (Nat.le_refl _) (.cells #[.int .u64 k, .int .u64 i, .int .u64 o, .int .u64 n, .int .u64 c, .bool fin, D, T, R] 26)
  replace hD := hD.below hB
  replace hT := hT.below hB
  replace hR := hR.below hB
  go_enter Try.func3, Try.ntmps3
  go_wp2_with fail
  refine (awake_any _).mono ?_
  rintro e w1 ⟨rfl, hb⟩
  replace hO := hO.same hb
  replace hD := hD.below hb
  replace hT := hT.below hb
  replace hR := hR.below hb
  replace hB := hB.trans (hb.mono hB.size)
  clear hb
  have c0 : World.cell? w1 ⟨w.heap.size, 0, none⟩ = some (.int .u64 k) := hO.cell 0
  have c1 : World.cell? w1 ⟨w.heap.size, 1, none⟩ = some (.int .u64 i) := hO.cell 1
  have c2 : World.cell? w1 ⟨w.heap.size, 2, none⟩ = some (.int .u64 o) := hO.cell 2
  have c3 : World.cell? w1 ⟨w.heap.size, 3, none⟩ = some (.int .u64 n) := hO.cell 3
  have c4 : World.cell? w1 ⟨w.heap.size, 4, none⟩ = some (.int .u64 c) := hO.cell 4
  have c5 : World.cell? w1 ⟨w.heap.size, 5, none⟩ = some (.bool fin) := hO.cell 5
  have c6 : World.cell? w1 ⟨w.heap.size, 6, none⟩ = some (D) := hO.cell 6
  have c7 : World.cell? w1 ⟨w.heap.size, 7, none⟩ = some (T) := hO.cell 7
  have c8 : World.cell? w1 ⟨w.heap.size, 8, none⟩ = some (R) := hO.cell 8
  have f0 := hO.frozen 0
  have f1 := hO.frozen 1
  have f2 := hO.frozen 2
  have f3 := hO.frozen 3
  have f4 := hO.frozen 4
  have f5 := hO.frozen 5
  have f6 := hO.frozen 6
  have f7 := hO.frozen 7
  have f8 := hO.frozen 8
  go_wp2_with fail
  refine (few_any k i o n c fin D T R ld lt lr _ hD hT hR).mono ?_
  rintro e w2 ⟨D1, T1, R1, rfl, hD1, hT1, hR1, hb⟩
  replace hD1 := own_base hD1 hB.size
  replace hT1 := own_base hT1 hB.size
  replace hR1 := own_base hR1 hB.size
  replace hO := hO.same hb
  replace hB := hB.trans (hb.mono hB.size)
  clear hb hD hT hR c0 c1 c2 c3 c4 c5 c6 c7 c8 f0 f1 f2 f3 f4 f5 f6 f7 f8
  obtain ⟨LD, hLD⟩ : ∃ LD, LD = ld.take 1300 := ⟨_, rfl⟩
  obtain ⟨LT, hLT⟩ : ∃ LT, LT = lt.take 40 := ⟨_, rfl⟩
  obtain ⟨LR, hLR⟩ : ∃ LR, LR = lr.take 30 := ⟨_, rfl⟩
  have dD : LD.length ≤ 1300 := by rw [hLD]; simp; omega
  have dT : LT.length ≤ 40 := by rw [hLT]; simp; omega
  have dR : LR.length ≤ 30 := by rw [hLR]; simp; omega
  rw [← hLD] at hD1
  rw [← hLT] at hT1
  rw [← hLR] at hR1
  clear hLD hLT hLR
  obtain ⟨A1, p1, rfl⟩ := (rd_of_own (k := .u8) hD1).form
  obtain ⟨A2, p2, rfl⟩ := (rd_of_own (k := .u8) hT1).form
  obtain ⟨A3, p3, rfl⟩ := (rdp_of_own hR1).form
  have c0 : World.cell? w2 ⟨w.heap.size, 0, none⟩ = some (.int .u64 k) := hO.cell 0
  have c1 : World.cell? w2 ⟨w.heap.size, 1, none⟩ = some (.int .u64 i) := hO.cell 1
  have c2 : World.cell? w2 ⟨w.heap.size, 2, none⟩ = some (.int .u64 o) := hO.cell 2
  have c3 : World.cell? w2 ⟨w.heap.size, 3, none⟩ = some (.int .u64 n) := hO.cell 3
  have c4 : World.cell? w2 ⟨w.heap.size, 4, none⟩ = some (.int .u64 c) := hO.cell 4
  have c5 : World.cell? w2 ⟨w.heap.size, 5, none⟩ = some (.bool fin) := hO.cell 5
  have c6 : World.cell? w2 ⟨w.heap.size, 6, none⟩ = some (D) := hO.cell 6
  have c7 : World.cell? w2 ⟨w.heap.size, 7, none⟩ = some (T) := hO.cell 7
  have c8 : World.cell? w2 ⟨w.heap.size, 8, none⟩ = some (R) := hO.cell 8
  have f0 := hO.frozen 0
  have f1 := hO.frozen 1
  have f2 := hO.frozen 2
  have f3 := hO.frozen 3
  have f4 := hO.frozen 4
  have f5 := hO.frozen 5
  have f6 := hO.frozen 6
  have f7 := hO.frozen 7
  have f8 := hO.frozen 8
  have nD := own_blk_ne hD1 hO (by decide)
  have nT := own_blk_ne hT1 hO (by decide)
  have nR := own_blk_ne hR1 hO (by decide)
  go_upto_region 4 with (fail)
  refine wp_world (fun wz => Blk wz w.heap.size 26 #[.int .u64 k, .int .u64 i, .int .u64 o, .int .u64 n, .int .u64 c, .bool fin, .slice A1 LD.length p1, .slice A2 LT.length p2, .slice A3 LR.length p3] ∧ World.ownsRow wz w.heap.size 5 1 (.slice A1 LD.length p1) LD.length (LD.map (Value.int .u8)) ∧ World.ownsRow wz w.heap.size 5 1 (.slice A2 LT.length p2) LT.length (LT.map (Value.int .u8)) ∧ World.ownsRow wz w.heap.size 31 2 (.slice A3 LR.length p3) LR.length (pcs LR) ∧ Below w.heap.size w wz) ?_ ?_
  · refine ⟨hO.set9 _ _ _ _ _ _ _ _ _, ?_, ?_, ?_, ?_⟩
    · (repeat (first | with_reducible exact hD1 | with_reducible refine own_far ?_ nD _))
    · (repeat (first | with_reducible exact hT1 | with_reducible refine own_far ?_ nT _))
    · (repeat (first | with_reducible exact hR1 | with_reducible refine own_far ?_ nR _))
    · (repeat (first | with_reducible exact hB | with_reducible refine Below.setCell ?_ (by simp) _))
  clear c0 c1 c2 c3 c4 c5 c6 c7 c8 f0 f1 f2 f3 f4 f5 f6 f7 f8
  clear hO hD1 hT1 hR1 hB nD nT nR
  rintro w3 ⟨hO, hD1, hT1, hR1, hB⟩
  have c0 : World.cell? w3 ⟨w.heap.size, 0, none⟩ = some (.int .u64 k) := hO.cell 0
  have c1 : World.cell? w3 ⟨w.heap.size, 1, none⟩ = some (.int .u64 i) := hO.cell 1
  have c2 : World.cell? w3 ⟨w.heap.size, 2, none⟩ = some (.int .u64 o) := hO.cell 2
  have c3 : World.cell? w3 ⟨w.heap.size, 3, none⟩ = some (.int .u64 n) := hO.cell 3
  have c4 : World.cell? w3 ⟨w.heap.size, 4, none⟩ = some (.int .u64 c) := hO.cell 4
  have c5 : World.cell? w3 ⟨w.heap.size, 5, none⟩ = some (.bool fin) := hO.cell 5
  have c6 : World.cell? w3 ⟨w.heap.size, 6, none⟩ = some (.slice A1 LD.length p1) := hO.cell 6
  have c7 : World.cell? w3 ⟨w.heap.size, 7, none⟩ = some (.slice A2 LT.length p2) := hO.cell 7
  have c8 : World.cell? w3 ⟨w.heap.size, 8, none⟩ = some (.slice A3 LR.length p3) := hO.cell 8
  have f0 := hO.frozen 0
  have f1 := hO.frozen 1
  have f2 := hO.frozen 2
  have f3 := hO.frozen 3
  have f4 := hO.frozen 4
  have f5 := hO.frozen 5
  have f6 := hO.frozen 6
  have f7 := hO.frozen 7
  have f8 := hO.frozen 8
  have rD1 := rd_of_own (k := .u8) hD1
  have rT1 := rd_of_own (k := .u8) hT1
  have rR1 := rdp_of_own hR1
  go_wp2_with fail
  refine (few_any k i o n c fin _ _ _ LD LT LR _ rD1 rT1 rR1).mono ?_
  rintro e w4 ⟨D2, T2, R2, rfl, hD2, hT2, hR2, hb⟩
  rw [List.take_of_length_le dD] at hD2
  rw [List.take_of_length_le dT] at hT2
  rw [List.take_of_length_le dR] at hR2
  obtain ⟨A4, p4, rfl⟩ := (rd_of_own (k := .u8) hD2).form
  obtain ⟨A5, p5, rfl⟩ := (rd_of_own (k := .u8) hT2).form
  obtain ⟨A6, p6, rfl⟩ := (rdp_of_own hR2).form
  replace hO := (hO.same hb).alloc (.cells #[.int .u64 k, .int .u64 i, .int .u64 o, .int .u64 n, .int .u64 c, .bool fin, .slice A4 LD.length p4, .slice A5 LT.length p5, .slice A6 LR.length p6] 26)
  replace hB := (hB.trans (hb.mono hB.size)).alloc (Nat.le_trans hB.size hb.size) (.cells #[.int .u64 k, .int .u64 i, .int .u64 o, .int .u64 n, .int .u64 c, .bool fin, .slice A4 LD.length p4, .slice A5 LT.length p5, .slice A6 LR.length p6] 26)
  replace rD1 := (rD1.below hb).alloc (.cells #[.int .u64 k, .int .u64 i, .int .u64 o, .int .u64 n, .int .u64 c, .bool fin, .slice A4 LD.length p4, .slice A5 LT.length p5, .slice A6 LR.length p6] 26)
  replace rT1 := (rT1.below hb).alloc (.cells #[.int .u64 k, .int .u64 i, .int .u64 o, .int .u64 n, .int .u64 c, .bool fin, .slice A4 LD.length p4, .slice A5 LT.length p5, .slice A6 LR.length p6] 26)
  replace rR1 := (rR1.below hb).alloc (.cells #[.int .u64 k, .int .u64 i, .int .u64 o, .int .u64 n, .int .u64 c, .bool fin, .slice A4 LD.length p4, .slice A5 LT.length p5, .slice A6 LR.length p6] 26)
  have rD2 := (rd_of_own (k := .u8) hD2).alloc (.cells #[.int .u64 k, .int .u64 i, .int .u64 o, .int .u64 n, .int .u64 c, .bool fin, .slice A4 LD.length p4, .slice A5 LT.length p5, .slice A6 LR.length p6] 26)
  have rT2 := (rd_of_own (k := .u8) hT2).alloc (.cells #[.int .u64 k, .int .u64 i, .int .u64 o, .int .u64 n, .int .u64 c, .bool fin, .slice A4 LD.length p4, .slice A5 LT.length p5, .slice A6 LR.length p6] 26)
  have rR2 := (rdp_of_own hR2).alloc (.cells #[.int .u64 k, .int .u64 i, .int .u64 o, .int .u64 n, .int .u64 c, .bool fin, .slice A4 LD.length p4, .slice A5 LT.length p5, .slice A6 LR.length p6] 26)
  have hM := Blk.new w4 26 #[.int .u64 k, .int .u64 i, .int .u64 o, .int .u64 n, .int .u64 c, .bool fin, .slice A4 LD.length p4, .slice A5 LT.length p5, .slice A6 LR.length p6]
  clear hD1 hT1 hR1 hD2 hT2 hR2 hb
  clear c0 c1 c2 c3 c4 c5 c6 c7 c8 f0 f1 f2 f3 f4 f5 f6 f7 f8
  go_upto_region 5 with (fail)
  refine wp_world (fun wz => Blk wz w.heap.size 26 #[.int .u64 k, .int .u64 i, .int .u64 o, .int .u64 n, .int .u64 c, .bool fin, .slice A1 LD.length p1, .slice A2 LT.length p2, .slice A3 LR.length p3] ∧ Blk wz w4.heap.size 26 #[.int .u64 k, .int .u64 i, .int .u64 o, .int .u64 n, .int .u64 c, .bool fin, .slice A4 LD.length p4, .slice A5 LT.length p5, .slice A6 LR.length p6] ∧ Below w.heap.size w wz ∧ Rd wz .u8 (.slice A1 LD.length p1) LD ∧ Rd wz .u8 (.slice A2 LT.length p2) LT ∧ RdP wz (.slice A3 LR.length p3) LR ∧ Rd wz .u8 (.slice A4 LD.length p4) LD ∧ Rd wz .u8 (.slice A5 LT.length p5) LT ∧ RdP wz (.slice A6 LR.length p6) LR) ⟨hO, hM, hB, rD1, rT1, rR1, rD2, rT2, rR2⟩ ?_
  clear hO hM hB rD1 rT1 rR1 rD2 rT2 rR2
  rintro w5 ⟨hO, hM, hB, rD1, rT1, rR1, rD2, rT2, rR2⟩
  have c0 : World.cell? w5 ⟨w4.heap.size, 0, none⟩ = some (.int .u64 k) := hM.cell 0
  have c1 : World.cell? w5 ⟨w4.heap.size, 1, none⟩ = some (.int .u64 i) := hM.cell 1
  have c2 : World.cell? w5 ⟨w4.heap.size, 2, none⟩ = some (.int .u64 o) := hM.cell 2
  have c3 : World.cell? w5 ⟨w4.heap.size, 3, none⟩ = some (.int .u64 n) := hM.cell 3
  have c4 : World.cell? w5 ⟨w4.heap.size, 4, none⟩ = some (.int .u64 c) := hM.cell 4
  have c5 : World.cell? w5 ⟨w4.heap.size, 5, none⟩ = some (.bool fin) := hM.cell 5
  have c6 : World.cell? w5 ⟨w4.heap.size, 6, none⟩ = some (.slice A4 LD.length p4) := hM.cell 6
  have c7 : World.cell? w5 ⟨w4.heap.size, 7, none⟩ = some (.slice A5 LT.length p5) := hM.cell 7
  have c8 : World.cell? w5 ⟨w4.heap.size, 8, none⟩ = some (.slice A6 LR.length p6) := hM.cell 8
  have f0 := hM.frozen 0
  have f1 := hM.frozen 1
  have f2 := hM.frozen 2
  have f3 := hM.frozen 3
  have f4 := hM.frozen 4
  have f5 := hM.frozen 5
  have f6 := hM.frozen 6
  have f7 := hM.frozen 7
  have f8 := hM.frozen 8
  go_wp2_with fail
  refine (copy_any k i o n c fin _ _ _ LD LT LR _ rD2 rT2 rR2 dD dT dR).mono ?_
  rintro e w6 ⟨D3, T3, R3, rfl, hD3, hT3, hR3, hap, hb⟩
  obtain ⟨A7, p7, rfl⟩ := (rd_of_own (k := .u8) hD3).form
  obtain ⟨A8, p8, rfl⟩ := (rd_of_own (k := .u8) hT3).form
  obtain ⟨A9, p9, rfl⟩ := (rdp_of_own hR3).form
  clear c0 c1 c2 c3 c4 c5 c6 c7 c8 f0 f1 f2 f3 f4 f5 f6 f7 f8
  go_upto_region 6 with (fail)
  have rD3 := rd_of_own (k := .u8) hD3
  have rT3 := rd_of_own (k := .u8) hT3
  have rR3 := rdp_of_own hR3
  obtain ⟨CS, hCS⟩ : ∃ CS : Array Value, CS = #[.int .u64 k, .int .u64 i, .int .u64 o, .int .u64 n, .int .u64 c, .bool fin, .slice A7 LD.length p7, .slice A8 LT.length p8, .slice A9 LR.length p9] := ⟨_, rfl⟩
  refine wp_world (fun wz => CpI w5 wz w6.heap.size CS (.slice A7 LD.length p7) (.slice A8 LT.length p8) (.slice A9 LR.length p9) LD.length LT.length LR.length ∧ Rd wz .u8 (.slice A7 LD.length p7) LD ∧ Rd wz .u8 (.slice A8 LT.length p8) LT ∧ RdP wz (.slice A9 LR.length p9) LR) ⟨?_, rD3.alloc _, rT3.alloc _, rR3.alloc _⟩ ?_
  · exact ⟨hCS ▸ Blk.new w6 26 _, hb.size, ⟨LD, rfl, own_same hD3 ((Below.refl _ _).alloc (Nat.le_refl _) _)⟩, ⟨LT, rfl, own_same hT3 ((Below.refl _ _).alloc (Nat.le_refl _) _)⟩, ⟨LR, rfl, own_same hR3 ((Below.refl _ _).alloc (Nat.le_refl _) _)⟩, hb.alloc hb.size _⟩
  clear rD3 rT3 rR3 hD3 hT3 hR3 hb
  rintro w7 ⟨hI, rD3, rT3, rR3⟩
  have hC := hI.blk
  rw [hCS] at hC
  have hO7 := hO.same hI.below
  have c0 : World.cell? w7 ⟨w6.heap.size, 0, none⟩ = some (.int .u64 k) := hC.cell 0
  have c1 : World.cell? w7 ⟨w6.heap.size, 1, none⟩ = some (.int .u64 i) := hC.cell 1
  have c2 : World.cell? w7 ⟨w6.heap.size, 2, none⟩ = some (.int .u64 o) := hC.cell 2
  have c3 : World.cell? w7 ⟨w6.heap.size, 3, none⟩ = some (.int .u64 n) := hC.cell 3
  have c4 : World.cell? w7 ⟨w6.heap.size, 4, none⟩ = some (.int .u64 c) := hC.cell 4
  have c5 : World.cell? w7 ⟨w6.heap.size, 5, none⟩ = some (.bool fin) := hC.cell 5
  have c6 : World.cell? w7 ⟨w6.heap.size, 6, none⟩ = some (.slice A7 LD.length p7) := hC.cell 6
  have c7 : World.cell? w7 ⟨w6.heap.size, 7, none⟩ = some (.slice A8 LT.length p8) := hC.cell 7
  have c8 : World.cell? w7 ⟨w6.heap.size, 8, none⟩ = some (.slice A9 LR.length p9) := hC.cell 8
  have z0 : World.cell? w7 ⟨w.heap.size, 0, none⟩ = some (.int .u64 k) := hO7.cell 0
  have z1 : World.cell? w7 ⟨w.heap.size, 1, none⟩ = some (.int .u64 i) := hO7.cell 1
  have z2 : World.cell? w7 ⟨w.heap.size, 2, none⟩ = some (.int .u64 o) := hO7.cell 2
  have z3 : World.cell? w7 ⟨w.heap.size, 3, none⟩ = some (.int .u64 n) := hO7.cell 3
  have z4 : World.cell? w7 ⟨w.heap.size, 4, none⟩ = some (.int .u64 c) := hO7.cell 4
  have z5 : World.cell? w7 ⟨w.heap.size, 5, none⟩ = some (.bool fin) := hO7.cell 5
  have z6 : World.cell? w7 ⟨w.heap.size, 6, none⟩ = some (.slice A1 LD.length p1) := hO7.cell 6
  have z7 : World.cell? w7 ⟨w.heap.size, 7, none⟩ = some (.slice A2 LT.length p2) := hO7.cell 7
  have z8 : World.cell? w7 ⟨w.heap.size, 8, none⟩ = some (.slice A3 LR.length p3) := hO7.cell 8
  go_wp2_with fail
  refine (sameF_yes k i o n c fin _ _ _ _ _ _ LD LT LR _ rD3 rT3 rR3 (rD1.below hI.below) (rT1.below hI.below) (rR1.below hI.below)).mono ?_
  rintro e w8 ⟨rfl, hb⟩
  replace hI := hI.same hb
  clear hb hC hO7 rD3 rT3 rR3
  clear c0 c1 c2 c3 c4 c5 c6 c7 c8 z0 z1 z2 z3 z4 z5 z6 z7 z8
  have hcx : ∀ wz, CpI w5 wz w6.heap.size CS (.slice A7 LD.length p7) (.slice A8 LT.length p8) (.slice A9 LR.length p9) LD.length LT.length LR.length → World.cell? wz ⟨w6.heap.size, 6, none⟩ = some (.slice A7 LD.length p7) ∧ World.cell? wz ⟨w6.heap.size, 7, none⟩ = some (.slice A8 LT.length p8) ∧ World.cell? wz ⟨w6.heap.size, 8, none⟩ = some (.slice A9 LR.length p9) := fun wz h => by have hC := h.blk; rw [hCS] at hC; exact ⟨hC.cell 6, hC.cell 7, hC.cell 8⟩
  obtain ⟨c6, c7, c8⟩ := hcx _ hI
  go_wp2_with fail
  go_loopw [23] (fun i wr => ∃ kk : Nat, kk ≤ LD.length ∧ i = .int .i64 kk ∧ CpI w5 wr w6.heap.size CS (.slice A7 LD.length p7) (.slice A8 LT.length p8) (.slice A9 LR.length p9) LD.length LT.length LR.length) (fun i _ => LD.length - (intOf i).toNat)
  case atStart => exact ⟨0, Nat.zero_le _, rfl, hI⟩
  case round =>
    clear hI c6 c7 c8
    obtain ⟨kk, hk, rfl, hI⟩ := hrel
    obtain ⟨c6, c7, c8⟩ := hcx _ hI
    by_cases hlt : kk < LD.length
    · obtain ⟨xs, hl, ho⟩ := hI.d
      obtain ⟨g, rfl⟩ := own_some ho (by omega)
      obtain ⟨x, d0, d1⟩ := own_int_at ho hl kk hlt
      clear ho
      go_wp2_with fail
      go_roundw
      case rel => exact ⟨kk + 1, by omega, by go_num, hI.setD hap rfl kk hlt _⟩
      case measure => simp [intOf]; omega
    · go_wp2_with fail
      go_loopw [37] (fun i wr => ∃ kk : Nat, kk ≤ LR.length ∧ i = .int .i64 kk ∧ CpI w5 wr w6.heap.size CS (.slice A7 LD.length p7) (.slice A8 LT.length p8) (.slice A9 LR.length p9) LD.length LT.length LR.length) (fun i _ => LR.length - (intOf i).toNat)
      case atStart => exact ⟨0, Nat.zero_le _, rfl, hI⟩
      case round =>
        clear hI c6 c7 c8
        obtain ⟨kk, hk, rfl, hI⟩ := hrel
        obtain ⟨c6, c7, c8⟩ := hcx _ hI
        by_cases hlt : kk < LR.length
        · obtain ⟨xs, hl, ho⟩ := hI.r
          obtain ⟨g, rfl⟩ := own_some ho (by omega)
          obtain ⟨x, d0, d1⟩ := own_pair_at ho hl kk hlt
          clear ho
          go_wp2_with fail
          go_roundw
          case rel => exact ⟨kk + 1, by omega, by go_num, hI.setR rfl kk hlt _⟩
          case measure => simp [intOf]; omega
        · go_wp2_with fail
          go_loopw [53] (fun i wr => ∃ kk : Nat, kk ≤ LT.length ∧ i = .int .i64 kk ∧ CpI w5 wr w6.heap.size CS (.slice A7 LD.length p7) (.slice A8 LT.length p8) (.slice A9 LR.length p9) LD.length LT.length LR.length) (fun i _ => LT.length - (intOf i).toNat)
          case atStart => exact ⟨0, Nat.zero_le _, rfl, hI⟩
          case round =>
            clear hI c6 c7 c8
            obtain ⟨kk, hk, rfl, hI⟩ := hrel
            obtain ⟨c6, c7, c8⟩ := hcx _ hI
            by_cases hlt : kk < LT.length
            · obtain ⟨xs, hl, ho⟩ := hI.t
              obtain ⟨g, rfl⟩ := own_some ho (by omega)
              obtain ⟨x, d0, d1⟩ := own_int_at ho hl kk hlt
              clear ho
              go_wp2_with fail
              go_roundw
              case rel => exact ⟨kk + 1, by omega, by go_num, hI.setT hap rfl kk hlt _⟩
              case measure => simp [intOf]; omega
            · clear c6 c7 c8
              have hM8 := hM.same hI.below
              have hO8 := hO.same hI.below
              have c0 : World.cell? wr ⟨w4.heap.size, 0, none⟩ = some (.int .u64 k) := hM8.cell 0
              have c1 : World.cell? wr ⟨w4.heap.size, 1, none⟩ = some (.int .u64 i) := hM8.cell 1
              have c2 : World.cell? wr ⟨w4.heap.size, 2, none⟩ = some (.int .u64 o) := hM8.cell 2
              have c3 : World.cell? wr ⟨w4.heap.size, 3, none⟩ = some (.int .u64 n) := hM8.cell 3
              have c4 : World.cell? wr ⟨w4.heap.size, 4, none⟩ = some (.int .u64 c) := hM8.cell 4
              have c5 : World.cell? wr ⟨w4.heap.size, 5, none⟩ = some (.bool fin) := hM8.cell 5
              have c6 : World.cell? wr ⟨w4.heap.size, 6, none⟩ = some (.slice A4 LD.length p4) := hM8.cell 6
              have c7 : World.cell? wr ⟨w4.heap.size, 7, none⟩ = some (.slice A5 LT.length p5) := hM8.cell 7
              have c8 : World.cell? wr ⟨w4.heap.size, 8, none⟩ = some (.slice A6 LR.length p6) := hM8.cell 8
              have z0 : World.cell? wr ⟨w.heap.size, 0, none⟩ = some (.int .u64 k) := hO8.cell 0
              have z1 : World.cell? wr ⟨w.heap.size, 1, none⟩ = some (.int .u64 i) := hO8.cell 1
              have z2 : World.cell? wr ⟨w.heap.size, 2, none⟩ = some (.int .u64 o) := hO8.cell 2
              have z3 : World.cell? wr ⟨w.heap.size, 3, none⟩ = some (.int .u64 n) := hO8.cell 3
              have z4 : World.cell? wr ⟨w.heap.size, 4, none⟩ = some (.int .u64 c) := hO8.cell 4
              have z5 : World.cell? wr ⟨w.heap.size, 5, none⟩ = some (.bool fin) := hO8.cell 5
              have z6 : World.cell? wr ⟨w.heap.size, 6, none⟩ = some (.slice A1 LD.length p1) := hO8.cell 6
              have z7 : World.cell? wr ⟨w.heap.size, 7, none⟩ = some (.slice A2 LT.length p2) := hO8.cell 7
              have z8 : World.cell? wr ⟨w.heap.size, 8, none⟩ = some (.slice A3 LR.length p3) := hO8.cell 8
              go_wp2_with fail
              refine (sameF_yes k i o n c fin _ _ _ _ _ _ LD LT LR _ (rD2.below hI.below) (rT2.below hI.below) (rR2.below hI.below) (rD1.below hI.below) (rT1.below hI.below) (rR1.below hI.below)).mono ?_
              rintro e w9 ⟨rfl, hb⟩
              go_wp2_with fail
              go_ret
              have hB9 := hB.trans (hI.below.mono hB.size)
              exact ⟨rfl, hB9.trans (hb.mono hB9.size)⟩

open Go.ChangeShapes Go.WideShapes Go.ChangeAt
set_option maxRecDepth 100000 in
theorem copies_lifted (os : Os) (started : os.Started) (H : Type) (enc : TypeId × Value → H) :
    ReturnsInHanded {} Try.checked os 3 .any (Rows.frameCopiesSpec.pre6 enc Try.prog Try.f3 Rows.frameCopiesRow.domain false) (Rows.frameCopiesSpec.post enc Try.prog Try.f3 false true false false) := by
  refine returnsInHanded_of_change (C := Try.checked) own started (by kernel_rfl) Try.func3
    (ChangeSpec.witness6 (enc := enc) (C := Try.checked) false ⟨#[], #[.agg #[.int .u64 0, .int .u64 0, .int .u64 0, .int .u64 0, .int .u64 0, .bool false, .slice none 0 0, .slice none 0 0, .slice none 0 0]], []⟩ 8 (by kernel_rfl) (by kernel_rfl) (by kernel_rfl) (by kernel_rfl)) ?_
  intro W base args ds gs before hval0 hW hcnd _
  have hval : ∀ (j : Nat) t v, Try.f3.params[j]? = some t → args[j]? = some v → Value.okWide Try.prog W .any base t v := hval0
  have hW' := hW
  obtain ⟨p, q, hA0, hV, rfl, hfz, hnd⟩ := hW
  have hA : DataW.TrodAll enc Try.prog W 0 (fun _ => true) true Try.f3.params.toList args.toList ds p := hA0
  rw [Try.params3] at hA hval
  obtain ⟨v0, vs0, d0, ds0, p0, q0, hargs, rfl, rfl, h0, r0⟩ := trodAll_cons hA
  obtain ⟨rfl, rfl, rfl⟩ := trodAll_nil r0
  obtain rfl : args = #[v0] := by cases args; simp_all
  obtain ⟨rfl, rfl⟩ := trodVars_none hV
  have k0 := h0
  have lt0 : ∀ x ∈ p0, x.block < W.heap.size := by obtain ⟨m, hm⟩ := k0; exact DataW.trod_lt m _ _ _ hm
  obtain ⟨kk0, i0, o0, n0, c0, f0, D0, T0, R0, x0, y0, z0, rfl, hd0, ht0, hr0, -⟩ := frame_of (hval 0 26 v0 rfl rfl) h0
  clear hA0 hval0
  refine (copies_walk kk0 i0 o0 n0 c0 f0 D0 T0 R0 x0 y0 z0 W hd0 ht0 hr0).mono fun e W' ⟨he, bel⟩ => ?_
  subst he
  exact ⟨_, rfl, _, _, _, [], _, [], hW', trodAll_mk1 (shut_bool Try.underlying4 _), (trodAll_cons_mk (Below.trod laidOut (by kernel_rfl) (of_decide_eq_true (by kernel_rfl)) k0 bel lt0) trodAll_mk0), rfl, bel.frame _, fun h => by cases h⟩

theorem copies_holds : Rows.FrameCopiesSaid :=
  OpenClaim.holds_of_wide 3 Try.f3 rfl rfl rfl rfl rfl rfl rfl ⟨rfl, rfl, rfl, rfl, rfl⟩ rfl rfl rfl rfl rfl (by kernel_rfl) Try.func3 (by kernel_rfl)
    (of_decide_eq_true (by kernel_rfl)) (by unfold Func.isWrapper; first | (rw [if_pos (by decide +kernel)]; kernel_rfl) | (rw [if_neg (by decide +kernel)]; exact ⟨rfl, rfl⟩))
    (fun os started H enc _ => copies_lifted os started H enc)
#print axioms copies_holds

end Go.Proofs.Ytbigbnfllkacoaa
