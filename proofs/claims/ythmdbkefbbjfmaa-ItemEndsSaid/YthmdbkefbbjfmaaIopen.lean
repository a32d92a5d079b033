/-
  Fronts and objects that came in, opened to their parts.
-/
import Derived.Test.YthmdbkefbbjfmaaIbytes
namespace Go.Proofs.Ythmdbkefbbjfmaa
open Go.RowKit
set_option linter.unusedVariables false
set_option linter.unusedSimpArgs false


open Go.ChangeShapes Go.WideShapes Go.ChangeAt Go.Deep in
theorem bytes_of {H : Type} {enc : TypeId × Value → H} {W : World} {A : Option Addr} {len cap : Nat} {d1 : DataW H} {p1 : List MemPlace}
    (h : DataW.Trod enc Try.prog W 0 (fun _ => true) true 27 (.slice A len cap) d1 p1) : ∃ l, Rd W .u8 (.slice A len cap) l ∧ BytesOk l := by
  obtain ⟨fuel, hf⟩ := h
  rcases open_ints Try.underlying27 Try.underlying5 (by kernel_rfl) hf with ⟨hcs, _⟩ | ⟨x, l, c, zs, hcs, _, hl, hm, hz, _, hcell, hwz⟩
  · simp [Value.cells] at hcs
    obtain ⟨rfl, rfl, rfl⟩ := hcs
    exact ⟨[], Rd.nil _ _, fun x hx => by simp at hx⟩
  · simp [Value.cells] at hcs
    obtain ⟨rfl, rfl, rfl⟩ := hcs
    have hz' : zs.length = cap := by simpa using hz
    have hlen : (zs.take len).length = len := by simp; omega
    refine ⟨zs.take len, ⟨some x, cap, by rw [hlen], by omega, hm, fun e => (by cases e), fun i hi => ?_⟩, fun n hn => bounds_u8 (hwz n (List.mem_of_mem_take hn))⟩
    rw [hlen] at hi
    have hc := hcell i (by omega)
    have hsp : x.spot = none := by
      have h0 := World.cell?_spot (hcell 0 (by omega))
      simpa [Addr.add] using h0
    obtain ⟨b, o, s⟩ := x
    simp only at hsp
    subst hsp
    have hlt := World.block_lt_of_cell? W _ hc
    rw [addr_add] at hc hlt
    refine ⟨b, o, rfl, hlt, fun j hj => ?_⟩
    obtain rfl : j = 0 := by omega
    rw [show o + (i * 1 + 0) = o + i by omega, hc]
    simp [List.getD, List.getElem?_take, hi]
/-- The five cells of an object. -/
def ObjC (W : World) (cs : List Value) (G O pr : Int) (gr : Bool) (V : Value) (l : List Int) : Prop := cs = [.int .u64 G, .int .u64 O, .int .u8 pr, .bool gr, V] ∧ ObOk G O pr ∧ Rd W .u8 V l ∧ BytesOk l
open Go.ChangeShapes Go.WideShapes Go.ChangeAt Go.Deep in
set_option maxRecDepth 100000 in
theorem obj_cells {H : Type} {enc : TypeId × Value → H} {W : World} {m : Nat} {cs : List Value} {x : DataW H × List MemPlace}
    (hm : DataW.trod enc Try.prog W 0 (fun _ => true) true m 29 cs = some x) : ∃ G O pr gr V l, ObjC W cs G O pr gr V l := by
  have k26 : Try.prog.cellsOf 26 = 2 := by kernel_rfl
  have k5 : Try.prog.cellsOf 5 = 1 := by kernel_rfl
  have k4 : Try.prog.cellsOf 4 = 1 := by kernel_rfl
  have k27 : Try.prog.cellsOf 27 = 1 := by kernel_rfl
  have k22 : Try.prog.cellsOf 22 = 1 := by kernel_rfl
  have k29 : Try.prog.cellsOf 29 = 5 := by kernel_rfl
  obtain ⟨xs, n, _, _, hlen, hxl, hg⟩ := DataW.trod_struct Try.underlying29 hm
  rw [k29] at hlen
  match cs, hlen with
  | [c0, c1, c2, c3, c4], _ =>
    have g0 := hg 0 _ rfl
    have g1 := hg 1 _ rfl
    have g2 := hg 2 _ rfl
    have g3 := hg 3 _ rfl
    match xs, hxl with
    | [y0, y1, y2, y3], _ =>
      simp [k26, k5, k4, k27] at g0 g1 g2 g3
      obtain ⟨zs, n', _, _, _, hzl, hq⟩ := DataW.trod_struct Try.underlying26 g0
      have q0 := hq 0 _ rfl
      have q1 := hq 1 _ rfl
      match zs, hzl with
      | [z0, z1], _ =>
        simp [k22] at q0 q1
        obtain ⟨G, e0, _, w0⟩ := DataW.trod_int Try.underlying22 q0
        obtain ⟨O, e1, _, w1⟩ := DataW.trod_int Try.underlying22 q1
        obtain ⟨pr, e2, _, w2⟩ := DataW.trod_int Try.underlying5 g1
        obtain ⟨gr, e3, _⟩ := DataW.trod_bool Try.underlying4 g2
        simp only [List.cons.injEq, and_true] at e0 e1 e2 e3
        subst e0 e1 e2 e3
        have key : ∃ l, Rd W .u8 c4 l ∧ BytesOk l := by
          rcases open_slice Try.underlying27 g3 with ⟨e, _⟩ | ⟨a, len, cap, m', n'', D, Pl, e, _⟩
          · simp only [List.cons.injEq, and_true] at e
            rw [e]
            exact ⟨[], Rd.nil _ _, fun x hx => by simp at hx⟩
          · simp only [List.cons.injEq, and_true] at e
            rw [e] at g3 ⊢
            exact bytes_of ⟨n, g3⟩
        obtain ⟨l, hl1, hl2⟩ := key
        exact ⟨G, O, pr, gr, c4, l, rfl, ⟨bounds_u64 w0, bounds_u64 w1, bounds_u8 w2⟩, hl1, hl2⟩
open Go.ChangeShapes Go.WideShapes Go.ChangeAt Go.Deep in
theorem obj_of {H : Type} {enc : TypeId × Value → H} {W : World} {v : Value} {d : DataW H} {p : List MemPlace} {r : Reach} {b : Nat} (hv : Value.okWide Try.prog W r b 29 v)
    (h : DataW.Trod enc Try.prog W 0 (fun _ => true) true 29 v d p) : ∃ G O pr gr V l, v = .agg #[.int .u64 G, .int .u64 O, .int .u8 pr, .bool gr, V] ∧ ObOk G O pr ∧ Rd W .u8 V l ∧ BytesOk l := by
  obtain ⟨cs, rfl, _⟩ := okWide_struct Try.underlying29 hv
  obtain ⟨m, hm⟩ := h
  obtain ⟨G, O, pr, gr, V, l, hc, ho, hr, hk⟩ := obj_cells hm
  obtain ⟨c⟩ := cs
  simp only [Value.cells] at hc
  exact ⟨G, O, pr, gr, V, l, by rw [show c = _ from hc], ho, hr, hk⟩
open Go.ChangeShapes Go.WideShapes Go.ChangeAt Go.Deep in
theorem head_of {H : Type} {enc : TypeId × Value → H} {W : World} {v : Value} {d : DataW H} {p : List MemPlace} {r : Reach} {b : Nat} (hv : Value.okWide Try.prog W r b 24 v)
    (h : DataW.Trod enc Try.prog W 0 (fun _ => true) true 24 v d p) : ∃ f id hg hp, v = .agg #[.bool f, .int .u64 id, .int .u64 hg, .int .u8 hp] ∧ (0 ≤ id ∧ id ≤ 18446744073709551615) ∧ (0 ≤ hg ∧ hg ≤ 18446744073709551615) ∧ (0 ≤ hp ∧ hp ≤ 255) := by
  have k5 : Try.prog.cellsOf 5 = 1 := by kernel_rfl
  have k4 : Try.prog.cellsOf 4 = 1 := by kernel_rfl
  have k22 : Try.prog.cellsOf 22 = 1 := by kernel_rfl
  have k24 : Try.prog.cellsOf 24 = 4 := by kernel_rfl
  obtain ⟨cs, rfl, _⟩ := okWide_struct Try.underlying24 hv
  obtain ⟨m, hm⟩ := h
  obtain ⟨xs, n, _, _, hlen, hxl, hg⟩ := DataW.trod_struct Try.underlying24 hm
  obtain ⟨c⟩ := cs
  rw [k24] at hlen
  simp only [Value.cells] at hlen hg
  match c, hlen with
  | [c0, c1, c2, c3], _ =>
    have g0 := hg 0 _ rfl
    have g1 := hg 1 _ rfl
    have g2 := hg 2 _ rfl
    have g3 := hg 3 _ rfl
    match xs, hxl with
    | [y0, y1, y2, y3], _ =>
      simp [k5, k4, k22] at g0 g1 g2 g3
      obtain ⟨f, e0, _⟩ := DataW.trod_bool Try.underlying4 g0
      obtain ⟨id, e1, _, w1⟩ := DataW.trod_int Try.underlying22 g1
      obtain ⟨hg', e2, _, w2⟩ := DataW.trod_int Try.underlying22 g2
      obtain ⟨hp, e3, _, w3⟩ := DataW.trod_int Try.underlying5 g3
      simp only [List.cons.injEq, and_true] at e0 e1 e2 e3
      subst e0 e1 e2 e3
      exact ⟨f, id, hg', hp, rfl, bounds_u64 w1, bounds_u64 w2, bounds_u8 w3⟩

open Go.ChangeShapes Go.WideShapes Go.ChangeAt
set_option maxRecDepth 100000 in
theorem bytes_lifted (os : Os) (started : os.Started) (H : Type) (enc : TypeId × Value → H) :
    ReturnsInHanded {} Try.checked os 3 .any (Rows.itemBytesSpec.pre6 enc Try.prog Try.f3 Rows.itemBytesRow.domain false) (Rows.itemBytesSpec.post enc Try.prog Try.f3 false true false false) := by
  refine returnsInHanded_of_change (C := Try.checked) own started (by kernel_rfl) Try.func3
    (ChangeSpec.witness6 (enc := enc) (C := Try.checked) false ⟨#[], #[.agg #[.bool false, .int .u64 0, .int .u64 0, .int .u8 0], .int .u64 0, .agg #[.int .u64 0, .int .u64 0, .int .u8 0, .bool false, .slice none 0 0]], []⟩ 8 (by kernel_rfl) (by kernel_rfl) (by kernel_rfl) (by kernel_rfl)) ?_
  intro W base args ds gs before hval0 hW hcnd _
  have hval : ∀ (j : Nat) t v, Try.f3.params[j]? = some t → args[j]? = some v → Value.okWide Try.prog W .any base t v := hval0
  have hW' := hW
  obtain ⟨p, q, hA0, hV, rfl, hfz, hnd⟩ := hW
  have hA : DataW.TrodAll enc Try.prog W 0 (fun _ => true) true Try.f3.params.toList args.toList ds p := hA0
  rw [Try.params3] at hA hval
  obtain ⟨v0, vs0, d0, ds0, p0, q0, hargs, rfl, rfl, h0, r0⟩ := trodAll_cons hA
  obtain ⟨v1, vs1, d1, ds1, p1, q1, rfl, rfl, rfl, h1, r1⟩ := trodAll_cons r0
  obtain ⟨v2, vs2, d2, ds2, p2, q2, rfl, rfl, rfl, h2, r2⟩ := trodAll_cons r1
  obtain ⟨rfl, rfl, rfl⟩ := trodAll_nil r2
  obtain rfl : args = #[v0, v1, v2] := by cases args; simp_all
  obtain ⟨rfl, rfl⟩ := trodVars_none hV
  have k0 := h0
  have lt0 : ∀ x ∈ p0, x.block < W.heap.size := by obtain ⟨m, hm⟩ := k0; exact DataW.trod_lt m _ _ _ hm
  obtain ⟨f0, i0, g0, s0, rfl, u0, x0, y0⟩ := head_of (hval 0 24 v0 rfl rfl) h0
  obtain ⟨a1, rfl, rfl, rfl, w1⟩ := open_int Try.underlying22 (hval 1 22 v1 rfl rfl) h1
  have k2 := h2
  have lt2 : ∀ x ∈ p2, x.block < W.heap.size := by obtain ⟨m, hm⟩ := k2; exact DataW.trod_lt m _ _ _ hm
  obtain ⟨G2, O2, z2, b2, V2, l2, rfl, ho2, hR2, hK2⟩ := obj_of (hval 2 29 v2 rfl rfl) h2
  clear hA0 hval0
  refine (bytes_walk f0 i0 g0 s0 a1 G2 O2 z2 b2 V2 l2 W hR2 u0 x0 y0 (bounds_u64 w1) ho2).mono fun e W' ⟨he, bel⟩ => ?_
  subst he
  exact ⟨_, rfl, _, _, _, [], _, [], hW', trodAll_mk1 (shut_bool Try.underlying4 _), (trodAll_cons_mk (Below.trod laidOut (by kernel_rfl) (of_decide_eq_true (by kernel_rfl)) k0 bel lt0) (trodAll_cons_mk (shut_int Try.underlying22 w1) (trodAll_cons_mk (Below.trod laidOut (by kernel_rfl) (of_decide_eq_true (by kernel_rfl)) k2 bel lt2) trodAll_mk0))), rfl, bel.frame _, fun h => by cases h⟩

theorem bytes_holds : Rows.ItemBytesSaid :=
  OpenClaim.holds_of_wide 3 Try.f3 rfl rfl rfl rfl rfl rfl rfl ⟨rfl, rfl, rfl, rfl, rfl⟩ rfl rfl rfl rfl rfl (by kernel_rfl) Try.func3 (by kernel_rfl)
    (of_decide_eq_true (by kernel_rfl)) (by unfold Func.isWrapper; first | (rw [if_pos (by decide +kernel)]; kernel_rfl) | (rw [if_neg (by decide +kernel)]; exact ⟨rfl, rfl⟩))
    (fun os started H enc _ => bytes_lifted os started H enc)
#print axioms bytes_holds

end Go.Proofs.Ythmdbkefbbjfmaa
