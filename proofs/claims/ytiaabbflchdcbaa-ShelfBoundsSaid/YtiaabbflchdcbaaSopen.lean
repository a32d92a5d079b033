/-
  Bytes that came in. No condition.
-/
import Derived.Test.YtiaabbflchdcbaaShaw
namespace Go.Proofs.Ytiaabbflchdcbaa
open Go.RowKit
set_option linter.unusedVariables false
set_option linter.unusedSimpArgs false

open Go.ChangeShapes Go.WideShapes Go.ChangeAt Go.Deep in
theorem bytes_of {H : Type} {enc : TypeId × Value → H} {W : World} {A : Option Addr} {len cap : Nat} {d1 : DataW H} {p1 : List MemPlace}
    (h : DataW.Trod enc Try.prog W 0 (fun _ => true) true 30 (.slice A len cap) d1 p1) : ∃ l, Rd W .u8 (.slice A len cap) l ∧ BytesOk l := by
  obtain ⟨fuel, hf⟩ := h
  rcases open_ints Try.underlying30 Try.underlying5 (by kernel_rfl) hf with ⟨hcs, _⟩ | ⟨x, l, c, zs, hcs, _, hl, hm, hz, _, hcell, hwz⟩
  · simp [Value.cells] at hcs
    obtain ⟨rfl, rfl, rfl⟩ := hcs
    exact ⟨[], Rd.nil _ _, fun x hx => by simp at hx⟩
  · simp [Value.cells] at hcs
    obtain ⟨rfl, rfl, rfl⟩ := hcs
    have hz' : zs.length = cap := by simpa using hz
    have hlen : (zs.take len).length = len := by simp; omega
    refine ⟨zs.take len, ⟨some x, cap, by rw [hlen], by omega, hm, fun e => (by cases e), fun i hi => ?_⟩, fun n hn => bounds_u8 (hwz n (List.mem_of_mem_take hn))⟩
    rw [hlen] at hi
    have hc := hcell i (by omega)
    have hsp : x.spot = none := by
      have h0 := World.cell?_spot (hcell 0 (by omega))
      simpa [Addr.add] using h0
    obtain ⟨b, o, s⟩ := x
    simp only at hsp
    subst hsp
    have hlt := World.block_lt_of_cell? W _ hc
    rw [addr_add] at hc hlt
    refine ⟨b, o, rfl, hlt, fun j hj => ?_⟩
    obtain rfl : j = 0 := by omega
    rw [show o + (i * 1 + 0) = o + i by omega, hc]
    simp [List.getD, List.getElem?_take, hi]


end Go.Proofs.Ytiaabbflchdcbaa
