/-
  A message's texts with their blocks' kinds. No condition.
-/
import Derived.Test.YtjijmbpgfabgcaaDoorZWplus
namespace Go.Proofs.YtjijmbpgfabgcaaDoor
open Go.RowKit
set_option linter.unusedVariables false
set_option linter.unusedSimpArgs false

/-- A message's texts, with their blocks' kinds. -/
structure MX (w : World) (x : M) (nv rv vv : Value) : Prop where
  nm : RdT w nv x.nm
  rs : RdT w rv x.rs
  vs : ∃ b, w.ownsRow b 22 1 vv x.vs.length (x.vs.map (Value.int .u64))
section
variable {w w' : World} {x : M} {nv rv vv : Value}
theorem MX.mv (h : MX w x nv rv vv) : MV w x nv rv vv := by
  obtain ⟨b, hb⟩ := h.vs
  exact ⟨h.nm.1, h.rs.1, rd_of_own hb⟩
theorem MX.below (h : MX w x nv rv vv) (hb : Below w.heap.size w w') : MX w' x nv rv vv := by
  obtain ⟨b, hv⟩ := h.vs
  exact ⟨h.nm.below hb, h.rs.below hb, b, own_same hv hb⟩
theorem MX.blks (h : MX w x nv rv vv) (hk : ∀ g t cs, t ≠ 28 → Blk w g t cs → Blk w' g t cs) (hs : w.heap.size ≤ w'.heap.size) : MX w' x nv rv vv := by
  obtain ⟨b, hv⟩ := h.vs
  exact ⟨rdt_blk h.nm (fun g cs z => hk g 5 cs (by decide) z) hs, rdt_blk h.rs (fun g cs z => hk g 5 cs (by decide) z) hs, b, own_blks hv (fun g cs z => hk g 22 cs (by decide) z)⟩
theorem MX.grown {K : Nat} {row : Option Nat} (h : MX w x nv rv vv) (hn : ∀ b, nv.ownBlock = some b → b < K) (hr : ∀ b, rv.ownBlock = some b → b < K) (hv : ∀ b, vv.ownBlock = some b → b < K) (hg : w.grownBy w' row) (hK : ∀ b, row = some b → K ≤ b) : MX w' x nv rv vv := by
  obtain ⟨b, hvv⟩ := h.vs
  have ne : ∀ (v : Value), (∀ b, v.ownBlock = some b → b < K) → ∀ b, v.ownBlock = some b → some b ≠ row := fun v hv b hb e => by
    have h1 := hv b hb
    have h2 := hK b e.symm
    omega
  refine ⟨h.nm.kept hg (ne _ hn), h.rs.kept hg (ne _ hr), b, own_grown hvv hg ?_⟩
  rcases row with _ | k
  · exact .inl rfl
  · exact .inr fun e => ne _ hv k e rfl
theorem MX.lt (h : MX w x nv rv vv) : (∀ b, nv.ownBlock = some b → b < w.heap.size) ∧ (∀ b, rv.ownBlock = some b → b < w.heap.size) ∧ (∀ b, vv.ownBlock = some b → b < w.heap.size) := by
  obtain ⟨b, hv⟩ := h.vs
  exact ⟨h.nm.olt, h.rs.olt, fun k hk => (hv.lt k hk).2⟩
end
theorem rdout_some {x : M} {L : List Int} {c : Int} {e : Ending} {w' : World} (h : RdOut (some x, L, c) e w') : ∃ nA nc rA rc vA vc bA bc, e = .returned (.tuple #[.agg (x.cells (.slice nA x.nm.length nc) (.slice rA x.rs.length rc) (.slice vA x.vs.length vc)), .slice bA L.length bc, .int .i64 c]) ∧ MV w' x (.slice nA x.nm.length nc) (.slice rA x.rs.length rc) (.slice vA x.vs.length vc) ∧ Rd w' .u8 (.slice bA L.length bc) L := by
  obtain ⟨nv, rv, vv, bv, rfl, k1, k2, k3, k4⟩ := h
  obtain ⟨nA, nc, rfl⟩ := k1.form
  obtain ⟨rA, rc, rfl⟩ := k2.form
  obtain ⟨vA, vc, rfl⟩ := k3.form
  obtain ⟨bA, bc, rfl⟩ := k4.form
  exact ⟨nA, nc, rA, rc, vA, vc, bA, bc, rfl, ⟨k1, k2, k3⟩, k4⟩
theorem own_apart2 {v u : Value} {K : Nat} (hlo : ∀ b, u.ownBlock = some b → b < K) (hhi : ∀ b, v.ownBlock = some b → K ≤ b) : u.ownBlock = none ∨ v.ownBlock ≠ u.ownBlock := by
  rcases hu : u.ownBlock with _ | b
  · exact .inl rfl
  · exact .inr fun e => by have h1 := hlo b hu; have h2 := hhi b e; omega

end Go.Proofs.YtjijmbpgfabgcaaDoor
