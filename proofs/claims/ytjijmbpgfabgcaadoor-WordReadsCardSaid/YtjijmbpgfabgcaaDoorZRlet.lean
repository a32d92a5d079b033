/-
  Ranging over a kind's letters. No condition.
-/
import Derived.Test.YtjijmbpgfabgcaaDoorZRshape
import Derived.Lib.OthersKept
namespace Go.Proofs.YtjijmbpgfabgcaaDoor
open Go.RowKit
set_option linter.unusedVariables false
set_option linter.unusedSimpArgs false

theorem sbs_size (L : List Int) : (sbs L).size = L.length := by simp [sbs, ByteArray.size]
theorem sbs_get (L : List Int) (pos : Nat) (h : pos < (sbs L).size) (h' : pos < L.length) : ((sbs L)[pos]'h) = UInt8.ofNat (L[pos]).toNat := by
  show (sbs L).data[pos]'h = _
  simp [sbs]
theorem next_letter {P : Program} (w : World) (k : Nat) (L : List Int) (pos : Nat) (ty : TypeId) (hk : w.heap[k]? = some (.stringIter (sbs L) pos)) (h : pos < L.length) (hL : ∀ c ∈ L, 0 ≤ c ∧ c < 128) :
    (Instr.next (.pointer (some ⟨k, 0, none⟩)) true ty).run P w = .ok (.tuple #[.bool true, .int .i64 pos, .int .i32 (L.getD pos 0)]) (w.iterAt k (sbs L) (pos + 1)) := by
  have hs : pos < (sbs L).size := by rw [sbs_size]; exact h
  have hc := hL (L[pos]) (List.getElem_mem h)
  have e := sbs_get L pos hs h
  have e2 : ((sbs L)[pos]'hs).toNat = (L[pos]).toNat := by rw [e]; simp; omega
  rw [Lib.run_next_ascii_at w k (sbs L) pos ty hk hs (by omega), e2]
  have e3 : L.getD pos 0 = L[pos] := by simp [List.getD, h]
  rw [e3, show (((L[pos]).toNat : Nat) : Int) = L[pos] by omega]

end Go.Proofs.YtjijmbpgfabgcaaDoor
