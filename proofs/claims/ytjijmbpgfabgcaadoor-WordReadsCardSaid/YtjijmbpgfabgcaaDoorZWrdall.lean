/-
  What Read of a message gives, at one place. No condition.
-/
import Derived.Test.YtjijmbpgfabgcaaDoorZWreade
namespace Go.Proofs.YtjijmbpgfabgcaaDoor
open Go.RowKit
set_option linter.unusedVariables false
set_option linter.unusedSimpArgs false

theorem read_all (v : Value) (l : List Int) (w : World) (hG : Glob w) (hr : RdT w v l) (hk : BytesOk l) (hl : l.length ≤ 90000) :
    Calls Tryd.prog 16 #[v] w fun e w' => RdOut (readR l) e w' ∧ Below w.heap.size w w' := by
  unfold readR
  rcases ht : vtake l with _ | ⟨k, r⟩
  · exact read_none v l w hr hk ht
  · simp only []
    cases hp : (prt k).2 with
    | false => simpa using read_kind v l r k w hG hr hk hl ht hp
    | true =>
      rw [if_neg (by simp)]
      have hkr := (vtake_rest hk ht).1
      rcases r with _ | ⟨a, r⟩
      · exact read_two v l [] k w hG hr hk hl ht hp (by simp)
      · rcases r with _ | ⟨b, q⟩
        · exact read_two v l [a] k w hG hr hk hl ht hp (by simp)
        · have ha := hkr a (by simp)
          have hb := hkr b (by simp)
          simp only []
          rw [show 256 * a + b = a * 256 + b by omega]
          by_cases hs : (q.length : Int) < a * 256 + b
          · rw [if_pos hs]
            exact read_short v l q k a b w hG hr hk hl ht ha hb hp (by omega)
          · rw [if_neg hs]
            rcases hw : wholeR k (q.take (a * 256 + b).toNat) with _ | y
            · exact read_form v l q k a b w hG hr hk hl ht ha hb hp (by omega) hw
            · exact read_yes v l q k a b w hG hr hk hl ht ha hb y hp (by omega) hw

end Go.Proofs.YtjijmbpgfabgcaaDoor
