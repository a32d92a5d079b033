/-
  The reference: Shape. No condition.
-/
import Derived.Test.YtjijmbpgfabgcaaDoorZI
namespace Go.Proofs.YtjijmbpgfabgcaaDoor
open Go.RowKit
set_option linter.unusedVariables false
set_option linter.unusedSimpArgs false

/-- A string of these bytes. -/
def sbs (L : List Int) : ByteArray := ⟨(L.map fun n => UInt8.ofNat n.toNat).toArray⟩
set_option maxHeartbeats 4000000 in
set_option maxRecDepth 100000 in
theorem rshape_all (k : Int) (w : World) : Calls Tryd.prog 31 #[.int .u64 k] w fun e w' => e = .returned (.string (sbs (shK k))) ∧ w = w' := by
  by_cases h3 : k = 3
  · subst h3
    have e : shK 3 = [105, 97, 116, 112, 111, 115, 103] := by decide
    rw [e]
    go_enter Tryd.func31, Tryd.ntmps31
    go_wp2_with fail
    go_ret
    exact ⟨rfl, rfl⟩
  have g3 : (k == 3) = false := by simpa using h3
  by_cases h4 : k = 4
  · subst h4
    have e : shK 4 = [105, 98, 115] := by decide
    rw [e]
    go_enter Tryd.func31, Tryd.ntmps31
    go_wp2_with fail
    go_ret
    exact ⟨rfl, rfl⟩
  have g4 : (k == 4) = false := by simpa using h4
  by_cases h5 : k = 5
  · subst h5
    have e : shK 5 = [105, 99, 114] := by decide
    rw [e]
    go_enter Tryd.func31, Tryd.ntmps31
    go_wp2_with fail
    go_ret
    exact ⟨rfl, rfl⟩
  have g5 : (k == 5) = false := by simpa using h5
  by_cases h6 : k = 6
  · subst h6
    have e : shK 6 = [105, 116] := by decide
    rw [e]
    go_enter Tryd.func31, Tryd.ntmps31
    go_wp2_with fail
    go_ret
    exact ⟨rfl, rfl⟩
  have g6 : (k == 6) = false := by simpa using h6
  by_cases h7 : k = 7
  · subst h7
    have e : shK 7 = [105] := by decide
    rw [e]
    go_enter Tryd.func31, Tryd.ntmps31
    go_wp2_with fail
    go_ret
    exact ⟨rfl, rfl⟩
  have g7 : (k == 7) = false := by simpa using h7
  by_cases h8 : k = 8
  · subst h8
    have e : shK 8 = [105, 99, 114] := by decide
    rw [e]
    go_enter Tryd.func31, Tryd.ntmps31
    go_wp2_with fail
    go_ret
    exact ⟨rfl, rfl⟩
  have g8 : (k == 8) = false := by simpa using h8
  by_cases h9 : k = 9
  · subst h9
    have e : shK 9 = [116] := by decide
    rw [e]
    go_enter Tryd.func31, Tryd.ntmps31
    go_wp2_with fail
    go_ret
    exact ⟨rfl, rfl⟩
  have g9 : (k == 9) = false := by simpa using h9
  by_cases h10 : k = 10
  · subst h10
    have e : shK 10 = [105] := by decide
    rw [e]
    go_enter Tryd.func31, Tryd.ntmps31
    go_wp2_with fail
    go_ret
    exact ⟨rfl, rfl⟩
  have g10 : (k == 10) = false := by simpa using h10
  by_cases h11 : k = 11
  · subst h11
    have e : shK 11 = [105, 99, 114] := by decide
    rw [e]
    go_enter Tryd.func31, Tryd.ntmps31
    go_wp2_with fail
    go_ret
    exact ⟨rfl, rfl⟩
  have g11 : (k == 11) = false := by simpa using h11
  by_cases h16 : k = 16
  · subst h16
    have e : shK 16 = [] := by decide
    rw [e]
    go_enter Tryd.func31, Tryd.ntmps31
    go_wp2_with fail
    go_ret
    exact ⟨rfl, rfl⟩
  have g16 : (k == 16) = false := by simpa using h16
  by_cases h21 : k = 21
  · subst h21
    have e : shK 21 = [110] := by decide
    rw [e]
    go_enter Tryd.func31, Tryd.ntmps31
    go_wp2_with fail
    go_ret
    exact ⟨rfl, rfl⟩
  have g21 : (k == 21) = false := by simpa using h21
  by_cases h22 : k = 22
  · subst h22
    have e : shK 22 = [105, 116, 112, 115, 101] := by decide
    rw [e]
    go_enter Tryd.func31, Tryd.ntmps31
    go_wp2_with fail
    go_ret
    exact ⟨rfl, rfl⟩
  have g22 : (k == 22) = false := by simpa using h22
  by_cases h23 : k = 23
  · subst h23
    have e : shK 23 = [105] := by decide
    rw [e]
    go_enter Tryd.func31, Tryd.ntmps31
    go_wp2_with fail
    go_ret
    exact ⟨rfl, rfl⟩
  have g23 : (k == 23) = false := by simpa using h23
  by_cases h24 : k = 24
  · subst h24
    have e : shK 24 = [105] := by decide
    rw [e]
    go_enter Tryd.func31, Tryd.ntmps31
    go_wp2_with fail
    go_ret
    exact ⟨rfl, rfl⟩
  have g24 : (k == 24) = false := by simpa using h24
  by_cases h25 : k = 25
  · subst h25
    have e : shK 25 = [105, 99, 114] := by decide
    rw [e]
    go_enter Tryd.func31, Tryd.ntmps31
    go_wp2_with fail
    go_ret
    exact ⟨rfl, rfl⟩
  have g25 : (k == 25) = false := by simpa using h25
  by_cases h32 : k = 32
  · subst h32
    have e : shK 32 = [108, 110] := by decide
    rw [e]
    go_enter Tryd.func31, Tryd.ntmps31
    go_wp2_with fail
    go_ret
    exact ⟨rfl, rfl⟩
  have g32 : (k == 32) = false := by simpa using h32
  by_cases h33 : k = 33
  · subst h33
    have e : shK 33 = [118, 110] := by decide
    rw [e]
    go_enter Tryd.func31, Tryd.ntmps31
    go_wp2_with fail
    go_ret
    exact ⟨rfl, rfl⟩
  have g33 : (k == 33) = false := by simpa using h33
  have e : shK k = [45] := by
    have hp : (prt k).2 = false := by
      rcases prt_ix k with ⟨_, h⟩ | ⟨i, hi, hx, h⟩
      · rw [h]
      · exfalso
        have hk : (kT.getD i (0, 0)).1 = k := by
          unfold ixOf at hx
          rcases hf : kT.findIdx? (fun x : Int × Int => x.1 == k) with _ | j
          · rw [hf] at hx; simp at hx
          · rw [hf] at hx
            simp only at hx
            obtain ⟨hj, h1, _⟩ := List.findIdx?_eq_some_iff_getElem.1 hf
            obtain rfl : j = i := by omega
            simpa [List.getD, hj] using h1
        have : ∀ i, i < 17 → (kT.getD i (0, 0)).1 ∈ [3, 4, 5, 6, 7, 8, 9, 10, 11, 16, 21, 22, 23, 24, 25, 32, 33] := by decide
        have hm := this i hi
        rw [hk] at hm
        simp only [List.mem_cons, List.not_mem_nil, or_false] at hm
        omega
    unfold shK
    rw [if_neg (by rw [hp]; decide)]
  rw [e]
  go_enter Tryd.func31, Tryd.ntmps31
  go_wp2_with fail
  go_ret
  exact ⟨rfl, rfl⟩

end Go.Proofs.YtjijmbpgfabgcaaDoor
