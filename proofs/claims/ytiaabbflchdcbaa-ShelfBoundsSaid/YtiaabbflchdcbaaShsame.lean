/-
  Same of the reference at equal lists of objects. No condition.
-/
import Derived.Test.YtiaabbflchdcbaaSopn
namespace Go.Proofs.Ytiaabbflchdcbaa
open Go.RowKit
set_option linter.unusedVariables false
set_option linter.unusedSimpArgs false

abbrev Ob5 := Int × Int × Int × Bool × List Int
def ob5 (x : Ob5) (V : Value) : List Value := [.int .u64 x.1, .int .u64 x.2.1, .int .u8 x.2.2.1, .bool x.2.2.2.1, V]
/-- The slice reads as these objects. -/
def ORd (w : World) (A : Option Addr) (X : List Ob5) : Prop := ∀ k (hk : k < X.length), ∃ (b off : Nat) (V : Value), A = some ⟨b, off, none⟩ ∧ b < w.heap.size ∧ (∀ j, j < 5 → w.cell? ⟨b, off + k * 5 + j, none⟩ = (ob5 X[k] V)[j]?) ∧ Rd w .u8 V X[k].2.2.2.2
set_option maxHeartbeats 4000000 in
set_option maxRecDepth 100000 in
theorem same_obs (A A' : Option Addr) (c c' : Nat) (X : List Ob5) (w : World) (ha : ORd w A X) (hb : ORd w A' X) (hx : X.length ≤ 1000000) :
    Calls Try.prog 14 #[.slice A X.length c, .slice A' X.length c'] w fun e w' => e = .returned (.bool true) ∧ ∃ n, w.drewN n = w' := by
  have HA := Lib.hid ha
  have HB := Lib.hid hb
  clear ha hb
  go_enter Try.func14, Try.ntmps14
  go_wp2_with fail
  go_loopg [13] X.length (fun gk s13 wr => ∃ k n : Nat, gk = X.length - k ∧ k ≤ X.length ∧ s13 = .int .i64 k ∧ wr = w.drewN n)
  case atStart => exact ⟨0, 0, rfl, Nat.zero_le _, rfl, rfl⟩
  case round =>
    obtain ⟨k, m, hgk, hkl, rfl, rfl⟩ := hrel
    by_cases hlt : k < X.length
    · obtain ⟨b, off, V, rfl, hbl, hc, hV⟩ := HA.out k hlt
      obtain ⟨b', off', V', rfl, hbl', hc', hV'⟩ := HB.out k hlt
      generalize X[k] = x at hc hc' hV hV'
      obtain ⟨g, n, p, gr, l⟩ := x
      have c0 : World.cell? w ⟨b, off + k * 5, none⟩ = some (.int .u64 g) := hc 0 (by omega)
      have c1 : World.cell? w ⟨b, off + k * 5 + 1, none⟩ = some (.int .u64 n) := hc 1 (by omega)
      have c2 : World.cell? w ⟨b, off + k * 5 + 2, none⟩ = some (.int .u8 p) := hc 2 (by omega)
      have c3 : World.cell? w ⟨b, off + k * 5 + 3, none⟩ = some (.bool gr) := hc 3 (by omega)
      have c4 : World.cell? w ⟨b, off + k * 5 + 4, none⟩ = some V := hc 4 (by omega)
      have d0 : World.cell? w ⟨b', off' + k * 5, none⟩ = some (.int .u64 g) := hc' 0 (by omega)
      have d1 : World.cell? w ⟨b', off' + k * 5 + 1, none⟩ = some (.int .u64 n) := hc' 1 (by omega)
      have d2 : World.cell? w ⟨b', off' + k * 5 + 2, none⟩ = some (.int .u8 p) := hc' 2 (by omega)
      have d3 : World.cell? w ⟨b', off' + k * 5 + 3, none⟩ = some (.bool gr) := hc' 3 (by omega)
      have d4 : World.cell? w ⟨b', off' + k * 5 + 4, none⟩ = some V' := hc' 4 (by omega)
      have HV : Hid (Rd w .u8 V l) := Lib.hid hV
      have HV' : Hid (Rd w .u8 V' l) := Lib.hid hV'
      clear hc hc' hV hV'
      go_wp2_with fail
      go_quiet ((go_at_call 35; first | exact quiet_one (same_yes V V' l _ (HV.out.drewN _) (HV'.out.drewN _)) | exact quiet_add (same_yes V V' l _ (HV.out.drewN _) (HV'.out.drewN _))))
      go_wp2_with fail
      go_roundg (X.length - (k + 1))
      case measure => omega
      case rel => exact ⟨k + 1, m + nq, rfl, by omega, by go_num, rfl⟩
    · go_wp2_with fail
      go_ret
      exact ⟨rfl, m, rfl⟩

end Go.Proofs.Ytiaabbflchdcbaa
