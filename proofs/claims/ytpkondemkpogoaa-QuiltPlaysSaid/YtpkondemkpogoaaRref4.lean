/-
  The reference quilt: a Put that is refused; Put of any kind.
-/
import Derived.Test.YtpkondemkpogoaaRref3
namespace Go.Proofs.Ytpkondemkpogoaa
open Go.RowKit
set_option linter.unusedVariables false
set_option linter.unusedSimpArgs false

set_option maxHeartbeats 8000000 in
set_option maxRecDepth 100000 in
theorem rput_no (g mb : Nat) (es : List (Int × Int)) (q : Q) (off : Int) (A : Option Addr) (n c : Nat) (en : Bool) (w : World) (hX : RX w g mb es q) (hl : n ≤ 1000) (ho : 0 ≤ off ∧ off ≤ 18446744073709551615) (e : Int) (he : chkE q.hi q.la q.kn off n en = e) (hne : e ≠ 0) :
    Calls Try.prog 24 #[.pointer (some ⟨g, 0, none⟩), .int .u64 off, .slice A n c, .bool en] w fun e' w' => e' = .returned (.int .i64 e) ∧ w = w' := by
  obtain ⟨L, rd, hi, la, kn⟩ := q
  have c2 : w.cell? ⟨g, 2, none⟩ = some (.int .u64 hi) := hX.1.cell 2
  have c3 : w.cell? ⟨g, 3, none⟩ = some (.int .u64 la) := hX.1.cell 3
  have c4 : w.cell? ⟨g, 4, none⟩ = some (.bool kn) := hX.1.cell 4
  have he' : chkE hi la kn off n en = e := he
  have hw1 : IntKind.u64.wrap (n : Int) = n := Go.IntWalk.u64_in _ (by omega)
  clear hX he
  unfold chkE at he'
  split at he'
  · next h1 =>
    by_cases h0 : (4611686018427387903 : Int) < off
    · obtain rfl : e = 1 := he'.symm
      go_enter Try.func24, Try.ntmps24
      go_wp2_with fail
      go_ret
      exact ⟨rfl, rfl⟩
    · obtain rfl : e = 1 := he'.symm
      have hw2 : IntKind.u64.wrap (off + (n : Int)) = off + n := Go.IntWalk.u64_in _ (by omega)
      have h2 : (4611686018427387903 : Int) < off + n := by simp only [QM] at h1; omega
      clear h1 hne
      go_enter Try.func24, Try.ntmps24
      go_wp2_with fail
      go_ret
      exact ⟨rfl, rfl⟩
  · next h1 =>
    split at he'
    · next h2 =>
      obtain rfl : e = 4 := he'.symm
      have h0 : ¬ (4611686018427387903 : Int) < off := by simp only [QM] at h1; omega
      obtain ⟨tt, htt⟩ : ∃ tt, tt = off + (n : Int) := ⟨_, rfl⟩
      have hw2 : IntKind.u64.wrap (off + (n : Int)) = tt := by rw [htt]; exact Go.IntWalk.u64_in _ (by simp only [QM] at h1; omega)
      have h3 : ¬ (4611686018427387903 : Int) < tt := by simp only [QM] at h1; omega
      rw [← htt] at h2
      clear h1 htt hne
      cases kn <;> cases en <;> simp only [Bool.false_and, Bool.true_and, Bool.or_false, Bool.false_or, Bool.or_eq_true, decide_eq_true_eq, Bool.false_eq_true, ne_eq] at h2
      · by_cases k1 : tt < hi
        · go_enter Try.func24, Try.ntmps24
          go_wp2_with fail
          go_ret
          exact ⟨rfl, rfl⟩
        · exact absurd h2 k1
      · go_enter Try.func24, Try.ntmps24
        go_wp2_with fail
        go_ret
        exact ⟨rfl, rfl⟩
      · by_cases k1 : la < tt
        · go_enter Try.func24, Try.ntmps24
          go_wp2_with fail
          go_ret
          exact ⟨rfl, rfl⟩
        · by_cases k2 : tt = la
          · have k3 : tt < hi := by
              rcases h2 with (h | h) | h
              · exact absurd h k1
              · exact absurd k2 h
              · exact h
            clear h2
            subst k2
            go_enter Try.func24, Try.ntmps24
            go_wp2_with fail
            go_ret
            exact ⟨rfl, rfl⟩
          · have k4 : (tt == la) = false := by simpa using k2
            clear h2
            go_enter Try.func24, Try.ntmps24
            go_wp2_with fail
            go_ret
            exact ⟨rfl, rfl⟩
    · exact absurd he'.symm hne

end Go.Proofs.Ytpkondemkpogoaa
