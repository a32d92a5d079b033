/-
  Adding whatever comes; a set of ranges. No condition.
-/
import Derived.Test.YtcmkegkljappfaaSadd
namespace Go.Proofs.Ytcmkegkljappfaa
open Go.RowKit
set_option linter.unusedVariables false
set_option linter.unusedSimpArgs false


def adN (f t : Int) (L : List (Int × Int)) : List (Int × Int) := if adE f t = 0 then ad f t L else L
def adA (L : List (Int × Int)) (l : List (Int × Int)) : List (Int × Int) := l.foldl (fun L r => adN r.1 r.2 L) L
theorem adE_ok {f t : Int} (h : adE f t = 0) : f ≤ t ∧ t ≤ MX := by
  unfold adE at h
  split at h
  · cases h
  · omega
theorem adN_nm {f t : Int} {L : List (Int × Int)} (h : Nm 0 L) (hf : 0 ≤ f) : Nm 0 (adN f t L) := by
  unfold adN
  split
  · next he => exact (ad_law h hf (Int.le_refl _) (adE_ok he).1 (adE_ok he).2).1
  · exact h
theorem adN_mem {f t : Int} {L : List (Int × Int)} (h : Nm 0 L) (hf : 0 ≤ f) (n : Int) : Mm (adN f t L) n ↔ Mm L n ∨ (adE f t = 0 ∧ f ≤ n ∧ n ≤ t) := by
  unfold adN
  split
  · next he => rw [(ad_law h hf (Int.le_refl _) (adE_ok he).1 (adE_ok he).2).2 n]; simp [he]
  · next he => simp [he]
theorem adN_len (f t : Int) (L : List (Int × Int)) : (adN f t L).length ≤ L.length + 1 := by
  unfold adN
  split
  · exact ad_len f t L
  · omega
theorem adA_snoc (L l : List (Int × Int)) (x : Int × Int) : adA L (l ++ [x]) = adN x.1 x.2 (adA L l) := by simp [adA]
theorem adA_take (L l : List (Int × Int)) (k : Nat) (hk : k < l.length) : adA L (l.take (k + 1)) = adN (l.getD k (0, 0)).1 (l.getD k (0, 0)).2 (adA L (l.take k)) := by
  have e : l.getD k (0, 0) = l[k] := by simp [List.getD, hk]
  rw [e, List.take_succ_eq_append_getElem hk, adA_snoc]
theorem adA_nm {L : List (Int × Int)} (l : List (Int × Int)) (h : Nm 0 L) (hl : ∀ r ∈ l, 0 ≤ r.1) : Nm 0 (adA L l) := by
  induction l generalizing L with
  | nil => exact h
  | cons x l ih => exact ih (adN_nm h (hl x (by simp))) (fun r hr => hl r (by simp [hr]))
theorem adA_len (L l : List (Int × Int)) : (adA L l).length ≤ L.length + l.length := by
  induction l generalizing L with
  | nil => simp [adA]
  | cons x l ih =>
    have := ih (adN x.1 x.2 L)
    have := adN_len x.1 x.2 L
    simp only [adA, List.foldl_cons, List.length_cons] at *
    omega
theorem adA_mem {L : List (Int × Int)} (l : List (Int × Int)) (h : Nm 0 L) (hl : ∀ r ∈ l, 0 ≤ r.1) (n : Int) : Mm (adA L l) n ↔ Mm L n ∨ ∃ r ∈ l, adE r.1 r.2 = 0 ∧ r.1 ≤ n ∧ n ≤ r.2 := by
  induction l generalizing L with
  | nil => simp [adA]
  | cons x l ih =>
    have := ih (adN_nm (t := x.2) h (hl x (by simp))) (fun r hr => hl r (by simp [hr]))
    rw [show adA L (x :: l) = adA (adN x.1 x.2 L) l from rfl, this, adN_mem h (hl x (by simp))]
    simp only [List.mem_cons, exists_eq_or_imp, or_assoc]
theorem add_any (B g : Nat) (rb : Option Nat) (f t : Int) (L : List (Int × Int)) (w : World) (hs : SetR B w g rb L) (hN : Nm 0 L) (hL : L.length ≤ 1000000) (hBw : B ≤ w.heap.size) (hf : 0 ≤ f) :
    Calls Try.prog 11 #[.pointer (some ⟨g, 0, none⟩), .int .u64 f, .int .u64 t] w fun e w' => ∃ rb', e = .returned (.int .i64 (adE f t)) ∧ SetR B w' g rb' (adN f t L) ∧ Only w w' g rb ∧ (rb' = rb ∨ ∃ b, rb' = some b ∧ w.heap.size ≤ b) := by
  unfold adN
  by_cases hE : adE f t = 0
  · rw [if_pos hE, hE]
    exact add_ok B g rb f t L w hs hN hL hBw hf (adE_ok hE).1 (adE_ok hE).2
  · rw [if_neg hE]
    refine (add_no g f t w hE).mono ?_
    rintro e w' ⟨rfl, rfl⟩
    exact ⟨rb, rfl, hs, Only.refl _ _ _, .inl rfl⟩
set_option maxHeartbeats 4000000 in
set_option maxRecDepth 100000 in
theorem new_any (v : Value) (l : List (Int × Int)) (w : World) (hv : RdP w v l) (hl : PairsOk l) (hn : l.length ≤ 100000) :
    Calls Try.prog 10 #[v] w fun e w' => ∃ g rb, e = .returned (.pointer (some ⟨g, 0, none⟩)) ∧ SetR w.heap.size w' g rb (adA [] l) ∧ Below w.heap.size w w' := by
  obtain ⟨A, cap, rfl⟩ := hv.form
  obtain ⟨_, _, hnc, hcm, _⟩ := hv.parts
  have hcm' : cap ≤ 9223372036854775807 := by unfold maxLen at hcm; omega
  clear hcm
  have hB0 := (Below.refl w.heap.size w).alloc (Nat.le_refl _) (.cells #[.slice none 0 0] 58)
  have hs0 : SetR w.heap.size (w.alloc (.cells #[.slice none 0 0] 58)) w.heap.size none [] := ⟨Nat.le_refl _, _, rfl, Blk.new w 58 _, World.ownsRow_nil _ _ _ _⟩
  have HV := Lib.hid hv
  have HL := Lib.hid hl
  clear hv hl
  go_enter Try.func10, Try.ntmps10
  go_wp2_with fail
  go_loopw [10] (fun s10 wr => ∃ (k : Nat) (rb : Option Nat), k ≤ l.length ∧ s10 = .int .i64 k ∧ SetR w.heap.size wr w.heap.size rb (adA [] (l.take k)) ∧ Below w.heap.size w wr) (fun s10 _ => l.length - (intOf s10).toNat)
  case atStart => exact ⟨0, none, Nat.zero_le _, rfl, hs0, hB0⟩
  case round =>
    clear hs0 hB0
    obtain ⟨k, rb, hkl, rfl, hs, hB⟩ := hrel
    by_cases hk : k < l.length
    · obtain ⟨bb, off, rfl, hbb, d0, d1⟩ := (HV.out.below hB).get k hk
      have hT := Lib.hid (adA_take [] l k hk)
      have hx0 := HL.out.getD k
      obtain ⟨x, hx⟩ : ∃ x, x = l.getD k (0, 0) := ⟨_, rfl⟩
      rw [← hx] at d0 d1 hx0 hT
      clear hx
      obtain ⟨xa, xb⟩ := x
      simp only at d0 d1 hx0 hT
      have hnm : Nm 0 (adA [] (l.take k)) := adA_nm _ trivial (fun r hr => (HL.out r (List.mem_of_mem_take hr)).1.1)
      have hlen : (adA [] (l.take k)).length ≤ 1000000 := by have := adA_len [] (l.take k); simp at this; omega
      have hs1 := hs.below ((Below.refl _ wr).alloc (Nat.le_refl _) (.cells #[.int .u64 xa, .int .u64 xb] 30))
      have hB1 := hB.alloc hB.size (.cells #[.int .u64 xa, .int .u64 xb] 30)
      obtain ⟨L0, hL0⟩ : ∃ L0, L0 = adA [] (l.take k) := ⟨_, rfl⟩
      rw [← hL0] at hnm hlen hs1 hT
      clear hL0 hs hB
      go_wp2_with fail
      (with_reducible refine (add_any w.heap.size w.heap.size rb xa xb L0 _ hs1 hnm hlen hB1.size hx0.1.1).mono ?_)
      rintro e w3 ⟨rb', rfl, hs3, ho3, hr3⟩
      have hB3 := hB1.trans (ho3.below (Nat.le_refl _) (fun b hb => (hs1.rlt b hb).1) hB1.size)
      clear d0 d1 ho3 hr3 hs1 hB1
      go_wp2_with fail
      go_roundw
      case rel => exact ⟨k + 1, rb', by omega, by go_num, by rw [hT.out]; exact hs3, hB3⟩
      case measure => simp [intOf]; omega
    · have htk : l.take k = l := List.take_of_length_le (by omega)
      rw [htk] at hs
      clear htk
      go_wp2_with fail
      go_ret
      exact ⟨_, _, rfl, hs, hB⟩

end Go.Proofs.Ytcmkegkljappfaa
