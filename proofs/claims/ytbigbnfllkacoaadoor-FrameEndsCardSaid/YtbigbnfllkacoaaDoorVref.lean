/-
  The reference's Wide and Num; both Wides and both Nums whole.
-/
import Derived.Test.YtbigbnfllkacoaaDoorVuse
namespace Go.Proofs.YtbigbnfllkacoaaDoor
open Go.RowKit
set_option linter.unusedVariables false
set_option linter.unusedSimpArgs false


/-- The last j bytes of a number. -/
def lowb (n : Int) : Nat → List Int
  | 0 => []
  | j + 1 => (n / 256 ^ j % 256) :: lowb n j
theorem lowb_len (n : Int) (j : Nat) : (lowb n j).length = j := by induction j with
  | zero => rfl
  | succ j ih => simp [lowb, ih]

set_option maxRecDepth 100000 in
theorem rwide_arg (n s : Int) (w : World) (h1 : s ≠ 1) (h2 : s ≠ 2) (h4 : s ≠ 4) (h8 : s ≠ 8) :
    Calls Tryd.prog 17 #[.int .u64 n, .int .i64 s] w fun e w' => e = .returned (.tuple #[.slice none 0 0, .int .i64 1]) ∧ w = w' := by
  have q1 : (s == 1) = false := by simpa using h1
  have q2 : (s == 2) = false := by simpa using h2
  have q4 : (s == 4) = false := by simpa using h4
  have q8 : (s == 8) = false := by simpa using h8
  clear h1 h2 h4 h8
  go_enter Tryd.func17, Tryd.ntmps17
  go_wp2
  go_ret2
  exact ⟨rfl, rfl⟩
set_option maxRecDepth 100000 in
theorem rwide_long (n : Int) (s : Nat) (w : World) (h0 : 0 ≤ n) (hn : n ≤ 18446744073709551615) (hs : s = 1 ∨ s = 2 ∨ s = 4 ∨ s = 8) (hl : vsz n = 0 ∨ s < vsz n) :
    Calls Tryd.prog 17 #[.int .u64 n, .int .i64 s] w fun e w' => e = .returned (.tuple #[.slice none 0 0, .int .i64 3]) ∧ w = w' := by
  rcases hl with hl | hl
  · have hz : ((vsz n : Int) == 0) = true := by simp; omega
    rcases hs with rfl | rfl | rfl | rfl
    all_goals
      clear hl
      go_enter Tryd.func17, Tryd.ntmps17
      go_wp2_with (go_at_call 16; refine (rsize_any n _ h0 hn).mono ?_; rintro e w' ⟨rfl, rfl⟩)
      go_ret2
      exact ⟨rfl, rfl⟩
  · have hz : ((vsz n : Int) == 0) = false := by simp; omega
    rcases hs with rfl | rfl | rfl | rfl
    · have hz2 : decide ((1 : Int) < (vsz n : Int)) = true := by simp; omega
      have hz3 : (1 : Int) < (vsz n : Int) := by omega
      clear hl
      go_enter Tryd.func17, Tryd.ntmps17
      go_wp2_with (go_at_call 16; refine (rsize_any n _ h0 hn).mono ?_; rintro e w' ⟨rfl, rfl⟩)
      go_ret2
      exact ⟨rfl, rfl⟩
    · have hz2 : decide ((2 : Int) < (vsz n : Int)) = true := by simp; omega
      have hz3 : (2 : Int) < (vsz n : Int) := by omega
      clear hl
      go_enter Tryd.func17, Tryd.ntmps17
      go_wp2_with (go_at_call 16; refine (rsize_any n _ h0 hn).mono ?_; rintro e w' ⟨rfl, rfl⟩)
      go_ret2
      exact ⟨rfl, rfl⟩
    · have hz2 : decide ((4 : Int) < (vsz n : Int)) = true := by simp; omega
      have hz3 : (4 : Int) < (vsz n : Int) := by omega
      clear hl
      go_enter Tryd.func17, Tryd.ntmps17
      go_wp2_with (go_at_call 16; refine (rsize_any n _ h0 hn).mono ?_; rintro e w' ⟨rfl, rfl⟩)
      go_ret2
      exact ⟨rfl, rfl⟩
    · have hz2 : decide ((8 : Int) < (vsz n : Int)) = true := by simp; omega
      have hz3 : (8 : Int) < (vsz n : Int) := by omega
      clear hl
      go_enter Tryd.func17, Tryd.ntmps17
      go_wp2_with (go_at_call 16; refine (rsize_any n _ h0 hn).mono ?_; rintro e w' ⟨rfl, rfl⟩)
      go_ret2
      exact ⟨rfl, rfl⟩

set_option maxHeartbeats 2000000 in
set_option maxRecDepth 100000 in
theorem rwide_1 (n : Int) (w : World) (h0 : 0 ≤ n) (hlim : n < 64) (hv0 : vsz n ≠ 0) (hv : vsz n ≤ 1) :
    Calls Tryd.prog 17 #[.int .u64 n, .int .i64 1] w fun e w' => ∃ v, e = .returned (.tuple #[v, .int .i64 0]) ∧ w'.ownsRow w.heap.size 5 1 v (vform n 1).length ((vform n 1).map (Value.int .u8)) ∧ Below w.heap.size w w' := by
  obtain ⟨i0, hi, hz0, hz1, hz2⟩ := info_parts infoB
  have hn : n ≤ 18446744073709551615 := by omega
  have hz : ((vsz n : Int) == 0) = false := by simp; omega
  have hy2 : decide ((1 : Int) < (vsz n : Int)) = false := by simp; omega
  have hy3 : (vsz n : Int) ≤ 1 := by omega
  have HF : Hid (vform n 1 = (n / 256 ^ 0 % 256 + 0) :: lowb n 0 ∧ n / 256 ^ 0 % 256 + 0 ≤ 255) := ⟨by simp only [lowb]; first | (simp [vform1]; done) | (simp [vform1]; omega), by omega⟩
  clear hv hv0
  go_enter Tryd.func17, Tryd.ntmps17
  go_wp2_with (go_at_call 16; refine (rsize_any n _ h0 hn).mono ?_; rintro e w' ⟨rfl, rfl⟩)
  go_loopw [0, 7, 27] (fun x v i wr => ∃ j : Nat, j ≤ 1 ∧ i = .int .i64 j ∧ x = .int .u64 (n / 256 ^ j) ∧ wr.ownsRow w.heap.size 5 1 v j ((lowb n j).map (Value.int .u8)) ∧ Below w.heap.size w wr) (fun _ _ i _ => 1 - (intOf i).toNat)
  case atStart => exact ⟨0, by omega, rfl, by simp, World.ownsRow_nil _ _ _ _, Below.refl _ _⟩
  case round =>
    obtain ⟨j, hj, rfl, rfl, ho, hB⟩ := hrel
    have hll := lowb_len n j
    have hrd := rd_of_own (k := .u8) (l := lowb n j) ho
    by_cases hlt : j < 1
    · have hq0 : 0 ≤ n / 256 ^ j := Int.ediv_nonneg h0 (Int.le_of_lt (Int.pow_pos (by decide)))
      have hq1 : n / 256 ^ j ≤ 18446744073709551615 := Int.le_trans (Int.ediv_le_self _ h0) hn
      have hdd : n / 256 ^ (j + 1) = n / 256 ^ j / 256 := by rw [Int.pow_succ, Int.ediv_ediv_of_nonneg (Int.le_of_lt (Int.pow_pos (by decide)))]
      obtain ⟨q, hq⟩ : ∃ q, q = n / 256 ^ j := ⟨_, rfl⟩
      rw [← hq] at hq0 hq1 hdd ⊢
      have hone := World.ownsRow_lit (size := 1) (e := 5) wr #[.int .u8 (q % 256)] 1 hB.size (by decide) rfl
      obtain ⟨A, cap, rfl⟩ := hrd.form
      have hrd' := (hrd.alloc (.cells #[.int .u8 (q % 256)] 5)).rdv
      have HD := Lib.hid hdd
      have HQ := Lib.hid hq
      have HL := Lib.hid hll
      have HR := Lib.hid hrd'
      clear hdd hq hll hrd hrd' ho
      have hBa := hB.alloc hB.size (.cells #[.int .u8 (q % 256)] 5)
      go_wp2_with (at_builtin; refine wpList_append_any _ rfl _ _ 23 rfl w.heap.size 5 i0 _ 1 1 Tryd.underlying23 hi hz0 hz1 hz2 rfl (by decide) (.slice (some ⟨wr.heap.size, 0, none⟩) 1 1) 1 [.int .u8 (q % 256)] rfl hone A (lowb n j).length cap _ rfl HR.out.2.2.2.2 (oneInts _ _) (by have := HL.out; unfold maxLen; omega) (by have := HL.out; omega) hBa.size HR.out.2.1 ?_; intro v1 w1 hown1 hgrow1 hat1)
      go_roundw
      case rel => exact ⟨j + 1, by omega, by go_num, by rw [HD.out], by rw [HL.out] at hown1; simpa [lowb, HQ.out, Nat.add_comm] using hown1, hBa.grown hgrow1 hBa.size (fun k hk => by simp [Value.ownBlock] at hk; have := hB.size; omega)⟩
      case measure => simp [intOf]; omega
    · obtain rfl : j = 1 := by omega
      obtain ⟨g, cap, rfl, hg, hgl⟩ := ho.form (by omega)
      have hc0 := ho.cellAt 0 (by omega)
      have hf0 := ho.frozenAt 0
      simp only [lowb, List.map_cons, List.getElem?_cons_zero] at hc0
      have hm0 : 0 ≤ n / 256 ^ 0 % 256 := by omega
      have hm1 : n / 256 ^ 0 % 256 + 0 ≤ 255 := HF.out.2
      obtain ⟨q, hq⟩ : ∃ q, q = n / 256 ^ 0 % 256 := ⟨_, rfl⟩
      have hst := ho.stored 0 (.int .u8 (q + 0))
      rw [← hq] at hc0 hm0 hm1
      have HQ := Lib.hid hq
      have HS := Lib.hid hst
      clear hq hst hll hrd
      go_wp2
      go_ret2
      refine ⟨_, rfl, ?_, hB.setCell hg _⟩
      rw [HF.out.1, ← HQ.out]
      simpa [lowb, lowb_len] using HS.out.1

set_option maxHeartbeats 2000000 in
set_option maxRecDepth 100000 in
theorem rwide_2 (n : Int) (w : World) (h0 : 0 ≤ n) (hlim : n < 16384) (hv0 : vsz n ≠ 0) (hv : vsz n ≤ 2) :
    Calls Tryd.prog 17 #[.int .u64 n, .int .i64 2] w fun e w' => ∃ v, e = .returned (.tuple #[v, .int .i64 0]) ∧ w'.ownsRow w.heap.size 5 1 v (vform n 2).length ((vform n 2).map (Value.int .u8)) ∧ Below w.heap.size w w' := by
  obtain ⟨i0, hi, hz0, hz1, hz2⟩ := info_parts infoB
  have hn : n ≤ 18446744073709551615 := by omega
  have hz : ((vsz n : Int) == 0) = false := by simp; omega
  have hy2 : decide ((2 : Int) < (vsz n : Int)) = false := by simp; omega
  have hy3 : (vsz n : Int) ≤ 2 := by omega
  have HF : Hid (vform n 2 = (n / 256 ^ 1 % 256 + 64) :: lowb n 1 ∧ n / 256 ^ 1 % 256 + 64 ≤ 255) := ⟨by simp only [lowb]; first | (simp [vform2]; done) | (simp [vform2]; omega), by omega⟩
  clear hv hv0
  go_enter Tryd.func17, Tryd.ntmps17
  go_wp2_with (go_at_call 16; refine (rsize_any n _ h0 hn).mono ?_; rintro e w' ⟨rfl, rfl⟩)
  go_loopw [0, 7, 27] (fun x v i wr => ∃ j : Nat, j ≤ 2 ∧ i = .int .i64 j ∧ x = .int .u64 (n / 256 ^ j) ∧ wr.ownsRow w.heap.size 5 1 v j ((lowb n j).map (Value.int .u8)) ∧ Below w.heap.size w wr) (fun _ _ i _ => 2 - (intOf i).toNat)
  case atStart => exact ⟨0, by omega, rfl, by simp, World.ownsRow_nil _ _ _ _, Below.refl _ _⟩
  case round =>
    obtain ⟨j, hj, rfl, rfl, ho, hB⟩ := hrel
    have hll := lowb_len n j
    have hrd := rd_of_own (k := .u8) (l := lowb n j) ho
    by_cases hlt : j < 2
    · have hq0 : 0 ≤ n / 256 ^ j := Int.ediv_nonneg h0 (Int.le_of_lt (Int.pow_pos (by decide)))
      have hq1 : n / 256 ^ j ≤ 18446744073709551615 := Int.le_trans (Int.ediv_le_self _ h0) hn
      have hdd : n / 256 ^ (j + 1) = n / 256 ^ j / 256 := by rw [Int.pow_succ, Int.ediv_ediv_of_nonneg (Int.le_of_lt (Int.pow_pos (by decide)))]
      obtain ⟨q, hq⟩ : ∃ q, q = n / 256 ^ j := ⟨_, rfl⟩
      rw [← hq] at hq0 hq1 hdd ⊢
      have hone := World.ownsRow_lit (size := 1) (e := 5) wr #[.int .u8 (q % 256)] 1 hB.size (by decide) rfl
      obtain ⟨A, cap, rfl⟩ := hrd.form
      have hrd' := (hrd.alloc (.cells #[.int .u8 (q % 256)] 5)).rdv
      have HD := Lib.hid hdd
      have HQ := Lib.hid hq
      have HL := Lib.hid hll
      have HR := Lib.hid hrd'
      clear hdd hq hll hrd hrd' ho
      have hBa := hB.alloc hB.size (.cells #[.int .u8 (q % 256)] 5)
      go_wp2_with (at_builtin; refine wpList_append_any _ rfl _ _ 23 rfl w.heap.size 5 i0 _ 1 1 Tryd.underlying23 hi hz0 hz1 hz2 rfl (by decide) (.slice (some ⟨wr.heap.size, 0, none⟩) 1 1) 1 [.int .u8 (q % 256)] rfl hone A (lowb n j).length cap _ rfl HR.out.2.2.2.2 (oneInts _ _) (by have := HL.out; unfold maxLen; omega) (by have := HL.out; omega) hBa.size HR.out.2.1 ?_; intro v1 w1 hown1 hgrow1 hat1)
      go_roundw
      case rel => exact ⟨j + 1, by omega, by go_num, by rw [HD.out], by rw [HL.out] at hown1; simpa [lowb, HQ.out, Nat.add_comm] using hown1, hBa.grown hgrow1 hBa.size (fun k hk => by simp [Value.ownBlock] at hk; have := hB.size; omega)⟩
      case measure => simp [intOf]; omega
    · obtain rfl : j = 2 := by omega
      obtain ⟨g, cap, rfl, hg, hgl⟩ := ho.form (by omega)
      have hc0 := ho.cellAt 0 (by omega)
      have hf0 := ho.frozenAt 0
      simp only [lowb, List.map_cons, List.getElem?_cons_zero] at hc0
      have hm0 : 0 ≤ n / 256 ^ 1 % 256 := by omega
      have hm1 : n / 256 ^ 1 % 256 + 64 ≤ 255 := HF.out.2
      obtain ⟨q, hq⟩ : ∃ q, q = n / 256 ^ 1 % 256 := ⟨_, rfl⟩
      have hst := ho.stored 0 (.int .u8 (q + 64))
      rw [← hq] at hc0 hm0 hm1
      have HQ := Lib.hid hq
      have HS := Lib.hid hst
      clear hq hst hll hrd
      go_wp2
      go_ret2
      refine ⟨_, rfl, ?_, hB.setCell hg _⟩
      rw [HF.out.1, ← HQ.out]
      simpa [lowb, lowb_len] using HS.out.1

set_option maxHeartbeats 2000000 in
set_option maxRecDepth 100000 in
theorem rwide_4 (n : Int) (w : World) (h0 : 0 ≤ n) (hlim : n < 1073741824) (hv0 : vsz n ≠ 0) (hv : vsz n ≤ 4) :
    Calls Tryd.prog 17 #[.int .u64 n, .int .i64 4] w fun e w' => ∃ v, e = .returned (.tuple #[v, .int .i64 0]) ∧ w'.ownsRow w.heap.size 5 1 v (vform n 4).length ((vform n 4).map (Value.int .u8)) ∧ Below w.heap.size w w' := by
  obtain ⟨i0, hi, hz0, hz1, hz2⟩ := info_parts infoB
  have hn : n ≤ 18446744073709551615 := by omega
  have hz : ((vsz n : Int) == 0) = false := by simp; omega
  have hy2 : decide ((4 : Int) < (vsz n : Int)) = false := by simp; omega
  have hy3 : (vsz n : Int) ≤ 4 := by omega
  have HF : Hid (vform n 4 = (n / 256 ^ 3 % 256 + 128) :: lowb n 3 ∧ n / 256 ^ 3 % 256 + 128 ≤ 255) := ⟨by simp only [lowb]; first | (simp [vform4]; done) | (simp [vform4]; omega), by omega⟩
  clear hv hv0
  go_enter Tryd.func17, Tryd.ntmps17
  go_wp2_with (go_at_call 16; refine (rsize_any n _ h0 hn).mono ?_; rintro e w' ⟨rfl, rfl⟩)
  go_loopw [0, 7, 27] (fun x v i wr => ∃ j : Nat, j ≤ 4 ∧ i = .int .i64 j ∧ x = .int .u64 (n / 256 ^ j) ∧ wr.ownsRow w.heap.size 5 1 v j ((lowb n j).map (Value.int .u8)) ∧ Below w.heap.size w wr) (fun _ _ i _ => 4 - (intOf i).toNat)
  case atStart => exact ⟨0, by omega, rfl, by simp, World.ownsRow_nil _ _ _ _, Below.refl _ _⟩
  case round =>
    obtain ⟨j, hj, rfl, rfl, ho, hB⟩ := hrel
    have hll := lowb_len n j
    have hrd := rd_of_own (k := .u8) (l := lowb n j) ho
    by_cases hlt : j < 4
    · have hq0 : 0 ≤ n / 256 ^ j := Int.ediv_nonneg h0 (Int.le_of_lt (Int.pow_pos (by decide)))
      have hq1 : n / 256 ^ j ≤ 18446744073709551615 := Int.le_trans (Int.ediv_le_self _ h0) hn
      have hdd : n / 256 ^ (j + 1) = n / 256 ^ j / 256 := by rw [Int.pow_succ, Int.ediv_ediv_of_nonneg (Int.le_of_lt (Int.pow_pos (by decide)))]
      obtain ⟨q, hq⟩ : ∃ q, q = n / 256 ^ j := ⟨_, rfl⟩
      rw [← hq] at hq0 hq1 hdd ⊢
      have hone := World.ownsRow_lit (size := 1) (e := 5) wr #[.int .u8 (q % 256)] 1 hB.size (by decide) rfl
      obtain ⟨A, cap, rfl⟩ := hrd.form
      have hrd' := (hrd.alloc (.cells #[.int .u8 (q % 256)] 5)).rdv
      have HD := Lib.hid hdd
      have HQ := Lib.hid hq
      have HL := Lib.hid hll
      have HR := Lib.hid hrd'
      clear hdd hq hll hrd hrd' ho
      have hBa := hB.alloc hB.size (.cells #[.int .u8 (q % 256)] 5)
      go_wp2_with (at_builtin; refine wpList_append_any _ rfl _ _ 23 rfl w.heap.size 5 i0 _ 1 1 Tryd.underlying23 hi hz0 hz1 hz2 rfl (by decide) (.slice (some ⟨wr.heap.size, 0, none⟩) 1 1) 1 [.int .u8 (q % 256)] rfl hone A (lowb n j).length cap _ rfl HR.out.2.2.2.2 (oneInts _ _) (by have := HL.out; unfold maxLen; omega) (by have := HL.out; omega) hBa.size HR.out.2.1 ?_; intro v1 w1 hown1 hgrow1 hat1)
      go_roundw
      case rel => exact ⟨j + 1, by omega, by go_num, by rw [HD.out], by rw [HL.out] at hown1; simpa [lowb, HQ.out, Nat.add_comm] using hown1, hBa.grown hgrow1 hBa.size (fun k hk => by simp [Value.ownBlock] at hk; have := hB.size; omega)⟩
      case measure => simp [intOf]; omega
    · obtain rfl : j = 4 := by omega
      obtain ⟨g, cap, rfl, hg, hgl⟩ := ho.form (by omega)
      have hc0 := ho.cellAt 0 (by omega)
      have hf0 := ho.frozenAt 0
      simp only [lowb, List.map_cons, List.getElem?_cons_zero] at hc0
      have hm0 : 0 ≤ n / 256 ^ 3 % 256 := by omega
      have hm1 : n / 256 ^ 3 % 256 + 128 ≤ 255 := HF.out.2
      obtain ⟨q, hq⟩ : ∃ q, q = n / 256 ^ 3 % 256 := ⟨_, rfl⟩
      have hst := ho.stored 0 (.int .u8 (q + 128))
      rw [← hq] at hc0 hm0 hm1
      have HQ := Lib.hid hq
      have HS := Lib.hid hst
      clear hq hst hll hrd
      go_wp2
      go_ret2
      refine ⟨_, rfl, ?_, hB.setCell hg _⟩
      rw [HF.out.1, ← HQ.out]
      simpa [lowb, lowb_len] using HS.out.1

set_option maxHeartbeats 2000000 in
set_option maxRecDepth 100000 in
theorem rwide_8 (n : Int) (w : World) (h0 : 0 ≤ n) (hlim : n < 4611686018427387904) (hv0 : vsz n ≠ 0) (hv : vsz n ≤ 8) :
    Calls Tryd.prog 17 #[.int .u64 n, .int .i64 8] w fun e w' => ∃ v, e = .returned (.tuple #[v, .int .i64 0]) ∧ w'.ownsRow w.heap.size 5 1 v (vform n 8).length ((vform n 8).map (Value.int .u8)) ∧ Below w.heap.size w w' := by
  obtain ⟨i0, hi, hz0, hz1, hz2⟩ := info_parts infoB
  have hn : n ≤ 18446744073709551615 := by omega
  have hz : ((vsz n : Int) == 0) = false := by simp; omega
  have hy2 : decide ((8 : Int) < (vsz n : Int)) = false := by simp; omega
  have hy3 : (vsz n : Int) ≤ 8 := by omega
  have HF : Hid (vform n 8 = (n / 256 ^ 7 % 256 + 192) :: lowb n 7 ∧ n / 256 ^ 7 % 256 + 192 ≤ 255) := ⟨by simp only [lowb]; first | (simp [vform8]; done) | (simp [vform8]; omega), by omega⟩
  clear hv hv0
  go_enter Tryd.func17, Tryd.ntmps17
  go_wp2_with (go_at_call 16; refine (rsize_any n _ h0 hn).mono ?_; rintro e w' ⟨rfl, rfl⟩)
  go_loopw [0, 7, 27] (fun x v i wr => ∃ j : Nat, j ≤ 8 ∧ i = .int .i64 j ∧ x = .int .u64 (n / 256 ^ j) ∧ wr.ownsRow w.heap.size 5 1 v j ((lowb n j).map (Value.int .u8)) ∧ Below w.heap.size w wr) (fun _ _ i _ => 8 - (intOf i).toNat)
  case atStart => exact ⟨0, by omega, rfl, by simp, World.ownsRow_nil _ _ _ _, Below.refl _ _⟩
  case round =>
    obtain ⟨j, hj, rfl, rfl, ho, hB⟩ := hrel
    have hll := lowb_len n j
    have hrd := rd_of_own (k := .u8) (l := lowb n j) ho
    by_cases hlt : j < 8
    · have hq0 : 0 ≤ n / 256 ^ j := Int.ediv_nonneg h0 (Int.le_of_lt (Int.pow_pos (by decide)))
      have hq1 : n / 256 ^ j ≤ 18446744073709551615 := Int.le_trans (Int.ediv_le_self _ h0) hn
      have hdd : n / 256 ^ (j + 1) = n / 256 ^ j / 256 := by rw [Int.pow_succ, Int.ediv_ediv_of_nonneg (Int.le_of_lt (Int.pow_pos (by decide)))]
      obtain ⟨q, hq⟩ : ∃ q, q = n / 256 ^ j := ⟨_, rfl⟩
      rw [← hq] at hq0 hq1 hdd ⊢
      have hone := World.ownsRow_lit (size := 1) (e := 5) wr #[.int .u8 (q % 256)] 1 hB.size (by decide) rfl
      obtain ⟨A, cap, rfl⟩ := hrd.form
      have hrd' := (hrd.alloc (.cells #[.int .u8 (q % 256)] 5)).rdv
      have HD := Lib.hid hdd
      have HQ := Lib.hid hq
      have HL := Lib.hid hll
      have HR := Lib.hid hrd'
      clear hdd hq hll hrd hrd' ho
      have hBa := hB.alloc hB.size (.cells #[.int .u8 (q % 256)] 5)
      go_wp2_with (at_builtin; refine wpList_append_any _ rfl _ _ 23 rfl w.heap.size 5 i0 _ 1 1 Tryd.underlying23 hi hz0 hz1 hz2 rfl (by decide) (.slice (some ⟨wr.heap.size, 0, none⟩) 1 1) 1 [.int .u8 (q % 256)] rfl hone A (lowb n j).length cap _ rfl HR.out.2.2.2.2 (oneInts _ _) (by have := HL.out; unfold maxLen; omega) (by have := HL.out; omega) hBa.size HR.out.2.1 ?_; intro v1 w1 hown1 hgrow1 hat1)
      go_roundw
      case rel => exact ⟨j + 1, by omega, by go_num, by rw [HD.out], by rw [HL.out] at hown1; simpa [lowb, HQ.out, Nat.add_comm] using hown1, hBa.grown hgrow1 hBa.size (fun k hk => by simp [Value.ownBlock] at hk; have := hB.size; omega)⟩
      case measure => simp [intOf]; omega
    · obtain rfl : j = 8 := by omega
      obtain ⟨g, cap, rfl, hg, hgl⟩ := ho.form (by omega)
      have hc0 := ho.cellAt 0 (by omega)
      have hf0 := ho.frozenAt 0
      simp only [lowb, List.map_cons, List.getElem?_cons_zero] at hc0
      have hm0 : 0 ≤ n / 256 ^ 7 % 256 := by omega
      have hm1 : n / 256 ^ 7 % 256 + 192 ≤ 255 := HF.out.2
      obtain ⟨q, hq⟩ : ∃ q, q = n / 256 ^ 7 % 256 := ⟨_, rfl⟩
      have hst := ho.stored 0 (.int .u8 (q + 192))
      rw [← hq] at hc0 hm0 hm1
      have HQ := Lib.hid hq
      have HS := Lib.hid hst
      clear hq hst hll hrd
      go_wp2
      go_ret2
      refine ⟨_, rfl, ?_, hB.setCell hg _⟩
      rw [HF.out.1, ← HQ.out]
      simpa [lowb, lowb_len] using HS.out.1

theorem rwide_any (n : Int) (s : Nat) (w : World) (h0 : 0 ≤ n) (hs : s = 1 ∨ s = 2 ∨ s = 4 ∨ s = 8) (h : vsz n ≠ 0) (h' : vsz n ≤ s) :
    Calls Tryd.prog 17 #[.int .u64 n, .int .i64 s] w fun e w' => ∃ v, e = .returned (.tuple #[v, .int .i64 0]) ∧ w'.ownsRow w.heap.size 5 1 v (vform n s).length ((vform n s).map (Value.int .u8)) ∧ Below w.heap.size w w' := by
  rcases vsz_fits n s hs h h' with ⟨rfl, hn⟩ | ⟨rfl, hn⟩ | ⟨rfl, hn⟩ | ⟨rfl, hn⟩
  · exact rwide_1 n w h0 hn h h'
  · exact rwide_2 n w h0 hn h h'
  · exact rwide_4 n w h0 hn h h'
  · exact rwide_8 n w h0 hn h h'

/-- What Wide answers. -/
def wideR (n s : Int) : List Int × Int :=
  if s = 1 ∨ s = 2 ∨ s = 4 ∨ s = 8 then if vsz n = 0 ∨ s < vsz n then ([], 3) else (vform n s.toNat, 0) else ([], 1)
theorem wideR_arg {n s : Int} (h : ¬(s = 1 ∨ s = 2 ∨ s = 4 ∨ s = 8)) : wideR n s = ([], 1) := by unfold wideR; rw [if_neg h]
theorem wideR_long {n s : Int} (h : s = 1 ∨ s = 2 ∨ s = 4 ∨ s = 8) (h' : vsz n = 0 ∨ s < vsz n) : wideR n s = ([], 3) := by unfold wideR; rw [if_pos h, if_pos h']
theorem wideR_fits {n s : Int} (h : s = 1 ∨ s = 2 ∨ s = 4 ∨ s = 8) (h' : ¬(vsz n = 0 ∨ s < vsz n)) : wideR n s = (vform n s.toNat, 0) := by unfold wideR; rw [if_pos h, if_neg h']
theorem wideR_ok (n s : Int) (h0 : 0 ≤ n) : BytesOk (wideR n s).1 := by
  by_cases h : s = 1 ∨ s = 2 ∨ s = 4 ∨ s = 8
  · by_cases h' : vsz n = 0 ∨ s < vsz n
    · rw [wideR_long h h']; intro x hx; simp at hx
    · rw [wideR_fits h h']; exact vform_ok n s.toNat h0 (by omega) (by omega) (by omega)
  · rw [wideR_arg h]; intro x hx; simp at hx
def numR (n : Int) : List Int × Int := if vsz n = 0 then ([], 3) else (vform n (vsz n), 0)
theorem numR_ok (n : Int) (h0 : 0 ≤ n) : BytesOk (numR n).1 := by
  unfold numR
  by_cases h : vsz n = 0
  · rw [if_pos h]; intro x hx; simp at hx
  · rw [if_neg h]; exact vform_ok n _ h0 (vsz_in n h) h (Nat.le_refl _)
theorem wide_all (n s : Int) (w : World) (h0 : 0 ≤ n) (hn : n ≤ 18446744073709551615) :
    Calls Tryd.prog 53 #[.int .u64 n, .int .i64 s] w fun e w' => ∃ v, e = .returned (.tuple #[v, .int .i64 (wideR n s).2]) ∧ Rd w' .u8 v (wideR n s).1 ∧ Below w.heap.size w w' := by
  by_cases h : s = 1 ∨ s = 2 ∨ s = 4 ∨ s = 8
  · obtain ⟨k, rfl⟩ := Int.eq_ofNat_of_zero_le (show 0 ≤ s by omega)
    by_cases h' : vsz n = 0 ∨ (k : Int) < vsz n
    · rw [wideR_long h h']
      exact (wide_long n k w h0 hn (by omega) (by omega)).mono fun e w' ⟨he, hw⟩ => ⟨_, he, Rd.nil _ _, by rw [← hw]; exact Below.refl _ _⟩
    · rw [wideR_fits h h']
      exact (wide_any n k w h0 (by omega) (by omega) (by omega)).mono fun e w' ⟨v, he, ho, hB⟩ => ⟨v, he, rd_of_own ho, hB⟩
  · rw [wideR_arg h]
    exact (wide_arg n s w (by omega) (by omega) (by omega) (by omega)).mono fun e w' ⟨he, hw⟩ => ⟨_, he, Rd.nil _ _, by rw [← hw]; exact Below.refl _ _⟩
theorem rwide_all (n s : Int) (w : World) (h0 : 0 ≤ n) (hn : n ≤ 18446744073709551615) :
    Calls Tryd.prog 17 #[.int .u64 n, .int .i64 s] w fun e w' => ∃ v, e = .returned (.tuple #[v, .int .i64 (wideR n s).2]) ∧ Rd w' .u8 v (wideR n s).1 ∧ Below w.heap.size w w' := by
  by_cases h : s = 1 ∨ s = 2 ∨ s = 4 ∨ s = 8
  · obtain ⟨k, rfl⟩ := Int.eq_ofNat_of_zero_le (show 0 ≤ s by omega)
    by_cases h' : vsz n = 0 ∨ (k : Int) < vsz n
    · rw [wideR_long h h']
      exact (rwide_long n k w h0 hn (by omega) (by omega)).mono fun e w' ⟨he, hw⟩ => ⟨_, he, Rd.nil _ _, by rw [← hw]; exact Below.refl _ _⟩
    · rw [wideR_fits h h']
      exact (rwide_any n k w h0 (by omega) (by omega) (by omega)).mono fun e w' ⟨v, he, ho, hB⟩ => ⟨v, he, rd_of_own ho, hB⟩
  · rw [wideR_arg h]
    exact (rwide_arg n s w (by omega) (by omega) (by omega) (by omega)).mono fun e w' ⟨he, hw⟩ => ⟨_, he, Rd.nil _ _, by rw [← hw]; exact Below.refl _ _⟩
theorem num_all (n : Int) (w : World) (h0 : 0 ≤ n) (hn : n ≤ 18446744073709551615) :
    Calls Tryd.prog 41 #[.int .u64 n] w fun e w' => ∃ v, e = .returned (.tuple #[v, .int .i64 (numR n).2]) ∧ Rd w' .u8 v (numR n).1 ∧ Below w.heap.size w w' := by
  unfold numR
  by_cases h : vsz n = 0
  · rw [if_pos h]
    exact (num_none n w h0 hn h).mono fun e w' ⟨he, hw⟩ => ⟨_, he, Rd.nil _ _, by rw [← hw]; exact Below.refl _ _⟩
  · rw [if_neg h]
    exact (num_any n w h0 hn h).mono fun e w' ⟨v, he, ho, hB⟩ => ⟨v, he, rd_of_own ho, hB⟩
theorem rnum_all (n : Int) (w : World) (h0 : 0 ≤ n) (hn : n ≤ 18446744073709551615) :
    Calls Tryd.prog 18 #[.int .u64 n] w fun e w' => ∃ v, e = .returned (.tuple #[v, .int .i64 (numR n).2]) ∧ Rd w' .u8 v (numR n).1 ∧ Below w.heap.size w w' := by
  unfold numR
  by_cases h : vsz n = 0
  · rw [if_pos h]
    have hz : ((vsz n : Int) == 0) = true := by simp; omega
    go_enter Tryd.func18, Tryd.ntmps18
    go_wp2_with (go_at_call 16; refine (rsize_any n _ h0 hn).mono ?_; rintro e w' ⟨rfl, rfl⟩)
    go_ret2
    exact ⟨_, rfl, Rd.nil _ _, Below.refl _ _⟩
  · rw [if_neg h]
    have hz : ((vsz n : Int) == 0) = false := by simp; omega
    go_enter Tryd.func18, Tryd.ntmps18
    go_wp2_with (first | (go_at_call 16; refine (rsize_any n _ h0 hn).mono ?_; rintro e w' ⟨rfl, rfl⟩) | (go_at_call 17; refine (rwide_any n (vsz n) _ h0 (vsz_in n h) h (Nat.le_refl _)).mono ?_; rintro e w1 ⟨v, rfl, ho, hB⟩))
    go_ret2
    exact ⟨_, rfl, rd_of_own ho, hB⟩

end Go.Proofs.YtbigbnfllkacoaaDoor
