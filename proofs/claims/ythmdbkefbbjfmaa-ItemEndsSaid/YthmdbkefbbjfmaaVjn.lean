/-
  Numbers one behind the other; a text's bytes; of the program and of the reference.
-/
import Derived.Test.YthmdbkefbbjfmaaVref
import Derived.Test.YthmdbkefbbjfmaaOpen
namespace Go.Proofs.Ythmdbkefbbjfmaa
open Go.RowKit
set_option linter.unusedVariables false
set_option linter.unusedSimpArgs false


theorem rnum_none (n : Int) (w : World) (h0 : 0 ≤ n) (hn : n ≤ 18446744073709551615) (h : vsz n = 0) :
    Calls Try.prog 41 #[.int .u64 n] w fun e w' => e = .returned (.tuple #[.slice none 0 0, .int .i64 3]) ∧ w = w' := by
  have hz : ((vsz n : Int) == 0) = true := by simp; omega
  go_enter Try.func41, Try.ntmps41
  go_wp2_with (go_at_call 48; refine (rsize_any n _ h0 hn).mono ?_; rintro e w' ⟨rfl, rfl⟩)
  go_ret2
  exact ⟨rfl, rfl⟩
theorem rnum_any (n : Int) (w : World) (h0 : 0 ≤ n) (hn : n ≤ 18446744073709551615) (h : vsz n ≠ 0) :
    Calls Try.prog 41 #[.int .u64 n] w fun e w' => ∃ v, e = .returned (.tuple #[v, .int .i64 0]) ∧ w'.ownsRow w.heap.size 5 1 v (vform n (vsz n)).length ((vform n (vsz n)).map (Value.int .u8)) ∧ Below w.heap.size w w' := by
  have hz : ((vsz n : Int) == 0) = false := by simp; omega
  go_enter Try.func41, Try.ntmps41
  go_wp2_with (first | (go_at_call 48; refine (rsize_any n _ h0 hn).mono ?_; rintro e w' ⟨rfl, rfl⟩) | (go_at_call 49; refine (rwide_any n (vsz n) _ h0 (vsz_in n h) h (Nat.le_refl _)).mono ?_; rintro e w1 ⟨v, rfl, ho, hB⟩))
  go_ret2
  exact ⟨_, rfl, ho, hB⟩

/-- A text's bytes. -/
def txtB (l : List Int) : List Int := vform l.length (vsz l.length) ++ l
theorem vsz_some {n : Int} (h : n ≤ 4611686018427387903) : vsz n ≠ 0 := by
  rcases vsz_cases n with ⟨_, e⟩ | ⟨_, _, e⟩ | ⟨_, _, e⟩ | ⟨_, _, e⟩ | ⟨_, e⟩ <;> omega
theorem vsz_lim {n : Int} (h : vsz n ≠ 0) : n ≤ 4611686018427387903 := by
  rcases vsz_cases n with ⟨_, e⟩ | ⟨_, _, e⟩ | ⟨_, _, e⟩ | ⟨_, _, e⟩ | ⟨_, e⟩ <;> omega
theorem vf_len (n : Int) (h : vsz n ≠ 0) : (vform n (vsz n)).length ≤ 8 := by
  rw [vform_len n _ (vsz_in n h)]
  rcases vsz_in n h with h | h | h | h <;> omega
theorem txtB_len (l : List Int) (hl : l.length ≤ 1000000) : (txtB l).length ≤ l.length + 8 := by
  have := vf_len (l.length : Int) (vsz_some (by omega))
  unfold txtB
  rw [List.length_append]
  omega
theorem txtB_ok (l : List Int) (hl : l.length ≤ 1000000) (hk : BytesOk l) : BytesOk (txtB l) := by
  have hv := vsz_some (n := (l.length : Int)) (by omega)
  unfold txtB
  exact (vform_ok _ _ (by omega) (vsz_in _ hv) hv (Nat.le_refl _)).append hk

theorem txt_any (v : Value) (l : List Int) (w : World) (ha : Rd w .u8 v l) (hl : l.length ≤ 1000000) :
    Calls Try.prog 30 #[v] w fun e w' => ∃ v', e = .returned v' ∧ w'.ownsRow w.heap.size 5 1 v' (txtB l).length ((txtB l).map (Value.int .u8)) ∧ Below w.heap.size w w' := by
  obtain ⟨i0, hi, hz0, hz1, hz2⟩ := info_parts infoB
  obtain ⟨A, cap, rfl⟩ := ha.form
  have hv := vsz_some (n := (l.length : Int)) (by omega)
  have hf8 := vf_len (l.length : Int) hv
  have HA := Lib.hid ha
  clear ha
  obtain ⟨fl, hfe⟩ : ∃ fl, fl = vform (l.length : Int) (vsz l.length) := ⟨_, rfl⟩
  rw [← hfe] at hf8
  have HF := Lib.hid hfe
  clear hfe
  go_enter Try.func30, Try.ntmps30
  go_wp2_with fail
  refine (num_any (l.length : Int) _ (by omega) (by omega) hv).mono ?_
  rintro e w1 ⟨v1, rfl, ho, hB⟩
  rw [← HF.out] at ho
  have hrd := (HA.out.below hB).rdv
  have HR := Lib.hid hrd
  clear hrd
  go_wp2_with (at_builtin; refine wpList_append_any _ rfl _ _ 27 rfl w.heap.size 5 i0 _ 1 1 Try.underlying27 hi hz0 hz1 hz2 rfl (by decide) v1 fl.length (fl.map (Value.int .u8)) rfl ho A l.length cap _ rfl HR.out.2.2.2.2 (oneInts _ _) (by unfold maxLen; omega) (by omega) hB.size HR.out.2.1 ?_; intro v2 w2 hown hgrow hat)
  go_ret
  refine ⟨_, rfl, ?_, hB.grown hgrow hB.size (fun b hb => (ho.lt b hb).1)⟩
  unfold txtB
  rw [← HF.out, List.length_append, List.map_append]
  exact hown

theorem rtxt_any (v : Value) (l : List Int) (w : World) (ha : Rd w .u8 v l) (hl : l.length ≤ 1000000) :
    Calls Try.prog 31 #[v] w fun e w' => ∃ v', e = .returned v' ∧ w'.ownsRow w.heap.size 5 1 v' (txtB l).length ((txtB l).map (Value.int .u8)) ∧ Below w.heap.size w w' := by
  obtain ⟨i0, hi, hz0, hz1, hz2⟩ := info_parts infoB
  obtain ⟨A, cap, rfl⟩ := ha.form
  have hv := vsz_some (n := (l.length : Int)) (by omega)
  have hf8 := vf_len (l.length : Int) hv
  have HA := Lib.hid ha
  clear ha
  obtain ⟨fl, hfe⟩ : ∃ fl, fl = vform (l.length : Int) (vsz l.length) := ⟨_, rfl⟩
  rw [← hfe] at hf8
  have HF := Lib.hid hfe
  clear hfe
  go_enter Try.func31, Try.ntmps31
  go_wp2_with fail
  refine (rnum_any (l.length : Int) _ (by omega) (by omega) hv).mono ?_
  rintro e w1 ⟨v1, rfl, ho, hB⟩
  rw [← HF.out] at ho
  have hrd := (HA.out.below hB).rdv
  have HR := Lib.hid hrd
  clear hrd
  go_wp2_with (at_builtin; refine wpList_append_any _ rfl _ _ 27 rfl w.heap.size 5 i0 _ 1 1 Try.underlying27 hi hz0 hz1 hz2 rfl (by decide) v1 fl.length (fl.map (Value.int .u8)) rfl ho A l.length cap _ rfl HR.out.2.2.2.2 (oneInts _ _) (by unfold maxLen; omega) (by omega) hB.size HR.out.2.1 ?_; intro v2 w2 hown hgrow hat)
  go_ret
  refine ⟨_, rfl, ?_, hB.grown hgrow hB.size (fun b hb => (ho.lt b hb).1)⟩
  unfold txtB
  rw [← HF.out, List.length_append, List.map_append]
  exact hown

/-- Numbers that have a form, one behind the other. -/
def AllN (l : List Int) : Prop := ∀ x ∈ l, 0 ≤ x ∧ x ≤ 18446744073709551615
def FitN (l : List Int) : Prop := ∀ x ∈ l, vsz x ≠ 0
def joinN (l : List Int) : List Int := l.flatMap fun n => vform n (vsz n)
theorem joinN_take (l : List Int) (k : Nat) (hk : k < l.length) : joinN (l.take (k + 1)) = joinN (l.take k) ++ vform (l.getD k 0) (vsz (l.getD k 0)) := by
  have e : l.getD k 0 = l[k] := by simp [List.getD, hk]
  rw [e, List.take_succ_eq_append_getElem hk]
  unfold joinN
  rw [List.flatMap_append]
  simp
theorem joinN_len (l : List Int) (h : FitN l) : (joinN l).length ≤ 8 * l.length := by
  induction l with
  | nil => simp [joinN]
  | cons x r ih =>
    have := ih (fun y hy => h y (by simp [hy]))
    have hl := vf_len x (h x (by simp))
    rw [show joinN (x :: r) = vform x (vsz x) ++ joinN r from rfl, List.length_append, List.length_cons]
    omega
theorem joinN_ok (l : List Int) (h : FitN l) (ha : AllN l) : BytesOk (joinN l) := by
  induction l with
  | nil => intro x hx; simp [joinN] at hx
  | cons x r ih =>
    have hx := h x (by simp)
    rw [show joinN (x :: r) = vform x (vsz x) ++ joinN r from rfl]
    exact (vform_ok x _ (ha x (by simp)).1 (vsz_in x hx) hx (Nat.le_refl _)).append (ih (fun y hy => h y (by simp [hy])) (fun y hy => ha y (by simp [hy])))

set_option maxRecDepth 100000 in
theorem join_yes (v : Value) (l : List Int) (w : World) (ha : Rd w .u64 v l) (hl : l.length ≤ 20) (hn : AllN l) (hf : FitN l) :
    Calls Try.prog 28 #[v] w fun e w' => ∃ v', e = .returned (.tuple #[v', .bool true]) ∧ w'.ownsRow w.heap.size 5 1 v' (joinN l).length ((joinN l).map (Value.int .u8)) ∧ Below w.heap.size w w' := by
  obtain ⟨i0, hi, hz0, hz1, hz2⟩ := info_parts infoB
  obtain ⟨A, cap, rfl⟩ := ha.form
  have HA := Lib.hid ha
  have HN := Lib.hid hn
  have HF := Lib.hid hf
  clear ha hn hf
  go_enter Try.func28, Try.ntmps28
  go_wp2_with fail
  go_loopw [4, 11] (fun p i wr => ∃ (pv : Value) (k : Nat), pv = p ∧ k ≤ l.length ∧ i = .int .i64 k ∧ wr.ownsRow w.heap.size 5 1 pv (joinN (l.take k)).length ((joinN (l.take k)).map (Value.int .u8)) ∧ Below w.heap.size w wr) (fun _ i _ => l.length - (intOf i).toNat)
  case atStart => exact ⟨_, 0, rfl, Nat.zero_le _, rfl, World.ownsRow_nil _ _ _ _, Below.refl _ _⟩
  case round =>
    obtain ⟨pv, k, rfl, hkl, rfl, hop, hB⟩ := hrel
    by_cases hlt : k < l.length
    · obtain ⟨b, off, rfl, hb, c0⟩ := (HA.out.below hB).at_ k hlt
      have hjt := joinN_take l k hlt
      have hjl := joinN_len (l.take k) (fun x hx => HF.out x (List.mem_of_mem_take hx))
      have hxm : l.getD k 0 ∈ l := by rw [show l.getD k 0 = l[k] by simp [List.getD, hlt]]; exact List.getElem_mem hlt
      have hx1 := HN.out _ hxm
      have hx2 := HF.out _ hxm
      rw [List.length_take] at hjl
      obtain ⟨x, hx⟩ : ∃ x, x = l.getD k 0 := ⟨_, rfl⟩
      rw [← hx] at c0 hjt hx1 hx2
      obtain ⟨J, hJ⟩ : ∃ J, J = joinN (l.take k) := ⟨_, rfl⟩
      rw [← hJ] at hop hjt hjl
      have HJ := Lib.hid hjt
      have hf8 := vf_len x hx2
      clear hx hJ hjt hxm
      go_wp2_with fail
      refine (num_any x _ hx1.1 hx1.2 hx2).mono ?_
      rintro e w1 ⟨v1, rfl, ho, hb1⟩
      have hop1 := own_same hop hb1
      have hB1 := hB.trans (hb1.mono hB.size)
      obtain ⟨q, hq⟩ : ∃ q, q = vform x (vsz x) := ⟨_, rfl⟩
      rw [← hq] at ho hf8 HJ
      have r1 := rd_of_own ho
      obtain ⟨A1, cap1, rfl⟩ := r1.form
      have H1 := Lib.hid r1.rdv
      clear hq r1 ho hop hb1
      go_wp2_with (at_builtin; refine wpList_append_any _ rfl _ _ 27 rfl w.heap.size 5 i0 _ 1 1 Try.underlying27 hi hz0 hz1 hz2 rfl (by decide) pv J.length _ rfl hop1 A1 q.length cap1 _ rfl H1.out.2.2.2.2 (oneInts _ _) (by unfold maxLen; omega) (by omega) hB1.size H1.out.2.1 ?_; intro v4 w4 hown4 hgrow4 hat4)
      have hB4 := hB1.grown hgrow4 hB1.size (fun b hb => (hop1.lt b hb).1)
      go_roundw
      case rel => exact ⟨_, k + 1, rfl, by omega, by go_num, by rw [HJ.out, List.length_append, List.map_append]; exact hown4, hB4⟩
      case measure => simp [intOf]; omega
    · have htk : l.take k = l := List.take_of_length_le (by omega)
      rw [htk] at hop
      clear htk
      go_wp2_with fail
      go_ret2
      exact ⟨_, rfl, hop, hB⟩
set_option maxRecDepth 100000 in
theorem join_no (v : Value) (l : List Int) (j : Nat) (w : World) (ha : Rd w .u64 v l) (hl : l.length ≤ 20) (hn : AllN l) (hj : j < l.length) (hf : FitN (l.take j)) (hz : vsz (l.getD j 0) = 0) :
    Calls Try.prog 28 #[v] w fun e w' => e = .returned (.tuple #[.slice none 0 0, .bool false]) ∧ Below w.heap.size w w' := by
  obtain ⟨i0, hi, hz0, hz1, hz2⟩ := info_parts infoB
  obtain ⟨A, cap, rfl⟩ := ha.form
  have HA := Lib.hid ha
  have HN := Lib.hid hn
  have HF := Lib.hid hf
  have HZ := Lib.hid hz
  clear ha hn hf hz
  go_enter Try.func28, Try.ntmps28
  go_wp2_with fail
  go_loopw [4, 11] (fun p i wr => ∃ (pv : Value) (k : Nat) (J : List Int), pv = p ∧ k ≤ j ∧ i = .int .i64 k ∧ J.length ≤ 8 * k ∧ wr.ownsRow w.heap.size 5 1 pv J.length (J.map (Value.int .u8)) ∧ Below w.heap.size w wr) (fun _ i _ => l.length - (intOf i).toNat)
  case atStart => exact ⟨_, 0, [], rfl, Nat.zero_le _, rfl, Nat.le_refl _, World.ownsRow_nil _ _ _ _, Below.refl _ _⟩
  case round =>
    obtain ⟨pv, k, J, rfl, hkj, rfl, hjl, hop, hB⟩ := hrel
    have hlt : k < l.length := by omega
    obtain ⟨b, off, rfl, hb, c0⟩ := (HA.out.below hB).at_ k hlt
    have hxm : l.getD k 0 ∈ l := by rw [show l.getD k 0 = l[k] by simp [List.getD, hlt]]; exact List.getElem_mem hlt
    have hx1 := HN.out _ hxm
    by_cases hkk : k < j
    · have hx2 : vsz (l.getD k 0) ≠ 0 := HF.out _ (by
        rw [show l.getD k 0 = l[k] by simp [List.getD, hlt]]
        exact List.mem_take_iff_getElem.2 ⟨k, by omega, rfl⟩)
      obtain ⟨x, hx⟩ : ∃ x, x = l.getD k 0 := ⟨_, rfl⟩
      rw [← hx] at c0 hx1 hx2
      have hf8 := vf_len x hx2
      clear hx hxm
      go_wp2_with fail
      refine (num_any x _ hx1.1 hx1.2 hx2).mono ?_
      rintro e w1 ⟨v1, rfl, ho, hb1⟩
      have hop1 := own_same hop hb1
      have hB1 := hB.trans (hb1.mono hB.size)
      obtain ⟨q, hq⟩ : ∃ q, q = vform x (vsz x) := ⟨_, rfl⟩
      rw [← hq] at ho hf8
      have r1 := rd_of_own ho
      obtain ⟨A1, cap1, rfl⟩ := r1.form
      have H1 := Lib.hid r1.rdv
      clear hq r1 ho hop hb1
      go_wp2_with (at_builtin; refine wpList_append_any _ rfl _ _ 27 rfl w.heap.size 5 i0 _ 1 1 Try.underlying27 hi hz0 hz1 hz2 rfl (by decide) pv J.length _ rfl hop1 A1 q.length cap1 _ rfl H1.out.2.2.2.2 (oneInts _ _) (by unfold maxLen; omega) (by omega) hB1.size H1.out.2.1 ?_; intro v4 w4 hown4 hgrow4 hat4)
      have hB4 := hB1.grown hgrow4 hB1.size (fun b hb => (hop1.lt b hb).1)
      go_roundw
      case rel => exact ⟨_, k + 1, J ++ q, rfl, by omega, by go_num, by rw [List.length_append]; omega, by rw [List.length_append, List.map_append]; exact hown4, hB4⟩
      case measure => simp [intOf]; omega
    · have hke : k = j := by omega
      subst hke
      have hx2 := HZ.out
      obtain ⟨x, hx⟩ : ∃ x, x = l.getD k 0 := ⟨_, rfl⟩
      rw [← hx] at c0 hx1 hx2
      have HX2 := Lib.hid hx2
      clear hx hxm hx2
      go_wp2_with fail
      refine (num_none x _ hx1.1 hx1.2 HX2.out).mono ?_
      rintro e w1 ⟨rfl, rfl⟩
      go_wp2_with fail
      go_ret2
      exact ⟨rfl, hB⟩

set_option maxRecDepth 100000 in
theorem nums_yes (v : Value) (l : List Int) (w : World) (ha : Rd w .u64 v l) (hl : l.length ≤ 20) (hn : AllN l) (hf : FitN l) :
    Calls Try.prog 29 #[v] w fun e w' => ∃ v', e = .returned (.tuple #[v', .bool true]) ∧ w'.ownsRow w.heap.size 5 1 v' (joinN l).length ((joinN l).map (Value.int .u8)) ∧ Below w.heap.size w w' := by
  obtain ⟨i0, hi, hz0, hz1, hz2⟩ := info_parts infoB
  obtain ⟨A, cap, rfl⟩ := ha.form
  have HA := Lib.hid ha
  have HN := Lib.hid hn
  have HF := Lib.hid hf
  clear ha hn hf
  go_enter Try.func29, Try.ntmps29
  go_wp2_with fail
  go_loopw [4, 11] (fun p i wr => ∃ (pv : Value) (k : Nat), pv = p ∧ k ≤ l.length ∧ i = .int .i64 k ∧ wr.ownsRow w.heap.size 5 1 pv (joinN (l.take k)).length ((joinN (l.take k)).map (Value.int .u8)) ∧ Below w.heap.size w wr) (fun _ i _ => l.length - (intOf i).toNat)
  case atStart => exact ⟨_, 0, rfl, Nat.zero_le _, rfl, World.ownsRow_nil _ _ _ _, Below.refl _ _⟩
  case round =>
    obtain ⟨pv, k, rfl, hkl, rfl, hop, hB⟩ := hrel
    by_cases hlt : k < l.length
    · obtain ⟨b, off, rfl, hb, c0⟩ := (HA.out.below hB).at_ k hlt
      have hjt := joinN_take l k hlt
      have hjl := joinN_len (l.take k) (fun x hx => HF.out x (List.mem_of_mem_take hx))
      have hxm : l.getD k 0 ∈ l := by rw [show l.getD k 0 = l[k] by simp [List.getD, hlt]]; exact List.getElem_mem hlt
      have hx1 := HN.out _ hxm
      have hx2 := HF.out _ hxm
      rw [List.length_take] at hjl
      obtain ⟨x, hx⟩ : ∃ x, x = l.getD k 0 := ⟨_, rfl⟩
      rw [← hx] at c0 hjt hx1 hx2
      obtain ⟨J, hJ⟩ : ∃ J, J = joinN (l.take k) := ⟨_, rfl⟩
      rw [← hJ] at hop hjt hjl
      have HJ := Lib.hid hjt
      have hf8 := vf_len x hx2
      clear hx hJ hjt hxm
      go_wp2_with fail
      refine (rnum_any x _ hx1.1 hx1.2 hx2).mono ?_
      rintro e w1 ⟨v1, rfl, ho, hb1⟩
      have hop1 := own_same hop hb1
      have hB1 := hB.trans (hb1.mono hB.size)
      obtain ⟨q, hq⟩ : ∃ q, q = vform x (vsz x) := ⟨_, rfl⟩
      rw [← hq] at ho hf8 HJ
      have r1 := rd_of_own ho
      obtain ⟨A1, cap1, rfl⟩ := r1.form
      have H1 := Lib.hid r1.rdv
      clear hq r1 ho hop hb1
      go_wp2_with (at_builtin; refine wpList_append_any _ rfl _ _ 27 rfl w.heap.size 5 i0 _ 1 1 Try.underlying27 hi hz0 hz1 hz2 rfl (by decide) pv J.length _ rfl hop1 A1 q.length cap1 _ rfl H1.out.2.2.2.2 (oneInts _ _) (by unfold maxLen; omega) (by omega) hB1.size H1.out.2.1 ?_; intro v4 w4 hown4 hgrow4 hat4)
      have hB4 := hB1.grown hgrow4 hB1.size (fun b hb => (hop1.lt b hb).1)
      go_roundw
      case rel => exact ⟨_, k + 1, rfl, by omega, by go_num, by rw [HJ.out, List.length_append, List.map_append]; exact hown4, hB4⟩
      case measure => simp [intOf]; omega
    · have htk : l.take k = l := List.take_of_length_le (by omega)
      rw [htk] at hop
      clear htk
      go_wp2_with fail
      go_ret2
      exact ⟨_, rfl, hop, hB⟩
set_option maxRecDepth 100000 in
theorem nums_no (v : Value) (l : List Int) (j : Nat) (w : World) (ha : Rd w .u64 v l) (hl : l.length ≤ 20) (hn : AllN l) (hj : j < l.length) (hf : FitN (l.take j)) (hz : vsz (l.getD j 0) = 0) :
    Calls Try.prog 29 #[v] w fun e w' => e = .returned (.tuple #[.slice none 0 0, .bool false]) ∧ Below w.heap.size w w' := by
  obtain ⟨i0, hi, hz0, hz1, hz2⟩ := info_parts infoB
  obtain ⟨A, cap, rfl⟩ := ha.form
  have HA := Lib.hid ha
  have HN := Lib.hid hn
  have HF := Lib.hid hf
  have HZ := Lib.hid hz
  clear ha hn hf hz
  go_enter Try.func29, Try.ntmps29
  go_wp2_with fail
  go_loopw [4, 11] (fun p i wr => ∃ (pv : Value) (k : Nat) (J : List Int), pv = p ∧ k ≤ j ∧ i = .int .i64 k ∧ J.length ≤ 8 * k ∧ wr.ownsRow w.heap.size 5 1 pv J.length (J.map (Value.int .u8)) ∧ Below w.heap.size w wr) (fun _ i _ => l.length - (intOf i).toNat)
  case atStart => exact ⟨_, 0, [], rfl, Nat.zero_le _, rfl, Nat.le_refl _, World.ownsRow_nil _ _ _ _, Below.refl _ _⟩
  case round =>
    obtain ⟨pv, k, J, rfl, hkj, rfl, hjl, hop, hB⟩ := hrel
    have hlt : k < l.length := by omega
    obtain ⟨b, off, rfl, hb, c0⟩ := (HA.out.below hB).at_ k hlt
    have hxm : l.getD k 0 ∈ l := by rw [show l.getD k 0 = l[k] by simp [List.getD, hlt]]; exact List.getElem_mem hlt
    have hx1 := HN.out _ hxm
    by_cases hkk : k < j
    · have hx2 : vsz (l.getD k 0) ≠ 0 := HF.out _ (by
        rw [show l.getD k 0 = l[k] by simp [List.getD, hlt]]
        exact List.mem_take_iff_getElem.2 ⟨k, by omega, rfl⟩)
      obtain ⟨x, hx⟩ : ∃ x, x = l.getD k 0 := ⟨_, rfl⟩
      rw [← hx] at c0 hx1 hx2
      have hf8 := vf_len x hx2
      clear hx hxm
      go_wp2_with fail
      refine (rnum_any x _ hx1.1 hx1.2 hx2).mono ?_
      rintro e w1 ⟨v1, rfl, ho, hb1⟩
      have hop1 := own_same hop hb1
      have hB1 := hB.trans (hb1.mono hB.size)
      obtain ⟨q, hq⟩ : ∃ q, q = vform x (vsz x) := ⟨_, rfl⟩
      rw [← hq] at ho hf8
      have r1 := rd_of_own ho
      obtain ⟨A1, cap1, rfl⟩ := r1.form
      have H1 := Lib.hid r1.rdv
      clear hq r1 ho hop hb1
      go_wp2_with (at_builtin; refine wpList_append_any _ rfl _ _ 27 rfl w.heap.size 5 i0 _ 1 1 Try.underlying27 hi hz0 hz1 hz2 rfl (by decide) pv J.length _ rfl hop1 A1 q.length cap1 _ rfl H1.out.2.2.2.2 (oneInts _ _) (by unfold maxLen; omega) (by omega) hB1.size H1.out.2.1 ?_; intro v4 w4 hown4 hgrow4 hat4)
      have hB4 := hB1.grown hgrow4 hB1.size (fun b hb => (hop1.lt b hb).1)
      go_roundw
      case rel => exact ⟨_, k + 1, J ++ q, rfl, by omega, by go_num, by rw [List.length_append]; omega, by rw [List.length_append, List.map_append]; exact hown4, hB4⟩
      case measure => simp [intOf]; omega
    · have hke : k = j := by omega
      subst hke
      have hx2 := HZ.out
      obtain ⟨x, hx⟩ : ∃ x, x = l.getD k 0 := ⟨_, rfl⟩
      rw [← hx] at c0 hx1 hx2
      have HX2 := Lib.hid hx2
      clear hx hxm hx2
      go_wp2_with fail
      refine (rnum_none x _ hx1.1 hx1.2 HX2.out).mono ?_
      rintro e w1 ⟨rfl, rfl⟩
      go_wp2_with fail
      go_ret2
      exact ⟨rfl, hB⟩

/-- What the two answer. -/
def fitB (l : List Int) : Bool := l.all fun x => decide (vsz x ≠ 0)
theorem fitB_yes {l : List Int} (h : fitB l = true) : FitN l := fun x hx => by
  have := List.all_eq_true.1 h x hx
  simpa using this
theorem fitB_no {l : List Int} (h : fitB l = false) : ∃ j, j < l.length ∧ FitN (l.take j) ∧ vsz (l.getD j 0) = 0 := by
  induction l with
  | nil => cases h
  | cons x r ih =>
    by_cases hx : vsz x = 0
    · exact ⟨0, by simp, fun y hy => by simp at hy, by simpa using hx⟩
    · have hr : fitB r = false := by
        unfold fitB at h ⊢
        simpa [hx] using h
      obtain ⟨j, h1, h2, h3⟩ := ih hr
      refine ⟨j + 1, by simpa using h1, fun y hy => ?_, by simpa using h3⟩
      rw [List.take_succ_cons] at hy
      rcases List.mem_cons.1 hy with rfl | hy
      · exact hx
      · exact h2 y hy
/-- A slice of numbers that the call lays itself. -/
theorem rd_lit (w : World) (l : List Int) (hl : l.length ≤ 100) : Rd (w.alloc (.cells (l.map (Value.int .u64)).toArray 22)) .u64 (.slice (some ⟨w.heap.size, 0, none⟩) l.length l.length) l :=
  ⟨_, l.length, rfl, Nat.le_refl _, by unfold maxLen; omega, fun h => (by cases h), fun i hi => ⟨w.heap.size, 0, rfl, by simp, fun j hj => by
    obtain rfl : j = 0 := by omega
    simp [List.getD, hi]⟩⟩
theorem rd_lit_at {w : World} {n : Nat} (hn : n = w.heap.size) (l : List Int) (hl : l.length ≤ 100) : Rd (w.alloc (.cells (l.map (Value.int .u64)).toArray 22)) .u64 (.slice (some ⟨n, 0, none⟩) l.length l.length) l := hn ▸ rd_lit w l hl

def jn (l : List Int) : List Int := if fitB l = true then joinN l else []
theorem jn_len (l : List Int) : (jn l).length ≤ 8 * l.length := by
  unfold jn
  by_cases h : fitB l = true
  · rw [if_pos h]; exact joinN_len l (fitB_yes h)
  · rw [if_neg h]; simp
theorem jn_ok (l : List Int) (ha : AllN l) : BytesOk (jn l) := by
  unfold jn
  by_cases h : fitB l = true
  · rw [if_pos h]; exact joinN_ok l (fitB_yes h) ha
  · rw [if_neg h]; intro x hx; simp at hx

theorem join_any (v : Value) (l : List Int) (w : World) (ha : Rd w .u64 v l) (hl : l.length ≤ 20) (hn : AllN l) :
    Calls Try.prog 28 #[v] w fun e w' => ∃ v', e = .returned (.tuple #[v', .bool (fitB l)]) ∧ w'.ownsRow w.heap.size 5 1 v' (jn l).length ((jn l).map (Value.int .u8)) ∧ Below w.heap.size w w' := by
  unfold jn
  cases h : fitB l with
  | true =>
    rw [if_pos rfl]
    exact join_yes v l w ha hl hn (fitB_yes h)
  | false =>
    rw [if_neg (by simp)]
    obtain ⟨j, h1, h2, h3⟩ := fitB_no h
    exact (join_no v l j w ha hl hn h1 h2 h3).mono fun e w' ⟨he, hB⟩ => ⟨_, he, World.ownsRow_nil _ _ _ _, hB⟩

theorem nums_any (v : Value) (l : List Int) (w : World) (ha : Rd w .u64 v l) (hl : l.length ≤ 20) (hn : AllN l) :
    Calls Try.prog 29 #[v] w fun e w' => ∃ v', e = .returned (.tuple #[v', .bool (fitB l)]) ∧ w'.ownsRow w.heap.size 5 1 v' (jn l).length ((jn l).map (Value.int .u8)) ∧ Below w.heap.size w w' := by
  unfold jn
  cases h : fitB l with
  | true =>
    rw [if_pos rfl]
    exact nums_yes v l w ha hl hn (fitB_yes h)
  | false =>
    rw [if_neg (by simp)]
    obtain ⟨j, h1, h2, h3⟩ := fitB_no h
    exact (nums_no v l j w ha hl hn h1 h2 h3).mono fun e w' ⟨he, hB⟩ => ⟨_, he, World.ownsRow_nil _ _ _ _, hB⟩

end Go.Proofs.Ythmdbkefbbjfmaa
