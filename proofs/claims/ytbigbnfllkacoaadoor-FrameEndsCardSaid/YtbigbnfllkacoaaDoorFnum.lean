/-
  Numbers and texts in their least forms: Num, Text, join.
-/
import Derived.Test.YtbigbnfllkacoaaDoorVwide
import Derived.Test.YtbigbnfllkacoaaDoorOpen
namespace Go.Proofs.YtbigbnfllkacoaaDoor
open Go.RowKit
set_option linter.unusedVariables false
set_option linter.unusedSimpArgs false

theorem wide_any (n : Int) (s : Nat) (w : World) (h0 : 0 ≤ n) (hs : s = 1 ∨ s = 2 ∨ s = 4 ∨ s = 8) (h : vsz n ≠ 0) (h' : vsz n ≤ s) :
    Calls Tryd.prog 53 #[.int .u64 n, .int .i64 s] w fun e w' => ∃ v, e = .returned (.tuple #[v, .int .i64 0]) ∧ w'.ownsRow w.heap.size 5 1 v (vform n s).length ((vform n s).map (Value.int .u8)) ∧ Below w.heap.size w w' := by
  have key : ∀ k : Nat, (vform n k).length = k → k ≤ 8 → (w.alloc (.cells ((vform n k).map (Value.int .u8)).toArray 5)).ownsRow w.heap.size 5 1 (.slice (some ⟨w.heap.size, 0, none⟩) k k) (vform n k).length ((vform n k).map (Value.int .u8)) := fun k hk hk8 => by
    have := World.ownsRow_lit (size := 1) (e := 5) w ((vform n k).map (Value.int .u8)).toArray k (Nat.le_refl _) (by unfold maxLen; omega) (by simp [hk])
    rw [hk]
    simpa using this
  have hB : ∀ o, Below w.heap.size w (w.alloc o) := fun o => (Below.refl _ _).alloc (Nat.le_refl _) o
  rcases vsz_fits n s hs h h' with ⟨rfl, hn⟩ | ⟨rfl, hn⟩ | ⟨rfl, hn⟩ | ⟨rfl, hn⟩
  · exact (wide_1 n w h0 hn h h').mono fun e w' ⟨he, hw⟩ => ⟨_, he, by rw [← hw]; exact key 1 rfl (by omega), by rw [← hw]; exact hB _⟩
  · exact (wide_2 n w h0 hn h h').mono fun e w' ⟨he, hw⟩ => ⟨_, he, by rw [← hw]; exact key 2 rfl (by omega), by rw [← hw]; exact hB _⟩
  · exact (wide_4 n w h0 hn h h').mono fun e w' ⟨he, hw⟩ => ⟨_, he, by rw [← hw]; exact key 4 rfl (by omega), by rw [← hw]; exact hB _⟩
  · exact (wide_8 n w h0 hn h h').mono fun e w' ⟨he, hw⟩ => ⟨_, he, by rw [← hw]; exact key 8 rfl (by omega), by rw [← hw]; exact hB _⟩

theorem num_none (n : Int) (w : World) (h0 : 0 ≤ n) (hn : n ≤ 18446744073709551615) (h : vsz n = 0) :
    Calls Tryd.prog 41 #[.int .u64 n] w fun e w' => e = .returned (.tuple #[.slice none 0 0, .int .i64 3]) ∧ w = w' := by
  have hz : ((vsz n : Int) == 0) = true := by simp; omega
  go_enter Tryd.func41, Tryd.ntmps41
  go_wp2_with fail
  refine (size_any n _ h0 hn).mono ?_
  rintro e w' ⟨rfl, rfl⟩
  go_wp2_with fail
  go_ret2
  exact ⟨rfl, rfl⟩
theorem num_any (n : Int) (w : World) (h0 : 0 ≤ n) (hn : n ≤ 18446744073709551615) (h : vsz n ≠ 0) :
    Calls Tryd.prog 41 #[.int .u64 n] w fun e w' => ∃ v, e = .returned (.tuple #[v, .int .i64 0]) ∧ w'.ownsRow w.heap.size 5 1 v (vform n (vsz n)).length ((vform n (vsz n)).map (Value.int .u8)) ∧ Below w.heap.size w w' := by
  have hz : ((vsz n : Int) == 0) = false := by simp; omega
  go_enter Tryd.func41, Tryd.ntmps41
  go_wp2_with fail
  refine (size_any n _ h0 hn).mono ?_
  rintro e w' ⟨rfl, rfl⟩
  go_wp2_with fail
  refine (wide_any n (vsz n) _ h0 (vsz_in n h) h (Nat.le_refl _)).mono ?_
  rintro e w1 ⟨v, rfl, ho, hb⟩
  go_wp2_with fail
  go_ret2
  exact ⟨_, rfl, ho, hb⟩

/-- A text's bytes. -/
def txtB (l : List Int) : List Int := vform l.length (vsz l.length) ++ l
theorem vsz_some {n : Int} (h : n ≤ 4611686018427387903) : vsz n ≠ 0 := by
  rcases vsz_cases n with ⟨_, e⟩ | ⟨_, _, e⟩ | ⟨_, _, e⟩ | ⟨_, _, e⟩ | ⟨_, e⟩ <;> omega
theorem vsz_lim {n : Int} (h : vsz n ≠ 0) : n ≤ 4611686018427387903 := by
  rcases vsz_cases n with ⟨_, e⟩ | ⟨_, _, e⟩ | ⟨_, _, e⟩ | ⟨_, _, e⟩ | ⟨_, e⟩ <;> omega
theorem vf_len (n : Int) (h : vsz n ≠ 0) : (vform n (vsz n)).length ≤ 8 := by
  rw [vform_len n _ (vsz_in n h)]
  rcases vsz_in n h with h | h | h | h <;> omega
theorem txtB_len (l : List Int) (hl : l.length ≤ 1000000) : (txtB l).length ≤ l.length + 8 := by
  have := vf_len (l.length : Int) (vsz_some (by omega))
  unfold txtB
  rw [List.length_append]
  omega
theorem txtB_ok (l : List Int) (hl : l.length ≤ 1000000) (hk : BytesOk l) : BytesOk (txtB l) := by
  have hv := vsz_some (n := (l.length : Int)) (by omega)
  unfold txtB
  exact (vform_ok _ _ (by omega) (vsz_in _ hv) hv (Nat.le_refl _)).append hk

theorem txt_any (v : Value) (l : List Int) (w : World) (ha : Rd w .u8 v l) (hl : l.length ≤ 1000000) :
    Calls Tryd.prog 26 #[v] w fun e w' => ∃ v', e = .returned v' ∧ w'.ownsRow w.heap.size 5 1 v' (txtB l).length ((txtB l).map (Value.int .u8)) ∧ Below w.heap.size w w' := by
  obtain ⟨i0, hi, hz0, hz1, hz2⟩ := info_parts infoB
  obtain ⟨A, cap, rfl⟩ := ha.form
  have hv := vsz_some (n := (l.length : Int)) (by omega)
  have hf8 := vf_len (l.length : Int) hv
  have HA := Lib.hid ha
  clear ha
  obtain ⟨fl, hfe⟩ : ∃ fl, fl = vform (l.length : Int) (vsz l.length) := ⟨_, rfl⟩
  rw [← hfe] at hf8
  have HF := Lib.hid hfe
  clear hfe
  go_enter Tryd.func26, Tryd.ntmps26
  go_wp2_with fail
  refine (num_any (l.length : Int) _ (by omega) (by omega) hv).mono ?_
  rintro e w1 ⟨v1, rfl, ho, hB⟩
  rw [← HF.out] at ho
  have hrd := (HA.out.below hB).rdv
  have HR := Lib.hid hrd
  clear hrd
  go_wp2_with (at_builtin; refine wpList_append_any _ rfl _ _ 23 rfl w.heap.size 5 i0 _ 1 1 Tryd.underlying23 hi hz0 hz1 hz2 rfl (by decide) v1 fl.length (fl.map (Value.int .u8)) rfl ho A l.length cap _ rfl HR.out.2.2.2.2 (oneInts _ _) (by unfold maxLen; omega) (by omega) hB.size HR.out.2.1 ?_; intro v2 w2 hown hgrow hat)
  go_ret
  refine ⟨_, rfl, ?_, hB.grown hgrow hB.size (fun b hb => (ho.lt b hb).1)⟩
  unfold txtB
  rw [← HF.out, List.length_append, List.map_append]
  exact hown

/-- Numbers that have a form, one behind the other. -/
def AllN (l : List Int) : Prop := ∀ x ∈ l, 0 ≤ x ∧ x ≤ 18446744073709551615
def FitN (l : List Int) : Prop := ∀ x ∈ l, vsz x ≠ 0
def joinN (l : List Int) : List Int := l.flatMap fun n => vform n (vsz n)
theorem joinN_take (l : List Int) (k : Nat) (hk : k < l.length) : joinN (l.take (k + 1)) = joinN (l.take k) ++ vform (l.getD k 0) (vsz (l.getD k 0)) := by
  have e : l.getD k 0 = l[k] := by simp [List.getD, hk]
  rw [e, List.take_succ_eq_append_getElem hk]
  unfold joinN
  rw [List.flatMap_append]
  simp
theorem joinN_len (l : List Int) (h : FitN l) : (joinN l).length ≤ 8 * l.length := by
  induction l with
  | nil => simp [joinN]
  | cons x r ih =>
    have := ih (fun y hy => h y (by simp [hy]))
    have hl := vf_len x (h x (by simp))
    rw [show joinN (x :: r) = vform x (vsz x) ++ joinN r from rfl, List.length_append, List.length_cons]
    omega
theorem joinN_ok (l : List Int) (h : FitN l) (ha : AllN l) : BytesOk (joinN l) := by
  induction l with
  | nil => intro x hx; simp [joinN] at hx
  | cons x r ih =>
    have hx := h x (by simp)
    rw [show joinN (x :: r) = vform x (vsz x) ++ joinN r from rfl]
    exact (vform_ok x _ (ha x (by simp)).1 (vsz_in x hx) hx (Nat.le_refl _)).append (ih (fun y hy => h y (by simp [hy])) (fun y hy => ha y (by simp [hy])))

/-- A slice of numbers that the call lays itself. -/
theorem rd_lit (w : World) (l : List Int) (hl : l.length ≤ 100) : Rd (w.alloc (.cells (l.map (Value.int .u64)).toArray 22)) .u64 (.slice (some ⟨w.heap.size, 0, none⟩) l.length l.length) l :=
  ⟨_, l.length, rfl, Nat.le_refl _, by unfold maxLen; omega, fun h => (by cases h), fun i hi => ⟨w.heap.size, 0, rfl, by simp, fun j hj => by
    obtain rfl : j = 0 := by omega
    simp [List.getD, hi]⟩⟩
theorem rd_lit_at {w : World} {n : Nat} (hn : n = w.heap.size) (l : List Int) (hl : l.length ≤ 100) : Rd (w.alloc (.cells (l.map (Value.int .u64)).toArray 22)) .u64 (.slice (some ⟨n, 0, none⟩) l.length l.length) l := hn ▸ rd_lit w l hl

/-- What the two answer. -/
def fitB (l : List Int) : Bool := l.all fun x => decide (vsz x ≠ 0)
theorem fitB_yes {l : List Int} (h : fitB l = true) : FitN l := fun x hx => by
  have := List.all_eq_true.1 h x hx
  simpa using this
set_option maxRecDepth 100000 in
theorem join_yes (v : Value) (l : List Int) (w : World) (ha : Rd w .u64 v l) (hl : l.length ≤ 20) (hn : AllN l) (hf : FitN l) :
    Calls Tryd.prog 23 #[v] w fun e w' => ∃ v', e = .returned v' ∧ w'.ownsRow w.heap.size 5 1 v' (joinN l).length ((joinN l).map (Value.int .u8)) ∧ Below w.heap.size w w' := by
  obtain ⟨i0, hi, hz0, hz1, hz2⟩ := info_parts infoB
  obtain ⟨A, cap, rfl⟩ := ha.form
  have HA := Lib.hid ha
  have HN := Lib.hid hn
  have HF := Lib.hid hf
  clear ha hn hf
  go_enter Tryd.func23, Tryd.ntmps23
  go_wp2_with fail
  go_loopw [3, 10] (fun p i wr => ∃ (pv : Value) (k : Nat), pv = p ∧ k ≤ l.length ∧ i = .int .i64 k ∧ wr.ownsRow w.heap.size 5 1 pv (joinN (l.take k)).length ((joinN (l.take k)).map (Value.int .u8)) ∧ Below w.heap.size w wr) (fun _ i _ => l.length - (intOf i).toNat)
  case atStart => exact ⟨_, 0, rfl, Nat.zero_le _, rfl, World.ownsRow_nil _ _ _ _, Below.refl _ _⟩
  case round =>
    obtain ⟨pv, k, rfl, hkl, rfl, hop, hB⟩ := hrel
    by_cases hlt : k < l.length
    · obtain ⟨b, off, rfl, hb, c0⟩ := (HA.out.below hB).at_ k hlt
      have hjt := joinN_take l k hlt
      have hjl := joinN_len (l.take k) (fun x hx => HF.out x (List.mem_of_mem_take hx))
      have hxm : l.getD k 0 ∈ l := by rw [show l.getD k 0 = l[k] by simp [List.getD, hlt]]; exact List.getElem_mem hlt
      have hx1 := HN.out _ hxm
      have hx2 := HF.out _ hxm
      rw [List.length_take] at hjl
      obtain ⟨x, hx⟩ : ∃ x, x = l.getD k 0 := ⟨_, rfl⟩
      rw [← hx] at c0 hjt hx1 hx2
      obtain ⟨J, hJ⟩ : ∃ J, J = joinN (l.take k) := ⟨_, rfl⟩
      rw [← hJ] at hop hjt hjl
      have HJ := Lib.hid hjt
      have hf8 := vf_len x hx2
      clear hx hJ hjt hxm
      go_wp2_with fail
      refine (num_any x _ hx1.1 hx1.2 hx2).mono ?_
      rintro e w1 ⟨v1, rfl, ho, hb1⟩
      have hop1 := own_same hop hb1
      have hB1 := hB.trans (hb1.mono hB.size)
      obtain ⟨q, hq⟩ : ∃ q, q = vform x (vsz x) := ⟨_, rfl⟩
      rw [← hq] at ho hf8 HJ
      have r1 := rd_of_own ho
      obtain ⟨A1, cap1, rfl⟩ := r1.form
      have H1 := Lib.hid r1.rdv
      clear hq r1 ho hop hb1
      go_wp2_with (at_builtin; refine wpList_append_any _ rfl _ _ 23 rfl w.heap.size 5 i0 _ 1 1 Tryd.underlying23 hi hz0 hz1 hz2 rfl (by decide) pv J.length _ rfl hop1 A1 q.length cap1 _ rfl H1.out.2.2.2.2 (oneInts _ _) (by unfold maxLen; omega) (by omega) hB1.size H1.out.2.1 ?_; intro v4 w4 hown4 hgrow4 hat4)
      have hB4 := hB1.grown hgrow4 hB1.size (fun b hb => (hop1.lt b hb).1)
      go_roundw
      case rel => exact ⟨_, k + 1, rfl, by omega, by go_num, by rw [HJ.out, List.length_append, List.map_append]; exact hown4, hB4⟩
      case measure => simp [intOf]; omega
    · have htk : l.take k = l := List.take_of_length_le (by omega)
      rw [htk] at hop
      clear htk
      go_wp2_with fail
      go_ret
      exact ⟨_, rfl, hop, hB⟩

end Go.Proofs.YtbigbnfllkacoaaDoor
