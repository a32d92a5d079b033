/-
  What the small functions on bytes do, each once: two alike, a copy, a part.
-/
import Derived.Test.YtiaabbflchdcbaaList
namespace Go.Proofs.Ytiaabbflchdcbaa
open Go.RowKit
set_option linter.unusedVariables false
set_option linter.unusedSimpArgs false


theorem infoB : (Try.prog.info? 5).map (fun i => (i.zero, i.size, i.bytes)) = some (some (.int .u8 0), 1, 1) := by kernel_rfl
theorem laidOut : laidOutB Try.prog = true := by kernel_rfl
theorem own : ownKnob Try.prog.godebug = none := by kernel_rfl
theorem bstr_inj2 {a b : List Int} (ha : ∀ x ∈ a, 0 ≤ x ∧ x ≤ 255) (hb : ∀ x ∈ b, 0 ≤ x ∧ x ≤ 255) (h : (bstr a).toList = (bstr b).toList) : a = b := by
  rw [ByteArray.toList_eq, ByteArray.toList_eq] at h
  exact bstr_inj ha hb (ByteArray.ext (Array.toList_inj.1 h))
def BytesOk (l : List Int) : Prop := ∀ x ∈ l, 0 ≤ x ∧ x ≤ 255
theorem BytesOk.getD {l : List Int} (h : BytesOk l) (i : Nat) : 0 ≤ l.getD i 0 ∧ l.getD i 0 ≤ 255 := by
  by_cases hi : i < l.length
  · have := h (l[i]) (List.getElem_mem hi)
    simpa [List.getD, hi] using this
  · simp [List.getD, hi]
theorem BytesOk.take {l : List Int} (h : BytesOk l) (n : Nat) : BytesOk (l.take n) := fun x hx => h x (List.mem_of_mem_take hx)
theorem BytesOk.drop {l : List Int} (h : BytesOk l) (n : Nat) : BytesOk (l.drop n) := fun x hx => h x (List.mem_of_mem_drop hx)
theorem BytesOk.append {a b : List Int} (h : BytesOk a) (k : BytesOk b) : BytesOk (a ++ b) := fun x hx => (List.mem_append.1 hx).elim (h x) (k x)

theorem same_yes (v v' : Value) (l : List Int) (w : World) (ha : Rd w .u8 v l) (hb : Rd w .u8 v' l) :
    Calls Try.prog 35 #[v, v'] w fun e w' => e = .returned (.bool true) ∧ w = w' := by
  obtain ⟨A, cap, rfl⟩ := ha.form
  obtain ⟨A', cap', rfl⟩ := hb.form
  have h1 := run_conv 30 9 5 Try.underlying30 Try.underlying5 Try.underlying9 ha
  have h2 := run_conv 30 9 5 Try.underlying30 Try.underlying5 Try.underlying9 hb
  go_enter Try.func35, Try.ntmps35
  go_wp2
  go_ret
  exact ⟨by simp, rfl⟩
theorem same_no (v v' : Value) (l l' : List Int) (w : World) (ha : Rd w .u8 v l) (hb : Rd w .u8 v' l') (ka : BytesOk l) (kb : BytesOk l') (hne : l ≠ l') :
    Calls Try.prog 35 #[v, v'] w fun e w' => e = .returned (.bool false) ∧ w = w' := by
  obtain ⟨A, cap, rfl⟩ := ha.form
  obtain ⟨A', cap', rfl⟩ := hb.form
  have h1 := run_conv 30 9 5 Try.underlying30 Try.underlying5 Try.underlying9 ha
  have h2 := run_conv 30 9 5 Try.underlying30 Try.underlying5 Try.underlying9 hb
  have hs : ¬(bstr l).toList = (bstr l').toList := fun e => hne (bstr_inj2 ka kb e)
  go_enter Try.func35, Try.ntmps35
  go_wp2
  go_ret
  exact ⟨by simp [hs], rfl⟩

theorem copy_any (v : Value) (l : List Int) (w : World) (ha : Rd w .u8 v l) (hl : l.length ≤ 1099511627776) :
    Calls Try.prog 40 #[v] w fun e w' => ∃ v', e = .returned v' ∧ w'.ownsRow w.heap.size 5 1 v' l.length (l.map (Value.int .u8)) ∧ Below w.heap.size w w' := by
  obtain ⟨i0, hi, hz0, hz1, hz2⟩ := info_parts infoB
  obtain ⟨A, cap, rfl⟩ := ha.form
  obtain ⟨_, hA, hlc, hcm, hrd⟩ := ha.rdv
  have hrd1 := (ha.alloc (.cells #[] 5)).rdv.2.2.2.2
  have hown0 := World.ownsRow_lit (size := 1) (e := 5) w #[] 0 (Nat.le_refl _) (by decide) rfl
  go_enter Try.func40, Try.ntmps40
  go_wp2_with (at_builtin; refine wpList_append_any _ rfl _ _ 30 rfl w.heap.size 5 i0 _ 1 1 Try.underlying30 hi hz0 hz1 hz2 rfl (by decide) (.slice (some ⟨w.heap.size, 0, none⟩) 0 0) 0 [] rfl hown0 A l.length cap _ rfl hrd1 (oneInts _ _) (by unfold maxLen; omega) (by omega) (by simp) hA ?_; intro v1 w1 hown1 hgrow1 hat1)
  go_ret
  exact ⟨_, rfl, by simpa using hown1, ((Below.refl _ _).alloc (Nat.le_refl _) _).grown hgrow1 (by simp) (by simp [Value.ownBlock])⟩

theorem cut_any (v : Value) (l : List Int) (n : Nat) (w : World) (ha : Rd w .u8 v l) (hn : n ≤ 1099511627776) :
    Calls Try.prog 10 #[v, .int .i64 n] w fun e w' => ∃ v', e = .returned v' ∧ w'.ownsRow w.heap.size 5 1 v' (l.take n).length ((l.take n).map (Value.int .u8)) ∧ Below w.heap.size w w' := by
  obtain ⟨i0, hi, hz0, hz1, hz2⟩ := info_parts infoB
  obtain ⟨A, cap, rfl⟩ := ha.form
  obtain ⟨_, hA, hlc, hcm, hrd⟩ := ha.rdv
  have hcm' : cap ≤ 9223372036854775807 := by unfold maxLen at hcm; omega
  have hown0 := World.ownsRow_lit (size := 1) (e := 5) w #[] 0 (Nat.le_refl _) (by decide) rfl
  have hpre : ∀ m, m ≤ l.length → RdV (w.alloc (.cells #[] 5)) 1 A m ((l.take m).map (Value.int .u8)) := fun m hm => by
    refine ⟨by simp; omega, fun i hi => ?_⟩
    obtain ⟨b, off, e, hb, hc⟩ := (ha.alloc (.cells #[] 5)).rdv.2.2.2.2.2 i (by omega)
    refine ⟨b, off, e, hb, fun j hj => ?_⟩
    rw [hc j hj]
    have hi' : i < l.length := by omega
    obtain rfl : j = 0 := by omega
    simp [List.getD, hi', hi]
  by_cases hc : n < l.length
  · have hrd1 := hpre n (by omega)
    have htk : (l.take n).length = n := by simp; omega
    rw [htk]
    clear hpre htk
    go_enter Try.func10, Try.ntmps10
    go_wp2_with (at_builtin; refine wpList_append_any _ rfl _ _ 30 rfl w.heap.size 5 i0 _ 1 1 Try.underlying30 hi hz0 hz1 hz2 rfl (by decide) (.slice (some ⟨w.heap.size, 0, none⟩) 0 0) 0 [] rfl hown0 A n cap _ rfl hrd1 (oneInts _ _) (by unfold maxLen; omega) (by omega) (by simp) (fun h => by have := hA h; omega) ?_; intro v1 w1 hown1 hgrow1 hat1)
    go_ret
    exact ⟨_, rfl, by simpa using hown1, ((Below.refl _ _).alloc (Nat.le_refl _) _).grown hgrow1 (by simp) (by simp [Value.ownBlock])⟩
  · have hrd1 := hpre l.length (Nat.le_refl _)
    rw [List.take_of_length_le (by omega)]
    rw [List.take_length] at hrd1
    clear hpre
    go_enter Try.func10, Try.ntmps10
    go_wp2_with (at_builtin; refine wpList_append_any _ rfl _ _ 30 rfl w.heap.size 5 i0 _ 1 1 Try.underlying30 hi hz0 hz1 hz2 rfl (by decide) (.slice (some ⟨w.heap.size, 0, none⟩) 0 0) 0 [] rfl hown0 A l.length cap _ rfl hrd1 (oneInts _ _) (by unfold maxLen; omega) (by omega) (by simp) hA ?_; intro v1 w1 hown1 hgrow1 hat1)
    go_ret
    exact ⟨_, rfl, by simpa using hown1, ((Below.refl _ _).alloc (Nat.le_refl _) _).grown hgrow1 (by simp) (by simp [Value.ownBlock])⟩

theorem clone_any (v : Value) (l : List Int) (w : World) (ha : Rd w .u8 v l) (hl : l.length ≤ 1099511627776) :
    Calls Try.prog 33 #[v] w fun e w' => ∃ v', e = .returned v' ∧ w'.ownsRow w.heap.size 5 1 v' l.length (l.map (Value.int .u8)) ∧ Below w.heap.size w w' := by
  obtain ⟨i0, hi, hz0, hz1, hz2⟩ := info_parts infoB
  obtain ⟨A, cap, rfl⟩ := ha.form
  obtain ⟨_, hA, hlc, hcm, hrd⟩ := ha.rdv
  have hrd1 := (ha.alloc (.cells #[] 5)).rdv.2.2.2.2
  have hown0 := World.ownsRow_lit (size := 1) (e := 5) w #[] 0 (Nat.le_refl _) (by decide) rfl
  have hnil := fun W : World => Lib.run_eql_slice_nil (P := Try.prog) W 30 5 A l.length cap 0 0 Try.underlying30
  rcases A with _ | ad
  · have h0 : l = [] := List.eq_nil_of_length_eq_zero (hA rfl)
    subst h0
    simp only [List.length_nil] at hnil
    go_enter Try.func33, Try.ntmps33
    go_wp2
    go_ret
    exact ⟨_, rfl, World.ownsRow_nil _ _ _ _, Below.refl _ _⟩
  · go_enter Try.func33, Try.ntmps33
    go_wp2_with (at_builtin; refine wpList_append_any _ rfl _ _ 30 rfl w.heap.size 5 i0 _ 1 1 Try.underlying30 hi hz0 hz1 hz2 rfl (by decide) (.slice (some ⟨w.heap.size, 0, none⟩) 0 0) 0 [] rfl hown0 (some ad) l.length cap _ rfl hrd1 (oneInts _ _) (by unfold maxLen; omega) (by omega) (by simp) hA ?_; intro v1 w1 hown1 hgrow1 hat1)
    go_ret
    exact ⟨_, rfl, by simpa using hown1, ((Below.refl _ _).alloc (Nat.le_refl _) _).grown hgrow1 (by simp) (by simp [Value.ownBlock])⟩

end Go.Proofs.Ytiaabbflchdcbaa
