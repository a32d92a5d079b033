/-
  What the small functions on bytes do, each once: two alike, a copy, a part.
  The sizes of numbers: what Size says, of the program and of the reference.
  The forms of numbers: what Wide and Num of package vint do, each once.
  Slices of bytes that were read. No condition.
-/
import Derived.Test.YtjijmbpgfabgcaaDoorZA
namespace Go.Proofs.YtjijmbpgfabgcaaDoor
open Go.RowKit
set_option linter.unusedVariables false
set_option linter.unusedSimpArgs false


theorem infoB : (Tryd.prog.info? 5).map (fun i => (i.zero, i.size, i.bytes)) = some (some (.int .u8 0), 1, 1) := by kernel_rfl
theorem laidOut : laidOutB Tryd.prog = true := by kernel_rfl
theorem own : ownKnob Tryd.prog.godebug = none := by kernel_rfl
theorem bstr_inj2 {a b : List Int} (ha : ∀ x ∈ a, 0 ≤ x ∧ x ≤ 255) (hb : ∀ x ∈ b, 0 ≤ x ∧ x ≤ 255) (h : (bstr a).toList = (bstr b).toList) : a = b := by
  rw [ByteArray.toList_eq, ByteArray.toList_eq] at h
  exact bstr_inj ha hb (ByteArray.ext (Array.toList_inj.1 h))
def BytesOk (l : List Int) : Prop := ∀ x ∈ l, 0 ≤ x ∧ x ≤ 255
theorem BytesOk.getD {l : List Int} (h : BytesOk l) (i : Nat) : 0 ≤ l.getD i 0 ∧ l.getD i 0 ≤ 255 := by
  by_cases hi : i < l.length
  · have := h (l[i]) (List.getElem_mem hi)
    simpa [List.getD, hi] using this
  · simp [List.getD, hi]
theorem BytesOk.take {l : List Int} (h : BytesOk l) (n : Nat) : BytesOk (l.take n) := fun x hx => h x (List.mem_of_mem_take hx)
theorem BytesOk.drop {l : List Int} (h : BytesOk l) (n : Nat) : BytesOk (l.drop n) := fun x hx => h x (List.mem_of_mem_drop hx)
theorem BytesOk.append {a b : List Int} (h : BytesOk a) (k : BytesOk b) : BytesOk (a ++ b) := fun x hx => (List.mem_append.1 hx).elim (h x) (k x)

theorem same_yes (v v' : Value) (l : List Int) (w : World) (ha : Rd w .u8 v l) (hb : Rd w .u8 v' l) :
    Calls Tryd.prog 13 #[v, v'] w fun e w' => e = .returned (.bool true) ∧ w = w' := by
  obtain ⟨A, cap, rfl⟩ := ha.form
  obtain ⟨A', cap', rfl⟩ := hb.form
  have h1 := run_conv 23 9 5 Tryd.underlying23 Tryd.underlying5 Tryd.underlying9 ha
  have h2 := run_conv 23 9 5 Tryd.underlying23 Tryd.underlying5 Tryd.underlying9 hb
  go_enter Tryd.func13, Tryd.ntmps13
  go_wp2
  go_ret
  exact ⟨by simp, rfl⟩
theorem same_no (v v' : Value) (l l' : List Int) (w : World) (ha : Rd w .u8 v l) (hb : Rd w .u8 v' l') (ka : BytesOk l) (kb : BytesOk l') (hne : l ≠ l') :
    Calls Tryd.prog 13 #[v, v'] w fun e w' => e = .returned (.bool false) ∧ w = w' := by
  obtain ⟨A, cap, rfl⟩ := ha.form
  obtain ⟨A', cap', rfl⟩ := hb.form
  have h1 := run_conv 23 9 5 Tryd.underlying23 Tryd.underlying5 Tryd.underlying9 ha
  have h2 := run_conv 23 9 5 Tryd.underlying23 Tryd.underlying5 Tryd.underlying9 hb
  have hs : ¬(bstr l).toList = (bstr l').toList := fun e => hne (bstr_inj2 ka kb e)
  go_enter Tryd.func13, Tryd.ntmps13
  go_wp2
  go_ret
  exact ⟨by simp [hs], rfl⟩

theorem copy_any (v : Value) (l : List Int) (w : World) (ha : Rd w .u8 v l) (hl : l.length ≤ 1099511627776) :
    Calls Tryd.prog 17 #[v] w fun e w' => ∃ v', e = .returned v' ∧ w'.ownsRow w.heap.size 5 1 v' l.length (l.map (Value.int .u8)) ∧ Below w.heap.size w w' := by
  obtain ⟨i0, hi, hz0, hz1, hz2⟩ := info_parts infoB
  obtain ⟨A, cap, rfl⟩ := ha.form
  obtain ⟨_, hA, hlc, hcm, hrd⟩ := ha.rdv
  have hrd1 := (ha.alloc (.cells #[] 5)).rdv.2.2.2.2
  have hown0 := World.ownsRow_lit (size := 1) (e := 5) w #[] 0 (Nat.le_refl _) (by decide) rfl
  go_enter Tryd.func17, Tryd.ntmps17
  go_wp2_with (at_builtin; refine wpList_append_any _ rfl _ _ 23 rfl w.heap.size 5 i0 _ 1 1 Tryd.underlying23 hi hz0 hz1 hz2 rfl (by decide) (.slice (some ⟨w.heap.size, 0, none⟩) 0 0) 0 [] rfl hown0 A l.length cap _ rfl hrd1 (oneInts _ _) (by unfold maxLen; omega) (by omega) (by simp) hA ?_; intro v1 w1 hown1 hgrow1 hat1)
  go_ret
  exact ⟨_, rfl, by simpa using hown1, ((Below.refl _ _).alloc (Nat.le_refl _) _).grown hgrow1 (by simp) (by simp [Value.ownBlock])⟩

theorem cut_any (v : Value) (l : List Int) (n : Nat) (w : World) (ha : Rd w .u8 v l) (hn : n ≤ 1099511627776) :
    Calls Tryd.prog 15 #[v, .int .i64 n] w fun e w' => ∃ v', e = .returned v' ∧ w'.ownsRow w.heap.size 5 1 v' (l.take n).length ((l.take n).map (Value.int .u8)) ∧ Below w.heap.size w w' := by
  obtain ⟨i0, hi, hz0, hz1, hz2⟩ := info_parts infoB
  obtain ⟨A, cap, rfl⟩ := ha.form
  obtain ⟨_, hA, hlc, hcm, hrd⟩ := ha.rdv
  have hcm' : cap ≤ 9223372036854775807 := by unfold maxLen at hcm; omega
  have hown0 := World.ownsRow_lit (size := 1) (e := 5) w #[] 0 (Nat.le_refl _) (by decide) rfl
  have hpre : ∀ m, m ≤ l.length → RdV (w.alloc (.cells #[] 5)) 1 A m ((l.take m).map (Value.int .u8)) := fun m hm => by
    refine ⟨by simp; omega, fun i hi => ?_⟩
    obtain ⟨b, off, e, hb, hc⟩ := (ha.alloc (.cells #[] 5)).rdv.2.2.2.2.2 i (by omega)
    refine ⟨b, off, e, hb, fun j hj => ?_⟩
    rw [hc j hj]
    have hi' : i < l.length := by omega
    obtain rfl : j = 0 := by omega
    simp [List.getD, hi', hi]
  by_cases hc : n < l.length
  · have hrd1 := hpre n (by omega)
    have htk : (l.take n).length = n := by simp; omega
    rw [htk]
    clear hpre htk
    go_enter Tryd.func15, Tryd.ntmps15
    go_wp2_with (at_builtin; refine wpList_append_any _ rfl _ _ 23 rfl w.heap.size 5 i0 _ 1 1 Tryd.underlying23 hi hz0 hz1 hz2 rfl (by decide) (.slice (some ⟨w.heap.size, 0, none⟩) 0 0) 0 [] rfl hown0 A n cap _ rfl hrd1 (oneInts _ _) (by unfold maxLen; omega) (by omega) (by simp) (fun h => by have := hA h; omega) ?_; intro v1 w1 hown1 hgrow1 hat1)
    go_ret
    exact ⟨_, rfl, by simpa using hown1, ((Below.refl _ _).alloc (Nat.le_refl _) _).grown hgrow1 (by simp) (by simp [Value.ownBlock])⟩
  · have hrd1 := hpre l.length (Nat.le_refl _)
    rw [List.take_of_length_le (by omega)]
    rw [List.take_length] at hrd1
    clear hpre
    go_enter Tryd.func15, Tryd.ntmps15
    go_wp2_with (at_builtin; refine wpList_append_any _ rfl _ _ 23 rfl w.heap.size 5 i0 _ 1 1 Tryd.underlying23 hi hz0 hz1 hz2 rfl (by decide) (.slice (some ⟨w.heap.size, 0, none⟩) 0 0) 0 [] rfl hown0 A l.length cap _ rfl hrd1 (oneInts _ _) (by unfold maxLen; omega) (by omega) (by simp) hA ?_; intro v1 w1 hown1 hgrow1 hat1)
    go_ret
    exact ⟨_, rfl, by simpa using hown1, ((Below.refl _ _).alloc (Nat.le_refl _) _).grown hgrow1 (by simp) (by simp [Value.ownBlock])⟩

theorem clone_any (v : Value) (l : List Int) (w : World) (ha : Rd w .u8 v l) (hl : l.length ≤ 1099511627776) :
    Calls Tryd.prog 36 #[v] w fun e w' => ∃ v', e = .returned v' ∧ w'.ownsRow w.heap.size 5 1 v' l.length (l.map (Value.int .u8)) ∧ Below w.heap.size w w' := by
  obtain ⟨i0, hi, hz0, hz1, hz2⟩ := info_parts infoB
  obtain ⟨A, cap, rfl⟩ := ha.form
  obtain ⟨_, hA, hlc, hcm, hrd⟩ := ha.rdv
  have hrd1 := (ha.alloc (.cells #[] 5)).rdv.2.2.2.2
  have hown0 := World.ownsRow_lit (size := 1) (e := 5) w #[] 0 (Nat.le_refl _) (by decide) rfl
  have hnil := fun W : World => Lib.run_eql_slice_nil (P := Tryd.prog) W 23 5 A l.length cap 0 0 Tryd.underlying23
  rcases A with _ | ad
  · have h0 : l = [] := List.eq_nil_of_length_eq_zero (hA rfl)
    subst h0
    simp only [List.length_nil] at hnil
    go_enter Tryd.func36, Tryd.ntmps36
    go_wp2
    go_ret
    exact ⟨_, rfl, World.ownsRow_nil _ _ _ _, Below.refl _ _⟩
  · go_enter Tryd.func36, Tryd.ntmps36
    go_wp2_with (at_builtin; refine wpList_append_any _ rfl _ _ 23 rfl w.heap.size 5 i0 _ 1 1 Tryd.underlying23 hi hz0 hz1 hz2 rfl (by decide) (.slice (some ⟨w.heap.size, 0, none⟩) 0 0) 0 [] rfl hown0 (some ad) l.length cap _ rfl hrd1 (oneInts _ _) (by unfold maxLen; omega) (by omega) (by simp) hA ?_; intro v1 w1 hown1 hgrow1 hat1)
    go_ret
    exact ⟨_, rfl, by simpa using hown1, ((Below.refl _ _).alloc (Nat.le_refl _) _).grown hgrow1 (by simp) (by simp [Value.ownBlock])⟩

end Go.Proofs.YtjijmbpgfabgcaaDoor
namespace Go.Proofs.YtjijmbpgfabgcaaDoor
open Go.RowKit
set_option linter.unusedVariables false
set_option linter.unusedSimpArgs false


/-- How many bytes the least form of a number has; 0: it has none. -/
def vsz (n : Int) : Nat := if n < 64 then 1 else if n < 16384 then 2 else if n < 1073741824 then 4 else if n < 4611686018427387904 then 8 else 0
theorem vsz_cases (n : Int) : (n < 64 ∧ vsz n = 1) ∨ (64 ≤ n ∧ n < 16384 ∧ vsz n = 2) ∨ (16384 ≤ n ∧ n < 1073741824 ∧ vsz n = 4) ∨ (1073741824 ≤ n ∧ n < 4611686018427387904 ∧ vsz n = 8) ∨ (4611686018427387904 ≤ n ∧ vsz n = 0) := by
  unfold vsz
  by_cases h1 : n < 64
  · exact .inl ⟨h1, by rw [if_pos h1]⟩
  · by_cases h2 : n < 16384
    · exact .inr (.inl ⟨by omega, h2, by rw [if_neg h1, if_pos h2]⟩)
    · by_cases h3 : n < 1073741824
      · exact .inr (.inr (.inl ⟨by omega, h3, by rw [if_neg h1, if_neg h2, if_pos h3]⟩))
      · by_cases h4 : n < 4611686018427387904
        · exact .inr (.inr (.inr (.inl ⟨by omega, h4, by rw [if_neg h1, if_neg h2, if_neg h3, if_pos h4]⟩)))
        · exact .inr (.inr (.inr (.inr ⟨by omega, by rw [if_neg h1, if_neg h2, if_neg h3, if_neg h4]⟩)))

theorem size_any (n : Int) (w : World) (h0 : 0 ≤ n) (hn : n ≤ 18446744073709551615) :
    Calls Tryd.prog 46 #[.int .u64 n] w fun e w' => e = .returned (.int .i64 (vsz n)) ∧ w = w' := by
  have b1 : n < 64 → (n / 64 == 0) = true := fun h => by simp; omega
  have b2 : n < 16384 → (n / 16384 == 0) = true := fun h => by simp; omega
  have b3 : n < 1073741824 → (n / 1073741824 == 0) = true := fun h => by simp; omega
  have b4 : n < 4611686018427387904 → (n / 4611686018427387904 == 0) = true := fun h => by simp; omega
  have c1 : 64 ≤ n → (n / 64 == 0) = false := fun h => by simp; omega
  have c2 : 16384 ≤ n → (n / 16384 == 0) = false := fun h => by simp; omega
  have c3 : 1073741824 ≤ n → (n / 1073741824 == 0) = false := fun h => by simp; omega
  have c4 : 4611686018427387904 ≤ n → (n / 4611686018427387904 == 0) = false := fun h => by simp; omega
  rcases vsz_cases n with ⟨h, e⟩ | ⟨h, h', e⟩ | ⟨h, h', e⟩ | ⟨h, h', e⟩ | ⟨h, e⟩
  · rw [e]
    have q0 := b1 h
    clear b1 b2 b3 b4 c1 c2 c3 c4 e
    go_enter Tryd.func46, Tryd.ntmps46
    go_wp2
    refine wp_loop_rounds 1 ?_
    rw [rounds_succ]
    go_wp2
    go_ret
    exact ⟨rfl, rfl⟩
  · rw [e]
    have q0 := c1 h
    have q1 := b2 h'
    clear b1 b2 b3 b4 c1 c2 c3 c4 e
    go_enter Tryd.func46, Tryd.ntmps46
    go_wp2
    refine wp_loop_rounds 2 ?_
    rw [rounds_succ]
    go_wp2
    rw [rounds_succ]
    go_wp2
    go_ret
    exact ⟨rfl, rfl⟩
  · rw [e]
    have q0 := c1 (by omega)
    have q1 := c2 h
    have q2 := b3 h'
    clear b1 b2 b3 b4 c1 c2 c3 c4 e
    go_enter Tryd.func46, Tryd.ntmps46
    go_wp2
    refine wp_loop_rounds 3 ?_
    rw [rounds_succ]
    go_wp2
    rw [rounds_succ]
    go_wp2
    rw [rounds_succ]
    go_wp2
    go_ret
    exact ⟨rfl, rfl⟩
  · rw [e]
    have q0 := c1 (by omega)
    have q1 := c2 (by omega)
    have q2 := c3 h
    have q3 := b4 h'
    clear b1 b2 b3 b4 c1 c2 c3 c4 e
    go_enter Tryd.func46, Tryd.ntmps46
    go_wp2
    refine wp_loop_rounds 4 ?_
    rw [rounds_succ]
    go_wp2
    rw [rounds_succ]
    go_wp2
    rw [rounds_succ]
    go_wp2
    rw [rounds_succ]
    go_wp2
    go_ret
    exact ⟨rfl, rfl⟩
  · rw [e]
    have q0 := c1 (by omega)
    have q1 := c2 (by omega)
    have q2 := c3 (by omega)
    have q3 := c4 h
    clear b1 b2 b3 b4 c1 c2 c3 c4 e
    go_enter Tryd.func46, Tryd.ntmps46
    go_wp2
    refine wp_loop_rounds 5 ?_
    rw [rounds_succ]
    go_wp2
    rw [rounds_succ]
    go_wp2
    rw [rounds_succ]
    go_wp2
    rw [rounds_succ]
    go_wp2
    rw [rounds_succ]
    go_wp2
    go_ret
    exact ⟨rfl, rfl⟩

theorem rsize_any (n : Int) (w : World) (h0 : 0 ≤ n) (hn : n ≤ 18446744073709551615) :
    Calls Tryd.prog 20 #[.int .u64 n] w fun e w' => e = .returned (.int .i64 (vsz n)) ∧ w = w' := by
  rcases vsz_cases n with ⟨h, e⟩ | ⟨h, h', e⟩ | ⟨h, h', e⟩ | ⟨h, h', e⟩ | ⟨h, e⟩
  all_goals
    rw [e]
    clear e
    go_enter Tryd.func20, Tryd.ntmps20
    go_wp2
    go_ret
    exact ⟨rfl, rfl⟩

end Go.Proofs.YtjijmbpgfabgcaaDoor
namespace Go.Proofs.YtjijmbpgfabgcaaDoor
open Go.RowKit
set_option linter.unusedVariables false
set_option linter.unusedSimpArgs false


/-- The form of a number in so many bytes (1, 2, 4 or 8). -/
def vform (n : Int) (s : Nat) : List Int :=
  if s = 1 then [n] else if s = 2 then [n / 256 + 64, n % 256] else if s = 4 then [n / 16777216 + 128, n / 65536 % 256, n / 256 % 256, n % 256] else [n / 72057594037927936 + 192, n / 281474976710656 % 256, n / 1099511627776 % 256, n / 4294967296 % 256, n / 16777216 % 256, n / 65536 % 256, n / 256 % 256, n % 256]
theorem vform1 (n : Int) : vform n 1 = [n] := rfl
theorem vform2 (n : Int) : vform n 2 = [n / 256 + 64, n % 256] := rfl
theorem vform4 (n : Int) : vform n 4 = [n / 16777216 + 128, n / 65536 % 256, n / 256 % 256, n % 256] := rfl
theorem vform8 (n : Int) : vform n 8 = [n / 72057594037927936 + 192, n / 281474976710656 % 256, n / 1099511627776 % 256, n / 4294967296 % 256, n / 16777216 % 256, n / 65536 % 256, n / 256 % 256, n % 256] := rfl
theorem vform_len (n : Int) (s : Nat) (hs : s = 1 ∨ s = 2 ∨ s = 4 ∨ s = 8) : (vform n s).length = s := by
  rcases hs with rfl | rfl | rfl | rfl <;> rfl
theorem vsz_in (n : Int) (h : vsz n ≠ 0) : vsz n = 1 ∨ vsz n = 2 ∨ vsz n = 4 ∨ vsz n = 8 := by
  rcases vsz_cases n with ⟨_, e⟩ | ⟨_, _, e⟩ | ⟨_, _, e⟩ | ⟨_, _, e⟩ | ⟨_, e⟩ <;> omega
theorem vsz_fits (n : Int) (s : Nat) (hs : s = 1 ∨ s = 2 ∨ s = 4 ∨ s = 8) (h : vsz n ≠ 0) (h' : vsz n ≤ s) : (s = 1 ∧ n < 64) ∨ (s = 2 ∧ n < 16384) ∨ (s = 4 ∧ n < 1073741824) ∨ (s = 8 ∧ n < 4611686018427387904) := by
  rcases vsz_cases n with ⟨_, e⟩ | ⟨_, _, e⟩ | ⟨_, _, e⟩ | ⟨_, _, e⟩ | ⟨_, e⟩ <;> omega
theorem vform_ok (n : Int) (s : Nat) (h0 : 0 ≤ n) (hs : s = 1 ∨ s = 2 ∨ s = 4 ∨ s = 8) (h : vsz n ≠ 0) (h' : vsz n ≤ s) : BytesOk (vform n s) := by
  rcases vsz_fits n s hs h h' with ⟨rfl, hn⟩ | ⟨rfl, hn⟩ | ⟨rfl, hn⟩ | ⟨rfl, hn⟩
  · rw [vform1]; intro x hx; simp at hx; omega
  · rw [vform2]; intro x hx; simp only [List.mem_cons, List.not_mem_nil, or_false] at hx; omega
  · rw [vform4]; intro x hx; simp only [List.mem_cons, List.not_mem_nil, or_false] at hx; omega
  · rw [vform8]; intro x hx; simp only [List.mem_cons, List.not_mem_nil, or_false] at hx; omega
theorem or_markI (a : Int) (m : Nat) (M : Int) (hM : M = ((64 * m : Nat) : Int)) (ha : 0 ≤ a) (ha' : a < 64) (hm : m < 4) : bits .or .u8 a M = a + M := by
  subst hM
  obtain ⟨A, rfl⟩ := Int.eq_ofNat_of_zero_le ha
  rw [u8_or_nat A (64 * m) (by omega) (by omega)]
  have h := Nat.two_pow_add_eq_or_of_lt (i := 6) (b := A) (by omega) m
  rw [Nat.or_comm, show 64 * m = 2 ^ 6 * m by omega, ← h]
  omega

set_option maxRecDepth 100000 in
theorem wide_arg (n s : Int) (w : World) (h1 : s ≠ 1) (h2 : s ≠ 2) (h4 : s ≠ 4) (h8 : s ≠ 8) :
    Calls Tryd.prog 47 #[.int .u64 n, .int .i64 s] w fun e w' => e = .returned (.tuple #[.slice none 0 0, .int .i64 1]) ∧ w = w' := by
  have q1 : (s == 1) = false := by simpa using h1
  have q2 : (s == 2) = false := by simpa using h2
  have q4 : (s == 4) = false := by simpa using h4
  have q8 : (s == 8) = false := by simpa using h8
  clear h1 h2 h4 h8
  go_enter Tryd.func47, Tryd.ntmps47
  go_wp2_with fail
  refine wp_loop_rounds 5 ?_
  rw [rounds_succ]
  go_wp2
  rw [rounds_succ]
  go_wp2
  rw [rounds_succ]
  go_wp2
  rw [rounds_succ]
  go_wp2
  rw [rounds_succ]
  go_wp2_with fail
  go_ret2
  exact ⟨rfl, rfl⟩

set_option maxRecDepth 100000 in
theorem wide_long (n : Int) (s : Nat) (w : World) (h0 : 0 ≤ n) (hn : n ≤ 18446744073709551615) (hs : s = 1 ∨ s = 2 ∨ s = 4 ∨ s = 8) (hl : vsz n = 0 ∨ s < vsz n) :
    Calls Tryd.prog 47 #[.int .u64 n, .int .i64 s] w fun e w' => e = .returned (.tuple #[.slice none 0 0, .int .i64 3]) ∧ w = w' := by
  rcases hl with hl | hl
  · have hz : ((vsz n : Int) == 0) = true := by simp; omega
    rcases hs with rfl | rfl | rfl | rfl
    all_goals
      clear hl
      go_enter Tryd.func47, Tryd.ntmps47
      go_wp2_with fail
      refine wp_loop_rounds 5 ?_
      rw [rounds_succ]
      go_wp2
      rw [rounds_succ]
      go_wp2
      rw [rounds_succ]
      go_wp2
      rw [rounds_succ]
      go_wp2
      rw [rounds_succ]
      go_wp2_with fail
      refine (size_any n _ h0 hn).mono ?_
      rintro e w' ⟨rfl, rfl⟩
      go_wp2_with fail
      go_ret2
      exact ⟨rfl, rfl⟩
  · have hz : ((vsz n : Int) == 0) = false := by simp; omega
    rcases hs with rfl | rfl | rfl | rfl
    · have hz2 : decide ((1 : Int) < (vsz n : Int)) = true := by simp; omega
      have hz3 : (1 : Int) < (vsz n : Int) := by omega
      clear hl
      go_enter Tryd.func47, Tryd.ntmps47
      go_wp2_with fail
      refine wp_loop_rounds 5 ?_
      rw [rounds_succ]
      go_wp2
      rw [rounds_succ]
      go_wp2
      rw [rounds_succ]
      go_wp2
      rw [rounds_succ]
      go_wp2
      rw [rounds_succ]
      go_wp2_with fail
      refine (size_any n _ h0 hn).mono ?_
      rintro e w' ⟨rfl, rfl⟩
      go_wp2_with fail
      refine (size_any n _ h0 hn).mono ?_
      rintro e w' ⟨rfl, rfl⟩
      go_wp2_with fail
      go_ret2
      exact ⟨rfl, rfl⟩
    · have hz2 : decide ((2 : Int) < (vsz n : Int)) = true := by simp; omega
      have hz3 : (2 : Int) < (vsz n : Int) := by omega
      clear hl
      go_enter Tryd.func47, Tryd.ntmps47
      go_wp2_with fail
      refine wp_loop_rounds 5 ?_
      rw [rounds_succ]
      go_wp2
      rw [rounds_succ]
      go_wp2
      rw [rounds_succ]
      go_wp2
      rw [rounds_succ]
      go_wp2
      rw [rounds_succ]
      go_wp2_with fail
      refine (size_any n _ h0 hn).mono ?_
      rintro e w' ⟨rfl, rfl⟩
      go_wp2_with fail
      refine (size_any n _ h0 hn).mono ?_
      rintro e w' ⟨rfl, rfl⟩
      go_wp2_with fail
      go_ret2
      exact ⟨rfl, rfl⟩
    · have hz2 : decide ((4 : Int) < (vsz n : Int)) = true := by simp; omega
      have hz3 : (4 : Int) < (vsz n : Int) := by omega
      clear hl
      go_enter Tryd.func47, Tryd.ntmps47
      go_wp2_with fail
      refine wp_loop_rounds 5 ?_
      rw [rounds_succ]
      go_wp2
      rw [rounds_succ]
      go_wp2
      rw [rounds_succ]
      go_wp2
      rw [rounds_succ]
      go_wp2
      rw [rounds_succ]
      go_wp2_with fail
      refine (size_any n _ h0 hn).mono ?_
      rintro e w' ⟨rfl, rfl⟩
      go_wp2_with fail
      refine (size_any n _ h0 hn).mono ?_
      rintro e w' ⟨rfl, rfl⟩
      go_wp2_with fail
      go_ret2
      exact ⟨rfl, rfl⟩
    · have hz2 : decide ((8 : Int) < (vsz n : Int)) = true := by simp; omega
      have hz3 : (8 : Int) < (vsz n : Int) := by omega
      clear hl
      go_enter Tryd.func47, Tryd.ntmps47
      go_wp2_with fail
      refine wp_loop_rounds 5 ?_
      rw [rounds_succ]
      go_wp2
      rw [rounds_succ]
      go_wp2
      rw [rounds_succ]
      go_wp2
      rw [rounds_succ]
      go_wp2
      rw [rounds_succ]
      go_wp2_with fail
      refine (size_any n _ h0 hn).mono ?_
      rintro e w' ⟨rfl, rfl⟩
      go_wp2_with fail
      refine (size_any n _ h0 hn).mono ?_
      rintro e w' ⟨rfl, rfl⟩
      go_wp2_with fail
      go_ret2
      exact ⟨rfl, rfl⟩

set_option maxHeartbeats 2000000 in
set_option maxRecDepth 100000 in
theorem wide_1 (n : Int) (w : World) (h0 : 0 ≤ n) (hlim : n < 64) (hv0 : vsz n ≠ 0) (hv : vsz n ≤ 1) :
    Calls Tryd.prog 47 #[.int .u64 n, .int .i64 1] w fun e w' => e = .returned (.tuple #[.slice (some ⟨w.heap.size, 0, none⟩) 1 1, .int .i64 0]) ∧ w.alloc (.cells ((vform n 1).map (Value.int .u8)).toArray 5) = w' := by
  have hn : n ≤ 18446744073709551615 := by omega
  have hz : ((vsz n : Int) == 0) = false := by simp; omega
  have hz2 : decide ((1 : Int) < (vsz n : Int)) = false := by simp; omega
  have hz3 : (vsz n : Int) ≤ 1 := by omega
  have hmk : ∀ W : World, (Instr.makeSlice 23 (.int .i64 1) (.int .i64 1)).run Tryd.prog W = .ok (.slice (some ⟨W.heap.size, 0, none⟩) 1 1) (W.alloc (.cells #[.int .u8 0] 5)) := fun _ => by kernel_rfl
  have hor : bits .or .u8 (n) 0 = n + 0 := or_markI _ 0 0 (by decide) (by omega) (by omega) (by decide)
  rw [vform1]
  clear hv hv0
  go_enter Tryd.func47, Tryd.ntmps47
  go_wp2_with fail
  refine wp_loop_rounds 5 ?_
  rw [rounds_succ]
  go_wp2
  rw [rounds_succ]
  go_wp2
  rw [rounds_succ]
  go_wp2
  rw [rounds_succ]
  go_wp2
  rw [rounds_succ]
  go_wp2_with fail
  refine (size_any n _ h0 hn).mono ?_
  rintro e w' ⟨rfl, rfl⟩
  go_wp2_with fail
  refine (size_any n _ h0 hn).mono ?_
  rintro e w' ⟨rfl, rfl⟩
  go_wp2_with fail
  refine wp_loop_rounds 2 ?_
  rw [rounds_succ]
  go_wp2
  rw [rounds_succ]
  go_wp2
  go_ret2
  exact ⟨rfl, by first | rfl | simp⟩

set_option maxHeartbeats 2000000 in
set_option maxRecDepth 100000 in
theorem wide_2 (n : Int) (w : World) (h0 : 0 ≤ n) (hlim : n < 16384) (hv0 : vsz n ≠ 0) (hv : vsz n ≤ 2) :
    Calls Tryd.prog 47 #[.int .u64 n, .int .i64 2] w fun e w' => e = .returned (.tuple #[.slice (some ⟨w.heap.size, 0, none⟩) 2 2, .int .i64 0]) ∧ w.alloc (.cells ((vform n 2).map (Value.int .u8)).toArray 5) = w' := by
  have hn : n ≤ 18446744073709551615 := by omega
  have hz : ((vsz n : Int) == 0) = false := by simp; omega
  have hz2 : decide ((2 : Int) < (vsz n : Int)) = false := by simp; omega
  have hz3 : (vsz n : Int) ≤ 2 := by omega
  have hmk : ∀ W : World, (Instr.makeSlice 23 (.int .i64 2) (.int .i64 2)).run Tryd.prog W = .ok (.slice (some ⟨W.heap.size, 0, none⟩) 2 2) (W.alloc (.cells #[.int .u8 0, .int .u8 0] 5)) := fun _ => by kernel_rfl
  have hor : bits .or .u8 (n / 256) 64 = n / 256 + 64 := or_markI _ 1 64 (by decide) (by omega) (by omega) (by decide)
  rw [vform2]
  clear hv hv0
  go_enter Tryd.func47, Tryd.ntmps47
  go_wp2_with fail
  refine wp_loop_rounds 5 ?_
  rw [rounds_succ]
  go_wp2
  rw [rounds_succ]
  go_wp2
  rw [rounds_succ]
  go_wp2
  rw [rounds_succ]
  go_wp2
  rw [rounds_succ]
  go_wp2_with fail
  refine (size_any n _ h0 hn).mono ?_
  rintro e w' ⟨rfl, rfl⟩
  go_wp2_with fail
  refine (size_any n _ h0 hn).mono ?_
  rintro e w' ⟨rfl, rfl⟩
  go_wp2_with fail
  refine wp_loop_rounds 3 ?_
  rw [rounds_succ]
  go_wp2
  rw [rounds_succ]
  go_wp2
  rw [rounds_succ]
  go_wp2
  go_ret2
  exact ⟨rfl, by first | rfl | simp⟩

set_option maxHeartbeats 2000000 in
set_option maxRecDepth 100000 in
theorem wide_4 (n : Int) (w : World) (h0 : 0 ≤ n) (hlim : n < 1073741824) (hv0 : vsz n ≠ 0) (hv : vsz n ≤ 4) :
    Calls Tryd.prog 47 #[.int .u64 n, .int .i64 4] w fun e w' => e = .returned (.tuple #[.slice (some ⟨w.heap.size, 0, none⟩) 4 4, .int .i64 0]) ∧ w.alloc (.cells ((vform n 4).map (Value.int .u8)).toArray 5) = w' := by
  have hn : n ≤ 18446744073709551615 := by omega
  have hz : ((vsz n : Int) == 0) = false := by simp; omega
  have hz2 : decide ((4 : Int) < (vsz n : Int)) = false := by simp; omega
  have hz3 : (vsz n : Int) ≤ 4 := by omega
  have hmk : ∀ W : World, (Instr.makeSlice 23 (.int .i64 4) (.int .i64 4)).run Tryd.prog W = .ok (.slice (some ⟨W.heap.size, 0, none⟩) 4 4) (W.alloc (.cells #[.int .u8 0, .int .u8 0, .int .u8 0, .int .u8 0] 5)) := fun _ => by kernel_rfl
  have hor : bits .or .u8 (n / 16777216) 128 = n / 16777216 + 128 := or_markI _ 2 128 (by decide) (by omega) (by omega) (by decide)
  rw [vform4]
  clear hv hv0
  go_enter Tryd.func47, Tryd.ntmps47
  go_wp2_with fail
  refine wp_loop_rounds 5 ?_
  rw [rounds_succ]
  go_wp2
  rw [rounds_succ]
  go_wp2
  rw [rounds_succ]
  go_wp2
  rw [rounds_succ]
  go_wp2
  rw [rounds_succ]
  go_wp2_with fail
  refine (size_any n _ h0 hn).mono ?_
  rintro e w' ⟨rfl, rfl⟩
  go_wp2_with fail
  refine (size_any n _ h0 hn).mono ?_
  rintro e w' ⟨rfl, rfl⟩
  go_wp2_with fail
  refine wp_loop_rounds 5 ?_
  rw [rounds_succ]
  go_wp2
  rw [rounds_succ]
  go_wp2
  rw [rounds_succ]
  go_wp2
  rw [rounds_succ]
  go_wp2
  rw [rounds_succ]
  go_wp2
  go_ret2
  exact ⟨rfl, by first | rfl | simp⟩

set_option maxHeartbeats 2000000 in
set_option maxRecDepth 100000 in
theorem wide_8 (n : Int) (w : World) (h0 : 0 ≤ n) (hlim : n < 4611686018427387904) (hv0 : vsz n ≠ 0) (hv : vsz n ≤ 8) :
    Calls Tryd.prog 47 #[.int .u64 n, .int .i64 8] w fun e w' => e = .returned (.tuple #[.slice (some ⟨w.heap.size, 0, none⟩) 8 8, .int .i64 0]) ∧ w.alloc (.cells ((vform n 8).map (Value.int .u8)).toArray 5) = w' := by
  have hn : n ≤ 18446744073709551615 := by omega
  have hz : ((vsz n : Int) == 0) = false := by simp; omega
  have hz2 : decide ((8 : Int) < (vsz n : Int)) = false := by simp; omega
  have hz3 : (vsz n : Int) ≤ 8 := by omega
  have hmk : ∀ W : World, (Instr.makeSlice 23 (.int .i64 8) (.int .i64 8)).run Tryd.prog W = .ok (.slice (some ⟨W.heap.size, 0, none⟩) 8 8) (W.alloc (.cells #[.int .u8 0, .int .u8 0, .int .u8 0, .int .u8 0, .int .u8 0, .int .u8 0, .int .u8 0, .int .u8 0] 5)) := fun _ => by kernel_rfl
  have hor : bits .or .u8 (n / 72057594037927936) 192 = n / 72057594037927936 + 192 := or_markI _ 3 192 (by decide) (by omega) (by omega) (by decide)
  rw [vform8]
  clear hv hv0
  go_enter Tryd.func47, Tryd.ntmps47
  go_wp2_with fail
  refine wp_loop_rounds 5 ?_
  rw [rounds_succ]
  go_wp2
  rw [rounds_succ]
  go_wp2
  rw [rounds_succ]
  go_wp2
  rw [rounds_succ]
  go_wp2
  rw [rounds_succ]
  go_wp2_with fail
  refine (size_any n _ h0 hn).mono ?_
  rintro e w' ⟨rfl, rfl⟩
  go_wp2_with fail
  refine (size_any n _ h0 hn).mono ?_
  rintro e w' ⟨rfl, rfl⟩
  go_wp2_with fail
  refine wp_loop_rounds 9 ?_
  rw [rounds_succ]
  go_wp2
  rw [rounds_succ]
  go_wp2
  rw [rounds_succ]
  go_wp2
  rw [rounds_succ]
  go_wp2
  rw [rounds_succ]
  go_wp2
  rw [rounds_succ]
  go_wp2
  rw [rounds_succ]
  go_wp2
  rw [rounds_succ]
  go_wp2
  rw [rounds_succ]
  go_wp2
  go_ret2
  exact ⟨rfl, by first | rfl | simp⟩

end Go.Proofs.YtjijmbpgfabgcaaDoor
namespace Go.Proofs.YtjijmbpgfabgcaaDoor
open Go.RowKit
set_option linter.unusedVariables false
set_option linter.unusedSimpArgs false

theorem cut_slice {w : World} {g off n c : Nat} {l : List Int} (h : RdT w (.slice (some ⟨g, off, none⟩) n c) l) (lo hi : Nat) (h1 : lo ≤ hi) (h2 : hi ≤ l.length) :
    ∃ A' c', RdT w (.slice A' (hi - lo) c') ((l.drop lo).take (hi - lo)) ∧ ∀ W, (Instr.slice 23 (.slice (some ⟨g, off, none⟩) n c) (some (.int .i64 (lo : Int))) (some (.int .i64 (hi : Int))) none).run Tryd.prog W = .ok (.slice A' (hi - lo) c') W := by
  rcases h.shape with ⟨_, e, _⟩ | ⟨b, o, cap, cs, e, k1, k2, k3, k4⟩
  · simp at e
  simp only [Value.slice.injEq, Option.some.injEq, Addr.mk.injEq, and_true] at e
  obtain ⟨⟨rfl, rfl⟩, rfl, rfl⟩ := e
  have ht : Tryd.prog.underlying 23 = some (.slice (Tryd.prog.elem 23)) := by simp [Program.elem, Tryd.underlying23]
  have he : Tryd.prog.elem 23 = 5 := by simp [Program.elem, Tryd.underlying23]
  have hrun : ∀ W, (Instr.slice 23 (.slice (some ⟨g, off, none⟩) l.length c) (some (.int .i64 (lo : Int))) (some (.int .i64 (hi : Int))) none).run Tryd.prog W = .ok (sliced (some ⟨g, off, none⟩) lo hi c 1) W := fun W => by
    rw [run_slice_lh W 23 _ _ _ ht .i64 .i64 _ _ (by omega) (by omega) (by omega), he, Tryd.sizeOf5]
    simp [Result.andThen]
  rcases Nat.lt_or_ge lo c with hc | hc
  · refine ⟨some ⟨g, off + lo, none⟩, c - lo, ?_, fun W => ?_⟩
    · have := (h.suf (m := lo) (by omega)).pre (m := hi - lo) (by rw [List.length_drop]; omega)
      exact this
    · rw [hrun]
      have : ¬ c = lo := by omega
      simp [sliced, Addr.add, this]
      all_goals omega
  · obtain rfl : lo = hi := by omega
    refine ⟨some ⟨g, off, none⟩, 0, ?_, fun W => ?_⟩
    · rw [Nat.sub_self, List.take_zero]; exact h.emp
    · rw [hrun]
      have : c = lo := by omega
      simp [sliced, Addr.add, this]
theorem cut_from {w : World} {g off n c : Nat} {l : List Int} (h : RdT w (.slice (some ⟨g, off, none⟩) n c) l) (lo : Nat) (h1 : lo ≤ l.length) :
    ∃ A' c', RdT w (.slice A' (n - lo) c') (l.drop lo) ∧ ∀ W, (Instr.slice 23 (.slice (some ⟨g, off, none⟩) n c) (some (.int .i64 (lo : Int))) none none).run Tryd.prog W = .ok (.slice A' (n - lo) c') W := by
  rcases h.shape with ⟨_, e, _⟩ | ⟨b, o, cap, cs, e, k1, k2, k3, k4⟩
  · simp at e
  simp only [Value.slice.injEq, Option.some.injEq, Addr.mk.injEq, and_true] at e
  obtain ⟨⟨rfl, rfl⟩, rfl, rfl⟩ := e
  have ht : Tryd.prog.underlying 23 = some (.slice (Tryd.prog.elem 23)) := by simp [Program.elem, Tryd.underlying23]
  have he : Tryd.prog.elem 23 = 5 := by simp [Program.elem, Tryd.underlying23]
  have hrun : ∀ W, (Instr.slice 23 (.slice (some ⟨g, off, none⟩) l.length c) (some (.int .i64 (lo : Int))) none none).run Tryd.prog W = .ok (sliced (some ⟨g, off, none⟩) lo l.length c 1) W := fun W => by
    rw [run_slice_l W 23 _ _ _ ht .i64 _ (by omega) (by omega), he, Tryd.sizeOf5]
    simp [Result.andThen]
  rcases Nat.lt_or_ge lo c with hc | hc
  · refine ⟨some ⟨g, off + lo, none⟩, c - lo, h.suf (m := lo) h1, fun W => ?_⟩
    rw [hrun]
    have : ¬ c = lo := by omega
    simp [sliced, Addr.add, this]
    all_goals omega
  · obtain rfl : lo = l.length := by omega
    refine ⟨some ⟨g, off, none⟩, 0, ?_, fun W => ?_⟩
    · rw [Nat.sub_self, List.drop_length]; exact h.emp
    · rw [hrun]
      have : c = l.length := by omega
      simp [sliced, Addr.add, this]

end Go.Proofs.YtjijmbpgfabgcaaDoor
