/-
  Package vint whole: what its functions answer, in plain numbers and lists.
  The reference's Wide and Num; both Wides and both Nums whole.
  Numbers one behind the other; a text's bytes; of the program and of the reference.
  The text in front: what TakeText does, of package vint and of the reference; Text.
  TakeText, its bytes with their blocks' kinds. No condition.
-/
import Derived.Test.YtjijmbpgfabgcaaDoorZVtake
import Derived.Test.YtjijmbpgfabgcaaDoorZA
namespace Go.Proofs.YtjijmbpgfabgcaaDoor
open Go.RowKit
set_option linter.unusedVariables false
set_option linter.unusedSimpArgs false


/-- The number in front, and what stands behind. -/
def vtake : List Int → Option (Int × List Int)
  | [] => none
  | x :: r => if (x :: r).length < vw x then none else some (vval (x :: r) (vw x), (x :: r).drop (vw x))

theorem vtake_nil : vtake [] = none := rfl
theorem vtake_cons (x : Int) (r : List Int) : vtake (x :: r) = if r.length + 1 < vw x then none else some (vval (x :: r) (vw x), (x :: r).drop (vw x)) := rfl

theorem fold_bound (r : List Int) (hr : BytesOk r) (a : Int) (h0 : 0 ≤ a) (B : Int) (h1 : a < B) : 0 ≤ r.foldl (fun a b => a * 256 + b) a ∧ r.foldl (fun a b => a * 256 + b) a < B * 256 ^ r.length := by
  induction r generalizing a B with
  | nil => simpa using ⟨h0, h1⟩
  | cons x r ih =>
    have hx := hr x (by simp)
    have := ih (fun y hy => hr y (by simp [hy])) (a * 256 + x) (by omega) (B * 256) (by omega)
    simp only [List.foldl_cons, List.length_cons]
    rw [Int.pow_succ, Int.mul_comm (256 ^ r.length) 256, ← Int.mul_assoc]
    exact this

theorem vtake_some {l : List Int} (hk : BytesOk l) {n : Int} {rest : List Int} (h : vtake l = some (n, rest)) :
    0 ≤ n ∧ n < 4611686018427387904 ∧ ∃ x r, l = x :: r ∧ vw x ≤ l.length ∧ rest = l.drop (vw x) ∧ n = vval l (vw x) := by
  cases l with
  | nil => simp [vtake] at h
  | cons x r =>
    rw [vtake_cons] at h
    by_cases hc : r.length + 1 < vw x
    · rw [if_pos hc] at h; cases h
    · rw [if_neg hc] at h
      simp only [Option.some.injEq, Prod.mk.injEq] at h
      have hb := hk x (by simp)
      have hlen : (((x :: r).take (vw x)).drop 1).length = vw x - 1 := by simp; omega
      have hf := fold_bound (((x :: r).take (vw x)).drop 1) ((hk.take _).drop _) (x % 64) (by omega) 64 (by omega)
      rw [hlen] at hf
      have hv : vval (x :: r) (vw x) = (((x :: r).take (vw x)).drop 1).foldl (fun a b => a * 256 + b) (x % 64) := rfl
      rw [← hv, h.1] at hf
      refine ⟨hf.1, ?_, x, r, rfl, by simp; omega, h.2.symm, h.1.symm⟩
      rcases vw_cases x hb.1 hb.2 with ⟨_, e⟩ | ⟨_, e⟩ | ⟨_, e⟩ | ⟨_, e⟩ <;> rw [e] at hf <;> simp at hf <;> omega

theorem vtake_form (n : Int) (s : Nat) (rest : List Int) (h0 : 0 ≤ n) (hs : s = 1 ∨ s = 2 ∨ s = 4 ∨ s = 8) (h : vsz n ≠ 0) (h' : vsz n ≤ s) : vtake (vform n s ++ rest) = some (n, rest) := by
  have key : ∀ x r, vform n s = x :: r → vw x = s → vval (x :: r ++ rest) s = n → vtake (vform n s ++ rest) = some (n, rest) := fun x r e hw hv => by
    have hl : r.length + 1 = s := by have := vform_len n s hs; rw [e] at this; simpa using this
    rw [e, List.cons_append, vtake_cons, hw, if_neg (by simp; omega)]
    rw [List.cons_append] at hv
    rw [hv]
    have : (x :: (r ++ rest)).drop s = rest := by
      have h2 : x :: (r ++ rest) = (x :: r) ++ rest := rfl
      rw [h2, List.drop_left' (by simpa using hl)]
    rw [this]
  rcases vsz_fits n s hs h h' with ⟨rfl, hn⟩ | ⟨rfl, hn⟩ | ⟨rfl, hn⟩ | ⟨rfl, hn⟩
  · refine key _ _ (vform1 n) ?_ ?_
    · rcases vw_cases n h0 (by omega) with ⟨_, e⟩ | ⟨_, e⟩ | ⟨_, e⟩ | ⟨_, e⟩ <;> omega
    · simp [vval]; omega
  · refine key _ _ (vform2 n) ?_ ?_
    · rcases vw_cases (n / 256 + 64) (by omega) (by omega) with ⟨_, e⟩ | ⟨_, e⟩ | ⟨_, e⟩ | ⟨_, e⟩ <;> omega
    · simp [vval]; omega
  · refine key _ _ (vform4 n) ?_ ?_
    · rcases vw_cases (n / 16777216 + 128) (by omega) (by omega) with ⟨_, e⟩ | ⟨_, e⟩ | ⟨_, e⟩ | ⟨_, e⟩ <;> omega
    · simp [vval]; omega
  · refine key _ _ (vform8 n) ?_ ?_
    · rcases vw_cases (n / 72057594037927936 + 192) (by omega) (by omega) with ⟨_, e⟩ | ⟨_, e⟩ | ⟨_, e⟩ | ⟨_, e⟩ <;> omega
    · simp [vval]; omega

theorem uncons {l : List Int} {k : Nat} (h : k + 1 ≤ l.length) : ∃ x r, l = x :: r ∧ k ≤ r.length := by
  cases l with
  | nil => simp at h
  | cons x r => exact ⟨x, r, rfl, by simpa using h⟩

theorem wide_any (n : Int) (s : Nat) (w : World) (h0 : 0 ≤ n) (hs : s = 1 ∨ s = 2 ∨ s = 4 ∨ s = 8) (h : vsz n ≠ 0) (h' : vsz n ≤ s) :
    Calls Tryd.prog 47 #[.int .u64 n, .int .i64 s] w fun e w' => ∃ v, e = .returned (.tuple #[v, .int .i64 0]) ∧ w'.ownsRow w.heap.size 5 1 v (vform n s).length ((vform n s).map (Value.int .u8)) ∧ Below w.heap.size w w' := by
  have key : ∀ k : Nat, (vform n k).length = k → k ≤ 8 → (w.alloc (.cells ((vform n k).map (Value.int .u8)).toArray 5)).ownsRow w.heap.size 5 1 (.slice (some ⟨w.heap.size, 0, none⟩) k k) (vform n k).length ((vform n k).map (Value.int .u8)) := fun k hk hk8 => by
    have := World.ownsRow_lit (size := 1) (e := 5) w ((vform n k).map (Value.int .u8)).toArray k (Nat.le_refl _) (by unfold maxLen; omega) (by simp [hk])
    rw [hk]
    simpa using this
  have hB : ∀ o, Below w.heap.size w (w.alloc o) := fun o => (Below.refl _ _).alloc (Nat.le_refl _) o
  rcases vsz_fits n s hs h h' with ⟨rfl, hn⟩ | ⟨rfl, hn⟩ | ⟨rfl, hn⟩ | ⟨rfl, hn⟩
  · exact (wide_1 n w h0 hn h h').mono fun e w' ⟨he, hw⟩ => ⟨_, he, by rw [← hw]; exact key 1 rfl (by omega), by rw [← hw]; exact hB _⟩
  · exact (wide_2 n w h0 hn h h').mono fun e w' ⟨he, hw⟩ => ⟨_, he, by rw [← hw]; exact key 2 rfl (by omega), by rw [← hw]; exact hB _⟩
  · exact (wide_4 n w h0 hn h h').mono fun e w' ⟨he, hw⟩ => ⟨_, he, by rw [← hw]; exact key 4 rfl (by omega), by rw [← hw]; exact hB _⟩
  · exact (wide_8 n w h0 hn h h').mono fun e w' ⟨he, hw⟩ => ⟨_, he, by rw [← hw]; exact key 8 rfl (by omega), by rw [← hw]; exact hB _⟩

theorem num_none (n : Int) (w : World) (h0 : 0 ≤ n) (hn : n ≤ 18446744073709551615) (h : vsz n = 0) :
    Calls Tryd.prog 28 #[.int .u64 n] w fun e w' => e = .returned (.tuple #[.slice none 0 0, .int .i64 3]) ∧ w = w' := by
  have hz : ((vsz n : Int) == 0) = true := by simp; omega
  go_enter Tryd.func28, Tryd.ntmps28
  go_wp2_with fail
  refine (size_any n _ h0 hn).mono ?_
  rintro e w' ⟨rfl, rfl⟩
  go_wp2_with fail
  go_ret2
  exact ⟨rfl, rfl⟩
theorem num_any (n : Int) (w : World) (h0 : 0 ≤ n) (hn : n ≤ 18446744073709551615) (h : vsz n ≠ 0) :
    Calls Tryd.prog 28 #[.int .u64 n] w fun e w' => ∃ v, e = .returned (.tuple #[v, .int .i64 0]) ∧ w'.ownsRow w.heap.size 5 1 v (vform n (vsz n)).length ((vform n (vsz n)).map (Value.int .u8)) ∧ Below w.heap.size w w' := by
  have hz : ((vsz n : Int) == 0) = false := by simp; omega
  go_enter Tryd.func28, Tryd.ntmps28
  go_wp2_with fail
  refine (size_any n _ h0 hn).mono ?_
  rintro e w' ⟨rfl, rfl⟩
  go_wp2_with fail
  refine (wide_any n (vsz n) _ h0 (vsz_in n h) h (Nat.le_refl _)).mono ?_
  rintro e w1 ⟨v, rfl, ho, hb⟩
  go_wp2_with fail
  go_ret2
  exact ⟨_, rfl, ho, hb⟩

theorem take_none (v : Value) (l : List Int) (w : World) (h : Rd w .u8 v l) (hk : BytesOk l) (ht : vtake l = none) :
    Calls Tryd.prog 34 #[v] w fun e w' => e = .returned (.tuple #[.int .u64 0, .slice none 0 0, .int .i64 2]) ∧ Below w.heap.size w w' := by
  cases l with
  | nil => exact (take_nil v w h).mono fun e w' ⟨he, hw⟩ => ⟨he, by rw [← hw]; exact Below.refl _ _⟩
  | cons x r =>
    rw [vtake_cons] at ht
    have hc : r.length + 1 < vw x := by
      by_cases hc : r.length + 1 < vw x
      · exact hc
      · rw [if_neg hc] at ht; cases ht
    have hb := hk x (by simp)
    rcases vw_cases x hb.1 hb.2 with ⟨hd, e⟩ | ⟨hd, e⟩ | ⟨hd, e⟩ | ⟨hd, e⟩ <;> rw [e] at hc
    · omega
    · exact take_short2 v x r w h hb.1 hb.2 hd hc
    · exact take_short4 v x r w h hb.1 hb.2 hd hc
    · exact take_short8 v x r w h hb.1 hb.2 hd hc
theorem take_some (v : Value) (l : List Int) (n : Int) (rest : List Int) (w : World) (h : Rd w .u8 v l) (hk : BytesOk l) (hl : l.length ≤ 1099511627776) (ht : vtake l = some (n, rest)) :
    Calls Tryd.prog 34 #[v] w fun e w' => ∃ v', e = .returned (.tuple #[.int .u64 n, v', .int .i64 0]) ∧ w'.ownsRow w.heap.size 5 1 v' rest.length (rest.map (Value.int .u8)) ∧ Below w.heap.size w w' := by
  obtain ⟨_, _, x0, r, rfl, hw, rfl, rfl⟩ := vtake_some hk ht
  have hb := hk x0 (by simp)
  rcases vw_cases x0 hb.1 hb.2 with ⟨hd, e⟩ | ⟨hd, e⟩ | ⟨hd, e⟩ | ⟨hd, e⟩ <;> rw [e] at hw ⊢ <;> simp only [List.length_cons] at hw hl
  · exact (take_yes1 v x0 r w h hk hd (by simp at hl; omega)).mono fun e w' he => by simpa [vval] using he
  · obtain ⟨x1, r, rfl, hw1⟩ := uncons (k := 0) (l := r) (by omega)
    exact (take_yes2 v x0 x1 r w h hk hd (by simp at hl; omega)).mono fun e w' he => by simpa [vval] using he
  · obtain ⟨x1, r, rfl, hw1⟩ := uncons (k := 2) (l := r) (by omega)
    obtain ⟨x2, r, rfl, hw2⟩ := uncons (k := 1) (l := r) (by omega)
    obtain ⟨x3, r, rfl, hw3⟩ := uncons (k := 0) (l := r) (by omega)
    exact (take_yes4 v x0 x1 x2 x3 r w h hk hd (by simp at hl; omega)).mono fun e w' he => by simpa [vval] using he
  · obtain ⟨x1, r, rfl, hw1⟩ := uncons (k := 6) (l := r) (by omega)
    obtain ⟨x2, r, rfl, hw2⟩ := uncons (k := 5) (l := r) (by omega)
    obtain ⟨x3, r, rfl, hw3⟩ := uncons (k := 4) (l := r) (by omega)
    obtain ⟨x4, r, rfl, hw4⟩ := uncons (k := 3) (l := r) (by omega)
    obtain ⟨x5, r, rfl, hw5⟩ := uncons (k := 2) (l := r) (by omega)
    obtain ⟨x6, r, rfl, hw6⟩ := uncons (k := 1) (l := r) (by omega)
    obtain ⟨x7, r, rfl, hw7⟩ := uncons (k := 0) (l := r) (by omega)
    exact (take_yes8 v x0 x1 x2 x3 x4 x5 x6 x7 r w h hk hd (by simp at hl; omega)).mono fun e w' he => by simpa [vval] using he

theorem rtake_none (v : Value) (l : List Int) (w : World) (h : Rd w .u8 v l) (hk : BytesOk l) (ht : vtake l = none) :
    Calls Tryd.prog 37 #[v] w fun e w' => e = .returned (.tuple #[.int .u64 0, .slice none 0 0, .int .i64 2]) ∧ Below w.heap.size w w' := by
  cases l with
  | nil => exact (rtake_nil v w h).mono fun e w' ⟨he, hw⟩ => ⟨he, by rw [← hw]; exact Below.refl _ _⟩
  | cons x r =>
    rw [vtake_cons] at ht
    have hc : r.length + 1 < vw x := by
      by_cases hc : r.length + 1 < vw x
      · exact hc
      · rw [if_neg hc] at ht; cases ht
    have hb := hk x (by simp)
    rcases vw_cases x hb.1 hb.2 with ⟨hd, e⟩ | ⟨hd, e⟩ | ⟨hd, e⟩ | ⟨hd, e⟩ <;> rw [e] at hc
    · omega
    · exact rtake_short2 v x r w h hb.1 hb.2 hd hc
    · exact rtake_short4 v x r w h hb.1 hb.2 hd hc
    · exact rtake_short8 v x r w h hb.1 hb.2 hd hc
theorem rtake_some (v : Value) (l : List Int) (n : Int) (rest : List Int) (w : World) (h : Rd w .u8 v l) (hk : BytesOk l) (hl : l.length ≤ 1099511627776) (ht : vtake l = some (n, rest)) :
    Calls Tryd.prog 37 #[v] w fun e w' => ∃ v', e = .returned (.tuple #[.int .u64 n, v', .int .i64 0]) ∧ w'.ownsRow w.heap.size 5 1 v' rest.length (rest.map (Value.int .u8)) ∧ Below w.heap.size w w' := by
  obtain ⟨_, _, x0, r, rfl, hw, rfl, rfl⟩ := vtake_some hk ht
  have hb := hk x0 (by simp)
  rcases vw_cases x0 hb.1 hb.2 with ⟨hd, e⟩ | ⟨hd, e⟩ | ⟨hd, e⟩ | ⟨hd, e⟩ <;> rw [e] at hw ⊢ <;> simp only [List.length_cons] at hw hl
  · exact (rtake_yes1 v x0 r w h hk hd (by simp at hl; omega)).mono fun e w' he => by simpa [vval] using he
  · obtain ⟨x1, r, rfl, hw1⟩ := uncons (k := 0) (l := r) (by omega)
    exact (rtake_yes2 v x0 x1 r w h hk hd (by simp at hl; omega)).mono fun e w' he => by simpa [vval] using he
  · obtain ⟨x1, r, rfl, hw1⟩ := uncons (k := 2) (l := r) (by omega)
    obtain ⟨x2, r, rfl, hw2⟩ := uncons (k := 1) (l := r) (by omega)
    obtain ⟨x3, r, rfl, hw3⟩ := uncons (k := 0) (l := r) (by omega)
    exact (rtake_yes4 v x0 x1 x2 x3 r w h hk hd (by simp at hl; omega)).mono fun e w' he => by simpa [vval] using he
  · obtain ⟨x1, r, rfl, hw1⟩ := uncons (k := 6) (l := r) (by omega)
    obtain ⟨x2, r, rfl, hw2⟩ := uncons (k := 5) (l := r) (by omega)
    obtain ⟨x3, r, rfl, hw3⟩ := uncons (k := 4) (l := r) (by omega)
    obtain ⟨x4, r, rfl, hw4⟩ := uncons (k := 3) (l := r) (by omega)
    obtain ⟨x5, r, rfl, hw5⟩ := uncons (k := 2) (l := r) (by omega)
    obtain ⟨x6, r, rfl, hw6⟩ := uncons (k := 1) (l := r) (by omega)
    obtain ⟨x7, r, rfl, hw7⟩ := uncons (k := 0) (l := r) (by omega)
    exact (rtake_yes8 v x0 x1 x2 x3 x4 x5 x6 x7 r w h hk hd (by simp at hl; omega)).mono fun e w' he => by simpa [vval] using he

end Go.Proofs.YtjijmbpgfabgcaaDoor
namespace Go.Proofs.YtjijmbpgfabgcaaDoor
open Go.RowKit
set_option linter.unusedVariables false
set_option linter.unusedSimpArgs false


/-- The last j bytes of a number. -/
def lowb (n : Int) : Nat → List Int
  | 0 => []
  | j + 1 => (n / 256 ^ j % 256) :: lowb n j
theorem lowb_len (n : Int) (j : Nat) : (lowb n j).length = j := by induction j with
  | zero => rfl
  | succ j ih => simp [lowb, ih]

set_option maxRecDepth 100000 in
theorem rwide_arg (n s : Int) (w : World) (h1 : s ≠ 1) (h2 : s ≠ 2) (h4 : s ≠ 4) (h8 : s ≠ 8) :
    Calls Tryd.prog 19 #[.int .u64 n, .int .i64 s] w fun e w' => e = .returned (.tuple #[.slice none 0 0, .int .i64 1]) ∧ w = w' := by
  have q1 : (s == 1) = false := by simpa using h1
  have q2 : (s == 2) = false := by simpa using h2
  have q4 : (s == 4) = false := by simpa using h4
  have q8 : (s == 8) = false := by simpa using h8
  clear h1 h2 h4 h8
  go_enter Tryd.func19, Tryd.ntmps19
  go_wp2
  go_ret2
  exact ⟨rfl, rfl⟩
set_option maxRecDepth 100000 in
theorem rwide_long (n : Int) (s : Nat) (w : World) (h0 : 0 ≤ n) (hn : n ≤ 18446744073709551615) (hs : s = 1 ∨ s = 2 ∨ s = 4 ∨ s = 8) (hl : vsz n = 0 ∨ s < vsz n) :
    Calls Tryd.prog 19 #[.int .u64 n, .int .i64 s] w fun e w' => e = .returned (.tuple #[.slice none 0 0, .int .i64 3]) ∧ w = w' := by
  rcases hl with hl | hl
  · have hz : ((vsz n : Int) == 0) = true := by simp; omega
    rcases hs with rfl | rfl | rfl | rfl
    all_goals
      clear hl
      go_enter Tryd.func19, Tryd.ntmps19
      go_wp2_with (go_at_call 20; refine (rsize_any n _ h0 hn).mono ?_; rintro e w' ⟨rfl, rfl⟩)
      go_ret2
      exact ⟨rfl, rfl⟩
  · have hz : ((vsz n : Int) == 0) = false := by simp; omega
    rcases hs with rfl | rfl | rfl | rfl
    · have hz2 : decide ((1 : Int) < (vsz n : Int)) = true := by simp; omega
      have hz3 : (1 : Int) < (vsz n : Int) := by omega
      clear hl
      go_enter Tryd.func19, Tryd.ntmps19
      go_wp2_with (go_at_call 20; refine (rsize_any n _ h0 hn).mono ?_; rintro e w' ⟨rfl, rfl⟩)
      go_ret2
      exact ⟨rfl, rfl⟩
    · have hz2 : decide ((2 : Int) < (vsz n : Int)) = true := by simp; omega
      have hz3 : (2 : Int) < (vsz n : Int) := by omega
      clear hl
      go_enter Tryd.func19, Tryd.ntmps19
      go_wp2_with (go_at_call 20; refine (rsize_any n _ h0 hn).mono ?_; rintro e w' ⟨rfl, rfl⟩)
      go_ret2
      exact ⟨rfl, rfl⟩
    · have hz2 : decide ((4 : Int) < (vsz n : Int)) = true := by simp; omega
      have hz3 : (4 : Int) < (vsz n : Int) := by omega
      clear hl
      go_enter Tryd.func19, Tryd.ntmps19
      go_wp2_with (go_at_call 20; refine (rsize_any n _ h0 hn).mono ?_; rintro e w' ⟨rfl, rfl⟩)
      go_ret2
      exact ⟨rfl, rfl⟩
    · have hz2 : decide ((8 : Int) < (vsz n : Int)) = true := by simp; omega
      have hz3 : (8 : Int) < (vsz n : Int) := by omega
      clear hl
      go_enter Tryd.func19, Tryd.ntmps19
      go_wp2_with (go_at_call 20; refine (rsize_any n _ h0 hn).mono ?_; rintro e w' ⟨rfl, rfl⟩)
      go_ret2
      exact ⟨rfl, rfl⟩

set_option maxHeartbeats 2000000 in
set_option maxRecDepth 100000 in
theorem rwide_1 (n : Int) (w : World) (h0 : 0 ≤ n) (hlim : n < 64) (hv0 : vsz n ≠ 0) (hv : vsz n ≤ 1) :
    Calls Tryd.prog 19 #[.int .u64 n, .int .i64 1] w fun e w' => ∃ v, e = .returned (.tuple #[v, .int .i64 0]) ∧ w'.ownsRow w.heap.size 5 1 v (vform n 1).length ((vform n 1).map (Value.int .u8)) ∧ Below w.heap.size w w' := by
  obtain ⟨i0, hi, hz0, hz1, hz2⟩ := info_parts infoB
  have hn : n ≤ 18446744073709551615 := by omega
  have hz : ((vsz n : Int) == 0) = false := by simp; omega
  have hy2 : decide ((1 : Int) < (vsz n : Int)) = false := by simp; omega
  have hy3 : (vsz n : Int) ≤ 1 := by omega
  have HF : Hid (vform n 1 = (n / 256 ^ 0 % 256 + 0) :: lowb n 0 ∧ n / 256 ^ 0 % 256 + 0 ≤ 255) := ⟨by simp only [lowb]; first | (simp [vform1]; done) | (simp [vform1]; omega), by omega⟩
  clear hv hv0
  go_enter Tryd.func19, Tryd.ntmps19
  go_wp2_with (go_at_call 20; refine (rsize_any n _ h0 hn).mono ?_; rintro e w' ⟨rfl, rfl⟩)
  go_loopw [0, 7, 27] (fun x v i wr => ∃ j : Nat, j ≤ 1 ∧ i = .int .i64 j ∧ x = .int .u64 (n / 256 ^ j) ∧ wr.ownsRow w.heap.size 5 1 v j ((lowb n j).map (Value.int .u8)) ∧ Below w.heap.size w wr) (fun _ _ i _ => 1 - (intOf i).toNat)
  case atStart => exact ⟨0, by omega, rfl, by simp, World.ownsRow_nil _ _ _ _, Below.refl _ _⟩
  case round =>
    obtain ⟨j, hj, rfl, rfl, ho, hB⟩ := hrel
    have hll := lowb_len n j
    have hrd := rd_of_own (k := .u8) (l := lowb n j) ho
    by_cases hlt : j < 1
    · have hq0 : 0 ≤ n / 256 ^ j := Int.ediv_nonneg h0 (Int.le_of_lt (Int.pow_pos (by decide)))
      have hq1 : n / 256 ^ j ≤ 18446744073709551615 := Int.le_trans (Int.ediv_le_self _ h0) hn
      have hdd : n / 256 ^ (j + 1) = n / 256 ^ j / 256 := by rw [Int.pow_succ, Int.ediv_ediv_of_nonneg (Int.le_of_lt (Int.pow_pos (by decide)))]
      obtain ⟨q, hq⟩ : ∃ q, q = n / 256 ^ j := ⟨_, rfl⟩
      rw [← hq] at hq0 hq1 hdd ⊢
      have hone := World.ownsRow_lit (size := 1) (e := 5) wr #[.int .u8 (q % 256)] 1 hB.size (by decide) rfl
      obtain ⟨A, cap, rfl⟩ := hrd.form
      have hrd' := (hrd.alloc (.cells #[.int .u8 (q % 256)] 5)).rdv
      have HD := Lib.hid hdd
      have HQ := Lib.hid hq
      have HL := Lib.hid hll
      have HR := Lib.hid hrd'
      clear hdd hq hll hrd hrd' ho
      have hBa := hB.alloc hB.size (.cells #[.int .u8 (q % 256)] 5)
      go_wp2_with (at_builtin; refine wpList_append_any _ rfl _ _ 23 rfl w.heap.size 5 i0 _ 1 1 Tryd.underlying23 hi hz0 hz1 hz2 rfl (by decide) (.slice (some ⟨wr.heap.size, 0, none⟩) 1 1) 1 [.int .u8 (q % 256)] rfl hone A (lowb n j).length cap _ rfl HR.out.2.2.2.2 (oneInts _ _) (by have := HL.out; unfold maxLen; omega) (by have := HL.out; omega) hBa.size HR.out.2.1 ?_; intro v1 w1 hown1 hgrow1 hat1)
      go_roundw
      case rel => exact ⟨j + 1, by omega, by go_num, by rw [HD.out], by rw [HL.out] at hown1; simpa [lowb, HQ.out, Nat.add_comm] using hown1, hBa.grown hgrow1 hBa.size (fun k hk => by simp [Value.ownBlock] at hk; have := hB.size; omega)⟩
      case measure => simp [intOf]; omega
    · obtain rfl : j = 1 := by omega
      obtain ⟨g, cap, rfl, hg, hgl⟩ := ho.form (by omega)
      have hc0 := ho.cellAt 0 (by omega)
      have hf0 := ho.frozenAt 0
      simp only [lowb, List.map_cons, List.getElem?_cons_zero] at hc0
      have hm0 : 0 ≤ n / 256 ^ 0 % 256 := by omega
      have hm1 : n / 256 ^ 0 % 256 + 0 ≤ 255 := HF.out.2
      obtain ⟨q, hq⟩ : ∃ q, q = n / 256 ^ 0 % 256 := ⟨_, rfl⟩
      have hst := ho.stored 0 (.int .u8 (q + 0))
      rw [← hq] at hc0 hm0 hm1
      have HQ := Lib.hid hq
      have HS := Lib.hid hst
      clear hq hst hll hrd
      go_wp2
      go_ret2
      refine ⟨_, rfl, ?_, hB.setCell hg _⟩
      rw [HF.out.1, ← HQ.out]
      simpa [lowb, lowb_len] using HS.out.1

set_option maxHeartbeats 2000000 in
set_option maxRecDepth 100000 in
theorem rwide_2 (n : Int) (w : World) (h0 : 0 ≤ n) (hlim : n < 16384) (hv0 : vsz n ≠ 0) (hv : vsz n ≤ 2) :
    Calls Tryd.prog 19 #[.int .u64 n, .int .i64 2] w fun e w' => ∃ v, e = .returned (.tuple #[v, .int .i64 0]) ∧ w'.ownsRow w.heap.size 5 1 v (vform n 2).length ((vform n 2).map (Value.int .u8)) ∧ Below w.heap.size w w' := by
  obtain ⟨i0, hi, hz0, hz1, hz2⟩ := info_parts infoB
  have hn : n ≤ 18446744073709551615 := by omega
  have hz : ((vsz n : Int) == 0) = false := by simp; omega
  have hy2 : decide ((2 : Int) < (vsz n : Int)) = false := by simp; omega
  have hy3 : (vsz n : Int) ≤ 2 := by omega
  have HF : Hid (vform n 2 = (n / 256 ^ 1 % 256 + 64) :: lowb n 1 ∧ n / 256 ^ 1 % 256 + 64 ≤ 255) := ⟨by simp only [lowb]; first | (simp [vform2]; done) | (simp [vform2]; omega), by omega⟩
  clear hv hv0
  go_enter Tryd.func19, Tryd.ntmps19
  go_wp2_with (go_at_call 20; refine (rsize_any n _ h0 hn).mono ?_; rintro e w' ⟨rfl, rfl⟩)
  go_loopw [0, 7, 27] (fun x v i wr => ∃ j : Nat, j ≤ 2 ∧ i = .int .i64 j ∧ x = .int .u64 (n / 256 ^ j) ∧ wr.ownsRow w.heap.size 5 1 v j ((lowb n j).map (Value.int .u8)) ∧ Below w.heap.size w wr) (fun _ _ i _ => 2 - (intOf i).toNat)
  case atStart => exact ⟨0, by omega, rfl, by simp, World.ownsRow_nil _ _ _ _, Below.refl _ _⟩
  case round =>
    obtain ⟨j, hj, rfl, rfl, ho, hB⟩ := hrel
    have hll := lowb_len n j
    have hrd := rd_of_own (k := .u8) (l := lowb n j) ho
    by_cases hlt : j < 2
    · have hq0 : 0 ≤ n / 256 ^ j := Int.ediv_nonneg h0 (Int.le_of_lt (Int.pow_pos (by decide)))
      have hq1 : n / 256 ^ j ≤ 18446744073709551615 := Int.le_trans (Int.ediv_le_self _ h0) hn
      have hdd : n / 256 ^ (j + 1) = n / 256 ^ j / 256 := by rw [Int.pow_succ, Int.ediv_ediv_of_nonneg (Int.le_of_lt (Int.pow_pos (by decide)))]
      obtain ⟨q, hq⟩ : ∃ q, q = n / 256 ^ j := ⟨_, rfl⟩
      rw [← hq] at hq0 hq1 hdd ⊢
      have hone := World.ownsRow_lit (size := 1) (e := 5) wr #[.int .u8 (q % 256)] 1 hB.size (by decide) rfl
      obtain ⟨A, cap, rfl⟩ := hrd.form
      have hrd' := (hrd.alloc (.cells #[.int .u8 (q % 256)] 5)).rdv
      have HD := Lib.hid hdd
      have HQ := Lib.hid hq
      have HL := Lib.hid hll
      have HR := Lib.hid hrd'
      clear hdd hq hll hrd hrd' ho
      have hBa := hB.alloc hB.size (.cells #[.int .u8 (q % 256)] 5)
      go_wp2_with (at_builtin; refine wpList_append_any _ rfl _ _ 23 rfl w.heap.size 5 i0 _ 1 1 Tryd.underlying23 hi hz0 hz1 hz2 rfl (by decide) (.slice (some ⟨wr.heap.size, 0, none⟩) 1 1) 1 [.int .u8 (q % 256)] rfl hone A (lowb n j).length cap _ rfl HR.out.2.2.2.2 (oneInts _ _) (by have := HL.out; unfold maxLen; omega) (by have := HL.out; omega) hBa.size HR.out.2.1 ?_; intro v1 w1 hown1 hgrow1 hat1)
      go_roundw
      case rel => exact ⟨j + 1, by omega, by go_num, by rw [HD.out], by rw [HL.out] at hown1; simpa [lowb, HQ.out, Nat.add_comm] using hown1, hBa.grown hgrow1 hBa.size (fun k hk => by simp [Value.ownBlock] at hk; have := hB.size; omega)⟩
      case measure => simp [intOf]; omega
    · obtain rfl : j = 2 := by omega
      obtain ⟨g, cap, rfl, hg, hgl⟩ := ho.form (by omega)
      have hc0 := ho.cellAt 0 (by omega)
      have hf0 := ho.frozenAt 0
      simp only [lowb, List.map_cons, List.getElem?_cons_zero] at hc0
      have hm0 : 0 ≤ n / 256 ^ 1 % 256 := by omega
      have hm1 : n / 256 ^ 1 % 256 + 64 ≤ 255 := HF.out.2
      obtain ⟨q, hq⟩ : ∃ q, q = n / 256 ^ 1 % 256 := ⟨_, rfl⟩
      have hst := ho.stored 0 (.int .u8 (q + 64))
      rw [← hq] at hc0 hm0 hm1
      have HQ := Lib.hid hq
      have HS := Lib.hid hst
      clear hq hst hll hrd
      go_wp2
      go_ret2
      refine ⟨_, rfl, ?_, hB.setCell hg _⟩
      rw [HF.out.1, ← HQ.out]
      simpa [lowb, lowb_len] using HS.out.1

set_option maxHeartbeats 2000000 in
set_option maxRecDepth 100000 in
theorem rwide_4 (n : Int) (w : World) (h0 : 0 ≤ n) (hlim : n < 1073741824) (hv0 : vsz n ≠ 0) (hv : vsz n ≤ 4) :
    Calls Tryd.prog 19 #[.int .u64 n, .int .i64 4] w fun e w' => ∃ v, e = .returned (.tuple #[v, .int .i64 0]) ∧ w'.ownsRow w.heap.size 5 1 v (vform n 4).length ((vform n 4).map (Value.int .u8)) ∧ Below w.heap.size w w' := by
  obtain ⟨i0, hi, hz0, hz1, hz2⟩ := info_parts infoB
  have hn : n ≤ 18446744073709551615 := by omega
  have hz : ((vsz n : Int) == 0) = false := by simp; omega
  have hy2 : decide ((4 : Int) < (vsz n : Int)) = false := by simp; omega
  have hy3 : (vsz n : Int) ≤ 4 := by omega
  have HF : Hid (vform n 4 = (n / 256 ^ 3 % 256 + 128) :: lowb n 3 ∧ n / 256 ^ 3 % 256 + 128 ≤ 255) := ⟨by simp only [lowb]; first | (simp [vform4]; done) | (simp [vform4]; omega), by omega⟩
  clear hv hv0
  go_enter Tryd.func19, Tryd.ntmps19
  go_wp2_with (go_at_call 20; refine (rsize_any n _ h0 hn).mono ?_; rintro e w' ⟨rfl, rfl⟩)
  go_loopw [0, 7, 27] (fun x v i wr => ∃ j : Nat, j ≤ 4 ∧ i = .int .i64 j ∧ x = .int .u64 (n / 256 ^ j) ∧ wr.ownsRow w.heap.size 5 1 v j ((lowb n j).map (Value.int .u8)) ∧ Below w.heap.size w wr) (fun _ _ i _ => 4 - (intOf i).toNat)
  case atStart => exact ⟨0, by omega, rfl, by simp, World.ownsRow_nil _ _ _ _, Below.refl _ _⟩
  case round =>
    obtain ⟨j, hj, rfl, rfl, ho, hB⟩ := hrel
    have hll := lowb_len n j
    have hrd := rd_of_own (k := .u8) (l := lowb n j) ho
    by_cases hlt : j < 4
    · have hq0 : 0 ≤ n / 256 ^ j := Int.ediv_nonneg h0 (Int.le_of_lt (Int.pow_pos (by decide)))
      have hq1 : n / 256 ^ j ≤ 18446744073709551615 := Int.le_trans (Int.ediv_le_self _ h0) hn
      have hdd : n / 256 ^ (j + 1) = n / 256 ^ j / 256 := by rw [Int.pow_succ, Int.ediv_ediv_of_nonneg (Int.le_of_lt (Int.pow_pos (by decide)))]
      obtain ⟨q, hq⟩ : ∃ q, q = n / 256 ^ j := ⟨_, rfl⟩
      rw [← hq] at hq0 hq1 hdd ⊢
      have hone := World.ownsRow_lit (size := 1) (e := 5) wr #[.int .u8 (q % 256)] 1 hB.size (by decide) rfl
      obtain ⟨A, cap, rfl⟩ := hrd.form
      have hrd' := (hrd.alloc (.cells #[.int .u8 (q % 256)] 5)).rdv
      have HD := Lib.hid hdd
      have HQ := Lib.hid hq
      have HL := Lib.hid hll
      have HR := Lib.hid hrd'
      clear hdd hq hll hrd hrd' ho
      have hBa := hB.alloc hB.size (.cells #[.int .u8 (q % 256)] 5)
      go_wp2_with (at_builtin; refine wpList_append_any _ rfl _ _ 23 rfl w.heap.size 5 i0 _ 1 1 Tryd.underlying23 hi hz0 hz1 hz2 rfl (by decide) (.slice (some ⟨wr.heap.size, 0, none⟩) 1 1) 1 [.int .u8 (q % 256)] rfl hone A (lowb n j).length cap _ rfl HR.out.2.2.2.2 (oneInts _ _) (by have := HL.out; unfold maxLen; omega) (by have := HL.out; omega) hBa.size HR.out.2.1 ?_; intro v1 w1 hown1 hgrow1 hat1)
      go_roundw
      case rel => exact ⟨j + 1, by omega, by go_num, by rw [HD.out], by rw [HL.out] at hown1; simpa [lowb, HQ.out, Nat.add_comm] using hown1, hBa.grown hgrow1 hBa.size (fun k hk => by simp [Value.ownBlock] at hk; have := hB.size; omega)⟩
      case measure => simp [intOf]; omega
    · obtain rfl : j = 4 := by omega
      obtain ⟨g, cap, rfl, hg, hgl⟩ := ho.form (by omega)
      have hc0 := ho.cellAt 0 (by omega)
      have hf0 := ho.frozenAt 0
      simp only [lowb, List.map_cons, List.getElem?_cons_zero] at hc0
      have hm0 : 0 ≤ n / 256 ^ 3 % 256 := by omega
      have hm1 : n / 256 ^ 3 % 256 + 128 ≤ 255 := HF.out.2
      obtain ⟨q, hq⟩ : ∃ q, q = n / 256 ^ 3 % 256 := ⟨_, rfl⟩
      have hst := ho.stored 0 (.int .u8 (q + 128))
      rw [← hq] at hc0 hm0 hm1
      have HQ := Lib.hid hq
      have HS := Lib.hid hst
      clear hq hst hll hrd
      go_wp2
      go_ret2
      refine ⟨_, rfl, ?_, hB.setCell hg _⟩
      rw [HF.out.1, ← HQ.out]
      simpa [lowb, lowb_len] using HS.out.1

set_option maxHeartbeats 2000000 in
set_option maxRecDepth 100000 in
theorem rwide_8 (n : Int) (w : World) (h0 : 0 ≤ n) (hlim : n < 4611686018427387904) (hv0 : vsz n ≠ 0) (hv : vsz n ≤ 8) :
    Calls Tryd.prog 19 #[.int .u64 n, .int .i64 8] w fun e w' => ∃ v, e = .returned (.tuple #[v, .int .i64 0]) ∧ w'.ownsRow w.heap.size 5 1 v (vform n 8).length ((vform n 8).map (Value.int .u8)) ∧ Below w.heap.size w w' := by
  obtain ⟨i0, hi, hz0, hz1, hz2⟩ := info_parts infoB
  have hn : n ≤ 18446744073709551615 := by omega
  have hz : ((vsz n : Int) == 0) = false := by simp; omega
  have hy2 : decide ((8 : Int) < (vsz n : Int)) = false := by simp; omega
  have hy3 : (vsz n : Int) ≤ 8 := by omega
  have HF : Hid (vform n 8 = (n / 256 ^ 7 % 256 + 192) :: lowb n 7 ∧ n / 256 ^ 7 % 256 + 192 ≤ 255) := ⟨by simp only [lowb]; first | (simp [vform8]; done) | (simp [vform8]; omega), by omega⟩
  clear hv hv0
  go_enter Tryd.func19, Tryd.ntmps19
  go_wp2_with (go_at_call 20; refine (rsize_any n _ h0 hn).mono ?_; rintro e w' ⟨rfl, rfl⟩)
  go_loopw [0, 7, 27] (fun x v i wr => ∃ j : Nat, j ≤ 8 ∧ i = .int .i64 j ∧ x = .int .u64 (n / 256 ^ j) ∧ wr.ownsRow w.heap.size 5 1 v j ((lowb n j).map (Value.int .u8)) ∧ Below w.heap.size w wr) (fun _ _ i _ => 8 - (intOf i).toNat)
  case atStart => exact ⟨0, by omega, rfl, by simp, World.ownsRow_nil _ _ _ _, Below.refl _ _⟩
  case round =>
    obtain ⟨j, hj, rfl, rfl, ho, hB⟩ := hrel
    have hll := lowb_len n j
    have hrd := rd_of_own (k := .u8) (l := lowb n j) ho
    by_cases hlt : j < 8
    · have hq0 : 0 ≤ n / 256 ^ j := Int.ediv_nonneg h0 (Int.le_of_lt (Int.pow_pos (by decide)))
      have hq1 : n / 256 ^ j ≤ 18446744073709551615 := Int.le_trans (Int.ediv_le_self _ h0) hn
      have hdd : n / 256 ^ (j + 1) = n / 256 ^ j / 256 := by rw [Int.pow_succ, Int.ediv_ediv_of_nonneg (Int.le_of_lt (Int.pow_pos (by decide)))]
      obtain ⟨q, hq⟩ : ∃ q, q = n / 256 ^ j := ⟨_, rfl⟩
      rw [← hq] at hq0 hq1 hdd ⊢
      have hone := World.ownsRow_lit (size := 1) (e := 5) wr #[.int .u8 (q % 256)] 1 hB.size (by decide) rfl
      obtain ⟨A, cap, rfl⟩ := hrd.form
      have hrd' := (hrd.alloc (.cells #[.int .u8 (q % 256)] 5)).rdv
      have HD := Lib.hid hdd
      have HQ := Lib.hid hq
      have HL := Lib.hid hll
      have HR := Lib.hid hrd'
      clear hdd hq hll hrd hrd' ho
      have hBa := hB.alloc hB.size (.cells #[.int .u8 (q % 256)] 5)
      go_wp2_with (at_builtin; refine wpList_append_any _ rfl _ _ 23 rfl w.heap.size 5 i0 _ 1 1 Tryd.underlying23 hi hz0 hz1 hz2 rfl (by decide) (.slice (some ⟨wr.heap.size, 0, none⟩) 1 1) 1 [.int .u8 (q % 256)] rfl hone A (lowb n j).length cap _ rfl HR.out.2.2.2.2 (oneInts _ _) (by have := HL.out; unfold maxLen; omega) (by have := HL.out; omega) hBa.size HR.out.2.1 ?_; intro v1 w1 hown1 hgrow1 hat1)
      go_roundw
      case rel => exact ⟨j + 1, by omega, by go_num, by rw [HD.out], by rw [HL.out] at hown1; simpa [lowb, HQ.out, Nat.add_comm] using hown1, hBa.grown hgrow1 hBa.size (fun k hk => by simp [Value.ownBlock] at hk; have := hB.size; omega)⟩
      case measure => simp [intOf]; omega
    · obtain rfl : j = 8 := by omega
      obtain ⟨g, cap, rfl, hg, hgl⟩ := ho.form (by omega)
      have hc0 := ho.cellAt 0 (by omega)
      have hf0 := ho.frozenAt 0
      simp only [lowb, List.map_cons, List.getElem?_cons_zero] at hc0
      have hm0 : 0 ≤ n / 256 ^ 7 % 256 := by omega
      have hm1 : n / 256 ^ 7 % 256 + 192 ≤ 255 := HF.out.2
      obtain ⟨q, hq⟩ : ∃ q, q = n / 256 ^ 7 % 256 := ⟨_, rfl⟩
      have hst := ho.stored 0 (.int .u8 (q + 192))
      rw [← hq] at hc0 hm0 hm1
      have HQ := Lib.hid hq
      have HS := Lib.hid hst
      clear hq hst hll hrd
      go_wp2
      go_ret2
      refine ⟨_, rfl, ?_, hB.setCell hg _⟩
      rw [HF.out.1, ← HQ.out]
      simpa [lowb, lowb_len] using HS.out.1

theorem rwide_any (n : Int) (s : Nat) (w : World) (h0 : 0 ≤ n) (hs : s = 1 ∨ s = 2 ∨ s = 4 ∨ s = 8) (h : vsz n ≠ 0) (h' : vsz n ≤ s) :
    Calls Tryd.prog 19 #[.int .u64 n, .int .i64 s] w fun e w' => ∃ v, e = .returned (.tuple #[v, .int .i64 0]) ∧ w'.ownsRow w.heap.size 5 1 v (vform n s).length ((vform n s).map (Value.int .u8)) ∧ Below w.heap.size w w' := by
  rcases vsz_fits n s hs h h' with ⟨rfl, hn⟩ | ⟨rfl, hn⟩ | ⟨rfl, hn⟩ | ⟨rfl, hn⟩
  · exact rwide_1 n w h0 hn h h'
  · exact rwide_2 n w h0 hn h h'
  · exact rwide_4 n w h0 hn h h'
  · exact rwide_8 n w h0 hn h h'

/-- What Wide answers. -/
def wideR (n s : Int) : List Int × Int :=
  if s = 1 ∨ s = 2 ∨ s = 4 ∨ s = 8 then if vsz n = 0 ∨ s < vsz n then ([], 3) else (vform n s.toNat, 0) else ([], 1)
theorem wideR_arg {n s : Int} (h : ¬(s = 1 ∨ s = 2 ∨ s = 4 ∨ s = 8)) : wideR n s = ([], 1) := by unfold wideR; rw [if_neg h]
theorem wideR_long {n s : Int} (h : s = 1 ∨ s = 2 ∨ s = 4 ∨ s = 8) (h' : vsz n = 0 ∨ s < vsz n) : wideR n s = ([], 3) := by unfold wideR; rw [if_pos h, if_pos h']
theorem wideR_fits {n s : Int} (h : s = 1 ∨ s = 2 ∨ s = 4 ∨ s = 8) (h' : ¬(vsz n = 0 ∨ s < vsz n)) : wideR n s = (vform n s.toNat, 0) := by unfold wideR; rw [if_pos h, if_neg h']
theorem wideR_ok (n s : Int) (h0 : 0 ≤ n) : BytesOk (wideR n s).1 := by
  by_cases h : s = 1 ∨ s = 2 ∨ s = 4 ∨ s = 8
  · by_cases h' : vsz n = 0 ∨ s < vsz n
    · rw [wideR_long h h']; intro x hx; simp at hx
    · rw [wideR_fits h h']; exact vform_ok n s.toNat h0 (by omega) (by omega) (by omega)
  · rw [wideR_arg h]; intro x hx; simp at hx
def numR (n : Int) : List Int × Int := if vsz n = 0 then ([], 3) else (vform n (vsz n), 0)
theorem numR_ok (n : Int) (h0 : 0 ≤ n) : BytesOk (numR n).1 := by
  unfold numR
  by_cases h : vsz n = 0
  · rw [if_pos h]; intro x hx; simp at hx
  · rw [if_neg h]; exact vform_ok n _ h0 (vsz_in n h) h (Nat.le_refl _)
theorem wide_all (n s : Int) (w : World) (h0 : 0 ≤ n) (hn : n ≤ 18446744073709551615) :
    Calls Tryd.prog 47 #[.int .u64 n, .int .i64 s] w fun e w' => ∃ v, e = .returned (.tuple #[v, .int .i64 (wideR n s).2]) ∧ Rd w' .u8 v (wideR n s).1 ∧ Below w.heap.size w w' := by
  by_cases h : s = 1 ∨ s = 2 ∨ s = 4 ∨ s = 8
  · obtain ⟨k, rfl⟩ := Int.eq_ofNat_of_zero_le (show 0 ≤ s by omega)
    by_cases h' : vsz n = 0 ∨ (k : Int) < vsz n
    · rw [wideR_long h h']
      exact (wide_long n k w h0 hn (by omega) (by omega)).mono fun e w' ⟨he, hw⟩ => ⟨_, he, Rd.nil _ _, by rw [← hw]; exact Below.refl _ _⟩
    · rw [wideR_fits h h']
      exact (wide_any n k w h0 (by omega) (by omega) (by omega)).mono fun e w' ⟨v, he, ho, hB⟩ => ⟨v, he, rd_of_own ho, hB⟩
  · rw [wideR_arg h]
    exact (wide_arg n s w (by omega) (by omega) (by omega) (by omega)).mono fun e w' ⟨he, hw⟩ => ⟨_, he, Rd.nil _ _, by rw [← hw]; exact Below.refl _ _⟩
theorem rwide_all (n s : Int) (w : World) (h0 : 0 ≤ n) (hn : n ≤ 18446744073709551615) :
    Calls Tryd.prog 19 #[.int .u64 n, .int .i64 s] w fun e w' => ∃ v, e = .returned (.tuple #[v, .int .i64 (wideR n s).2]) ∧ Rd w' .u8 v (wideR n s).1 ∧ Below w.heap.size w w' := by
  by_cases h : s = 1 ∨ s = 2 ∨ s = 4 ∨ s = 8
  · obtain ⟨k, rfl⟩ := Int.eq_ofNat_of_zero_le (show 0 ≤ s by omega)
    by_cases h' : vsz n = 0 ∨ (k : Int) < vsz n
    · rw [wideR_long h h']
      exact (rwide_long n k w h0 hn (by omega) (by omega)).mono fun e w' ⟨he, hw⟩ => ⟨_, he, Rd.nil _ _, by rw [← hw]; exact Below.refl _ _⟩
    · rw [wideR_fits h h']
      exact (rwide_any n k w h0 (by omega) (by omega) (by omega)).mono fun e w' ⟨v, he, ho, hB⟩ => ⟨v, he, rd_of_own ho, hB⟩
  · rw [wideR_arg h]
    exact (rwide_arg n s w (by omega) (by omega) (by omega) (by omega)).mono fun e w' ⟨he, hw⟩ => ⟨_, he, Rd.nil _ _, by rw [← hw]; exact Below.refl _ _⟩
theorem num_all (n : Int) (w : World) (h0 : 0 ≤ n) (hn : n ≤ 18446744073709551615) :
    Calls Tryd.prog 28 #[.int .u64 n] w fun e w' => ∃ v, e = .returned (.tuple #[v, .int .i64 (numR n).2]) ∧ Rd w' .u8 v (numR n).1 ∧ Below w.heap.size w w' := by
  unfold numR
  by_cases h : vsz n = 0
  · rw [if_pos h]
    exact (num_none n w h0 hn h).mono fun e w' ⟨he, hw⟩ => ⟨_, he, Rd.nil _ _, by rw [← hw]; exact Below.refl _ _⟩
  · rw [if_neg h]
    exact (num_any n w h0 hn h).mono fun e w' ⟨v, he, ho, hB⟩ => ⟨v, he, rd_of_own ho, hB⟩
theorem rnum_all (n : Int) (w : World) (h0 : 0 ≤ n) (hn : n ≤ 18446744073709551615) :
    Calls Tryd.prog 50 #[.int .u64 n] w fun e w' => ∃ v, e = .returned (.tuple #[v, .int .i64 (numR n).2]) ∧ Rd w' .u8 v (numR n).1 ∧ Below w.heap.size w w' := by
  unfold numR
  by_cases h : vsz n = 0
  · rw [if_pos h]
    have hz : ((vsz n : Int) == 0) = true := by simp; omega
    go_enter Tryd.func50, Tryd.ntmps50
    go_wp2_with (go_at_call 20; refine (rsize_any n _ h0 hn).mono ?_; rintro e w' ⟨rfl, rfl⟩)
    go_ret2
    exact ⟨_, rfl, Rd.nil _ _, Below.refl _ _⟩
  · rw [if_neg h]
    have hz : ((vsz n : Int) == 0) = false := by simp; omega
    go_enter Tryd.func50, Tryd.ntmps50
    go_wp2_with (first | (go_at_call 20; refine (rsize_any n _ h0 hn).mono ?_; rintro e w' ⟨rfl, rfl⟩) | (go_at_call 19; refine (rwide_any n (vsz n) _ h0 (vsz_in n h) h (Nat.le_refl _)).mono ?_; rintro e w1 ⟨v, rfl, ho, hB⟩))
    go_ret2
    exact ⟨_, rfl, rd_of_own ho, hB⟩

end Go.Proofs.YtjijmbpgfabgcaaDoor
namespace Go.Proofs.YtjijmbpgfabgcaaDoor
open Go.RowKit
set_option linter.unusedVariables false
set_option linter.unusedSimpArgs false




theorem rnum_none (n : Int) (w : World) (h0 : 0 ≤ n) (hn : n ≤ 18446744073709551615) (h : vsz n = 0) :
    Calls Tryd.prog 50 #[.int .u64 n] w fun e w' => e = .returned (.tuple #[.slice none 0 0, .int .i64 3]) ∧ w = w' := by
  have hz : ((vsz n : Int) == 0) = true := by simp; omega
  go_enter Tryd.func50, Tryd.ntmps50
  go_wp2_with (go_at_call 20; refine (rsize_any n _ h0 hn).mono ?_; rintro e w' ⟨rfl, rfl⟩)
  go_ret2
  exact ⟨rfl, rfl⟩
theorem rnum_any (n : Int) (w : World) (h0 : 0 ≤ n) (hn : n ≤ 18446744073709551615) (h : vsz n ≠ 0) :
    Calls Tryd.prog 50 #[.int .u64 n] w fun e w' => ∃ v, e = .returned (.tuple #[v, .int .i64 0]) ∧ w'.ownsRow w.heap.size 5 1 v (vform n (vsz n)).length ((vform n (vsz n)).map (Value.int .u8)) ∧ Below w.heap.size w w' := by
  have hz : ((vsz n : Int) == 0) = false := by simp; omega
  go_enter Tryd.func50, Tryd.ntmps50
  go_wp2_with (first | (go_at_call 20; refine (rsize_any n _ h0 hn).mono ?_; rintro e w' ⟨rfl, rfl⟩) | (go_at_call 19; refine (rwide_any n (vsz n) _ h0 (vsz_in n h) h (Nat.le_refl _)).mono ?_; rintro e w1 ⟨v, rfl, ho, hB⟩))
  go_ret2
  exact ⟨_, rfl, ho, hB⟩

/-- A text's bytes. -/
def txtB (l : List Int) : List Int := vform l.length (vsz l.length) ++ l
theorem vsz_some {n : Int} (h : n ≤ 4611686018427387903) : vsz n ≠ 0 := by
  rcases vsz_cases n with ⟨_, e⟩ | ⟨_, _, e⟩ | ⟨_, _, e⟩ | ⟨_, _, e⟩ | ⟨_, e⟩ <;> omega
theorem vsz_lim {n : Int} (h : vsz n ≠ 0) : n ≤ 4611686018427387903 := by
  rcases vsz_cases n with ⟨_, e⟩ | ⟨_, _, e⟩ | ⟨_, _, e⟩ | ⟨_, _, e⟩ | ⟨_, e⟩ <;> omega
theorem vf_len (n : Int) (h : vsz n ≠ 0) : (vform n (vsz n)).length ≤ 8 := by
  rw [vform_len n _ (vsz_in n h)]
  rcases vsz_in n h with h | h | h | h <;> omega
theorem txtB_len (l : List Int) (hl : l.length ≤ 1000000) : (txtB l).length ≤ l.length + 8 := by
  have := vf_len (l.length : Int) (vsz_some (by omega))
  unfold txtB
  rw [List.length_append]
  omega
theorem txtB_ok (l : List Int) (hl : l.length ≤ 1000000) (hk : BytesOk l) : BytesOk (txtB l) := by
  have hv := vsz_some (n := (l.length : Int)) (by omega)
  unfold txtB
  exact (vform_ok _ _ (by omega) (vsz_in _ hv) hv (Nat.le_refl _)).append hk

theorem txt_any (v : Value) (l : List Int) (w : World) (ha : Rd w .u8 v l) (hl : l.length ≤ 1000000) :
    Calls Tryd.prog 45 #[v] w fun e w' => ∃ v', e = .returned v' ∧ w'.ownsRow w.heap.size 5 1 v' (txtB l).length ((txtB l).map (Value.int .u8)) ∧ Below w.heap.size w w' := by
  obtain ⟨i0, hi, hz0, hz1, hz2⟩ := info_parts infoB
  obtain ⟨A, cap, rfl⟩ := ha.form
  have hv := vsz_some (n := (l.length : Int)) (by omega)
  have hf8 := vf_len (l.length : Int) hv
  have HA := Lib.hid ha
  clear ha
  obtain ⟨fl, hfe⟩ : ∃ fl, fl = vform (l.length : Int) (vsz l.length) := ⟨_, rfl⟩
  rw [← hfe] at hf8
  have HF := Lib.hid hfe
  clear hfe
  go_enter Tryd.func45, Tryd.ntmps45
  go_wp2_with fail
  refine (num_any (l.length : Int) _ (by omega) (by omega) hv).mono ?_
  rintro e w1 ⟨v1, rfl, ho, hB⟩
  rw [← HF.out] at ho
  have hrd := (HA.out.below hB).rdv
  have HR := Lib.hid hrd
  clear hrd
  go_wp2_with (at_builtin; refine wpList_append_any _ rfl _ _ 23 rfl w.heap.size 5 i0 _ 1 1 Tryd.underlying23 hi hz0 hz1 hz2 rfl (by decide) v1 fl.length (fl.map (Value.int .u8)) rfl ho A l.length cap _ rfl HR.out.2.2.2.2 (oneInts _ _) (by unfold maxLen; omega) (by omega) hB.size HR.out.2.1 ?_; intro v2 w2 hown hgrow hat)
  go_ret
  refine ⟨_, rfl, ?_, hB.grown hgrow hB.size (fun b hb => (ho.lt b hb).1)⟩
  unfold txtB
  rw [← HF.out, List.length_append, List.map_append]
  exact hown

theorem rtxt_any (v : Value) (l : List Int) (w : World) (ha : Rd w .u8 v l) (hl : l.length ≤ 1000000) :
    Calls Tryd.prog 33 #[v] w fun e w' => ∃ v', e = .returned v' ∧ w'.ownsRow w.heap.size 5 1 v' (txtB l).length ((txtB l).map (Value.int .u8)) ∧ Below w.heap.size w w' := by
  obtain ⟨i0, hi, hz0, hz1, hz2⟩ := info_parts infoB
  obtain ⟨A, cap, rfl⟩ := ha.form
  have hv := vsz_some (n := (l.length : Int)) (by omega)
  have hf8 := vf_len (l.length : Int) hv
  have HA := Lib.hid ha
  clear ha
  obtain ⟨fl, hfe⟩ : ∃ fl, fl = vform (l.length : Int) (vsz l.length) := ⟨_, rfl⟩
  rw [← hfe] at hf8
  have HF := Lib.hid hfe
  clear hfe
  go_enter Tryd.func33, Tryd.ntmps33
  go_wp2_with fail
  refine (rnum_any (l.length : Int) _ (by omega) (by omega) hv).mono ?_
  rintro e w1 ⟨v1, rfl, ho, hB⟩
  rw [← HF.out] at ho
  have hrd := (HA.out.below hB).rdv
  have HR := Lib.hid hrd
  clear hrd
  go_wp2_with (at_builtin; refine wpList_append_any _ rfl _ _ 23 rfl w.heap.size 5 i0 _ 1 1 Tryd.underlying23 hi hz0 hz1 hz2 rfl (by decide) v1 fl.length (fl.map (Value.int .u8)) rfl ho A l.length cap _ rfl HR.out.2.2.2.2 (oneInts _ _) (by unfold maxLen; omega) (by omega) hB.size HR.out.2.1 ?_; intro v2 w2 hown hgrow hat)
  go_ret
  refine ⟨_, rfl, ?_, hB.grown hgrow hB.size (fun b hb => (ho.lt b hb).1)⟩
  unfold txtB
  rw [← HF.out, List.length_append, List.map_append]
  exact hown

/-- Numbers that have a form, one behind the other. -/
def AllN (l : List Int) : Prop := ∀ x ∈ l, 0 ≤ x ∧ x ≤ 18446744073709551615
def FitN (l : List Int) : Prop := ∀ x ∈ l, vsz x ≠ 0
def joinN (l : List Int) : List Int := l.flatMap fun n => vform n (vsz n)
theorem joinN_take (l : List Int) (k : Nat) (hk : k < l.length) : joinN (l.take (k + 1)) = joinN (l.take k) ++ vform (l.getD k 0) (vsz (l.getD k 0)) := by
  have e : l.getD k 0 = l[k] := by simp [List.getD, hk]
  rw [e, List.take_succ_eq_append_getElem hk]
  unfold joinN
  rw [List.flatMap_append]
  simp
theorem joinN_len (l : List Int) (h : FitN l) : (joinN l).length ≤ 8 * l.length := by
  induction l with
  | nil => simp [joinN]
  | cons x r ih =>
    have := ih (fun y hy => h y (by simp [hy]))
    have hl := vf_len x (h x (by simp))
    rw [show joinN (x :: r) = vform x (vsz x) ++ joinN r from rfl, List.length_append, List.length_cons]
    omega
theorem joinN_ok (l : List Int) (h : FitN l) (ha : AllN l) : BytesOk (joinN l) := by
  induction l with
  | nil => intro x hx; simp [joinN] at hx
  | cons x r ih =>
    have hx := h x (by simp)
    rw [show joinN (x :: r) = vform x (vsz x) ++ joinN r from rfl]
    exact (vform_ok x _ (ha x (by simp)).1 (vsz_in x hx) hx (Nat.le_refl _)).append (ih (fun y hy => h y (by simp [hy])) (fun y hy => ha y (by simp [hy])))

/-- What the two answer. -/
def fitB (l : List Int) : Bool := l.all fun x => decide (vsz x ≠ 0)
theorem fitB_yes {l : List Int} (h : fitB l = true) : FitN l := fun x hx => by
  have := List.all_eq_true.1 h x hx
  simpa using this
theorem fitB_no {l : List Int} (h : fitB l = false) : ∃ j, j < l.length ∧ FitN (l.take j) ∧ vsz (l.getD j 0) = 0 := by
  induction l with
  | nil => cases h
  | cons x r ih =>
    by_cases hx : vsz x = 0
    · exact ⟨0, by simp, fun y hy => by simp at hy, by simpa using hx⟩
    · have hr : fitB r = false := by
        unfold fitB at h ⊢
        simpa [hx] using h
      obtain ⟨j, h1, h2, h3⟩ := ih hr
      refine ⟨j + 1, by simpa using h1, fun y hy => ?_, by simpa using h3⟩
      rw [List.take_succ_cons] at hy
      rcases List.mem_cons.1 hy with rfl | hy
      · exact hx
      · exact h2 y hy
/-- A slice of numbers that the call lays itself. -/
theorem rd_lit (w : World) (l : List Int) (hl : l.length ≤ 100) : Rd (w.alloc (.cells (l.map (Value.int .u64)).toArray 22)) .u64 (.slice (some ⟨w.heap.size, 0, none⟩) l.length l.length) l :=
  ⟨_, l.length, rfl, Nat.le_refl _, by unfold maxLen; omega, fun h => (by cases h), fun i hi => ⟨w.heap.size, 0, rfl, by simp, fun j hj => by
    obtain rfl : j = 0 := by omega
    simp [List.getD, hi]⟩⟩
theorem rd_lit_at {w : World} {n : Nat} (hn : n = w.heap.size) (l : List Int) (hl : l.length ≤ 100) : Rd (w.alloc (.cells (l.map (Value.int .u64)).toArray 22)) .u64 (.slice (some ⟨n, 0, none⟩) l.length l.length) l := hn ▸ rd_lit w l hl


end Go.Proofs.YtjijmbpgfabgcaaDoor
namespace Go.Proofs.YtjijmbpgfabgcaaDoor
open Go.RowKit
set_option linter.unusedVariables false
set_option linter.unusedSimpArgs false


/-- The text in front, what stands behind, the error. -/
def vtext (l : List Int) (most : Int) : List Int × List Int × Int :=
  match vtake l with
  | none => ([], [], 2)
  | some (n, rest) => if most < 0 ∨ most < n then ([], [], 3) else if (rest.length : Int) < n then ([], [], 2) else (rest.take n.toNat, rest.drop n.toNat, 0)
theorem vtext_none {l : List Int} (most : Int) (h : vtake l = none) : vtext l most = ([], [], 2) := by unfold vtext; rw [h]
theorem vtext_some {l : List Int} (most : Int) {n : Int} {rest : List Int} (h : vtake l = some (n, rest)) :
    vtext l most = if most < 0 ∨ most < n then ([], [], 3) else if (rest.length : Int) < n then ([], [], 2) else (rest.take n.toNat, rest.drop n.toNat, 0) := by unfold vtext; rw [h]
theorem vtext_ok {l : List Int} (hk : BytesOk l) (most : Int) : BytesOk (vtext l most).1 ∧ BytesOk (vtext l most).2.1 := by
  have nl : BytesOk [] := fun x hx => by simp at hx
  rcases ht : vtake l with _ | ⟨n, rest⟩
  · rw [vtext_none most ht]; exact ⟨nl, nl⟩
  · obtain ⟨_, _, x, r, _, _, hr, _⟩ := vtake_some hk ht
    have hkr : BytesOk rest := by rw [hr]; exact hk.drop _
    rw [vtext_some most ht]
    by_cases h1 : most < 0 ∨ most < n
    · rw [if_pos h1]; exact ⟨nl, nl⟩
    · rw [if_neg h1]
      by_cases h2 : (rest.length : Int) < n
      · rw [if_pos h2]; exact ⟨nl, nl⟩
      · rw [if_neg h2]; exact ⟨hkr.take _, hkr.drop _⟩

theorem und {B : Nat} {a w : World} (h : Below B a.drew w) : Below B a w := ⟨h.os, h.tape, h.output, h.size, h.block⟩

theorem text_none (v : Value) (l : List Int) (most : Int) (w : World) (h : Rd w .u8 v l) (hk : BytesOk l) (ht : vtake l = none) :
    Calls Tryd.prog 58 #[v, .int .i64 most] w fun e w' => e = .returned (.tuple #[.slice none 0 0, .slice none 0 0, .int .i64 2]) ∧ Below w.heap.size w w' := by
  have HT := Lib.hid ht
  clear ht
  go_enter Tryd.func58, Tryd.ntmps58
  go_wp2_with fail
  refine (take_none v l _ h hk HT.out).mono ?_
  rintro e w1 ⟨rfl, hB⟩
  go_wp2_with fail
  go_ret3
  exact ⟨rfl, hB⟩
set_option maxRecDepth 100000 in
theorem text_long (v : Value) (l rest : List Int) (n most : Int) (w : World) (h : Rd w .u8 v l) (hk : BytesOk l) (hl : l.length ≤ 1099511627776) (hm2 : most ≤ 9223372036854775807) (ht : vtake l = some (n, rest)) (hm : most < 0 ∨ most < n) :
    Calls Tryd.prog 58 #[v, .int .i64 most] w fun e w' => e = .returned (.tuple #[.slice none 0 0, .slice none 0 0, .int .i64 3]) ∧ Below w.heap.size w w' := by
  have hrl : rest.length ≤ 1099511627776 := by obtain ⟨_, _, x, r, rfl, _, rfl, _⟩ := vtake_some hk ht; simp at hl ⊢; omega
  obtain ⟨hn0, hn1, _⟩ := vtake_some hk ht
  have HT := Lib.hid ht
  clear ht
  by_cases h0 : most < 0
  · have d0 : decide (most < 0) = true := by simpa using h0
    clear hm
    go_enter Tryd.func58, Tryd.ntmps58
    go_wp2_with fail
    refine (take_some v l n rest _ h hk hl HT.out).mono ?_
    rintro e w1 ⟨v', rfl, ho, hB⟩
    obtain ⟨A, cap, rfl⟩ := (rd_of_own ho).form
    go_wp2_with fail
    go_ret3
    exact ⟨rfl, hB⟩
  · have h1 : most < n := by omega
    have d0 : decide (most < 0) = false := by simpa using h0
    have d1 : decide (most < n) = true := by simpa using h1
    clear hm
    go_enter Tryd.func58, Tryd.ntmps58
    go_wp2_with fail
    refine (take_some v l n rest _ h hk hl HT.out).mono ?_
    rintro e w1 ⟨v', rfl, ho, hB⟩
    obtain ⟨A, cap, rfl⟩ := (rd_of_own ho).form
    go_wp2_with fail
    go_ret3
    exact ⟨rfl, hB⟩
set_option maxRecDepth 100000 in
theorem text_short (v : Value) (l rest : List Int) (n most : Int) (w : World) (h : Rd w .u8 v l) (hk : BytesOk l) (hl : l.length ≤ 1099511627776) (hm2 : most ≤ 9223372036854775807) (ht : vtake l = some (n, rest)) (hm0 : 0 ≤ most) (hm : n ≤ most) (hs : (rest.length : Int) < n) :
    Calls Tryd.prog 58 #[v, .int .i64 most] w fun e w' => e = .returned (.tuple #[.slice none 0 0, .slice none 0 0, .int .i64 2]) ∧ Below w.heap.size w w' := by
  have hrl : rest.length ≤ 1099511627776 := by obtain ⟨_, _, x, r, rfl, _, rfl, _⟩ := vtake_some hk ht; simp at hl ⊢; omega
  obtain ⟨hn0, hn1, _⟩ := vtake_some hk ht
  have HT := Lib.hid ht
  clear ht
  have d0 : decide (most < 0) = false := by simp; omega
  have d1 : decide (most < n) = false := by simp; omega
  go_enter Tryd.func58, Tryd.ntmps58
  go_wp2_with fail
  refine (take_some v l n rest _ h hk hl HT.out).mono ?_
  rintro e w1 ⟨v', rfl, ho, hB⟩
  obtain ⟨A, cap, rfl⟩ := (rd_of_own ho).form
  go_wp2_with fail
  go_ret3
  exact ⟨rfl, hB⟩
set_option maxHeartbeats 2000000 in
set_option maxRecDepth 100000 in
theorem text_yes (v : Value) (l rest : List Int) (k : Nat) (most : Int) (w : World) (h : Rd w .u8 v l) (hk : BytesOk l) (hl : l.length ≤ 1099511627776) (hm2 : most ≤ 9223372036854775807) (ht : vtake l = some ((k : Int), rest)) (hm : (k : Int) ≤ most) (hs : k ≤ rest.length) :
    Calls Tryd.prog 58 #[v, .int .i64 most] w fun e w' => ∃ v1 v2, e = .returned (.tuple #[v1, v2, .int .i64 0]) ∧ Rd w' .u8 v1 (rest.take k) ∧ Rd w' .u8 v2 (rest.drop k) ∧ Below w.heap.size w w' := by
  have hrl : rest.length ≤ 1099511627776 := by obtain ⟨_, _, x, r, rfl, _, rfl, _⟩ := vtake_some hk ht; simp at hl ⊢; omega
  have HT := Lib.hid ht
  clear ht
  have d0 : decide (most < 0) = false := by simp; omega
  have d1 : decide (most < (k : Int)) = false := by simp; omega
  have d2 : decide (rest.length < k) = false := by simp; omega
  have d3 : (0 : Int) ≤ (k : Int) := by omega
  have d4 : (k : Int) ≤ (rest.length : Int) := by omega
  go_enter Tryd.func58, Tryd.ntmps58
  go_wp2_with fail
  refine (take_some v l k rest _ h hk hl HT.out).mono ?_
  rintro e w1 ⟨v', rfl, ho, hB⟩
  have hr1 := rd_of_own ho
  rcases ho.2 with ⟨rfl, h0⟩ | ⟨g, cap, cur, rfl, _, _, hnc, hcm, _, _⟩
  · have hr0 : rest = [] := List.eq_nil_of_length_eq_zero h0
    subst hr0
    obtain rfl : k = 0 := by simpa using hs
    have hA1 := Rd.nil w1 .u8
    clear ho hr1
    go_wp2_with fail
    go_region_held3 (fun _ => True) (trivial)
      (first
        | (go_at_call 36; (first | (with_reducible refine (clone_any _ _ _ hA2 (by simp)).mono ?_) | (with_reducible refine (clone_any _ _ _ hA2.drew (by simp)).mono ?_)); rintro e w3 ⟨v3, rfl, ho3, hb3⟩; have hb3 : Below w2.heap.size w2 w3 := (by first | exact hb3 | exact und hb3))
        | (go_at_call 36; (first | (with_reducible refine (clone_any _ _ _ hA1 (by simp)).mono ?_) | (with_reducible refine (clone_any _ _ _ hA1.drew (by simp)).mono ?_)); rintro e w2 ⟨v2, rfl, ho2, hb2⟩; have hb2 : Below w1.heap.size w1 w2 := (by first | exact hb2 | exact und hb2); have hA2 := Rd.nil w2 .u8))
    all_goals
      go_wp2_with fail
      go_ret3
      exact ⟨_, _, rfl, by first | exact (rd_of_own (k := .u8) (l := []) ho2).below hb3 | exact rd_of_own (k := .u8) (l := []) ho3, by first | exact rd_of_own (k := .u8) (l := []) ho3 | exact (rd_of_own (k := .u8) (l := []) ho2).below hb3, (hB.trans (hb2.mono hB.size)).trans (hb3.mono (by have := hB.size; have := hb2.size; simp at *; omega))⟩
  · have hcm' : cap ≤ 9223372036854775807 := by unfold maxLen at hcm; omega
    have hP1 := hr1.pre hs
    have hlp : (rest.take k).length ≤ 1099511627776 := by simp; omega
    have hls : (rest.drop k).length ≤ 1099511627776 := by simp; omega
    have hS1 := hr1.suf hs
    rw [Nat.zero_add] at hS1
    by_cases hck : cap = k
    · have hkl : k = rest.length := by omega
      have hdr : rest.drop k = [] := by rw [hkl]; simp
      have hE0 : Rd w1 .u8 (.slice (some ⟨g, 0, none⟩) 0 0) (rest.drop k) := by rw [hdr]; exact Rd.emp w1 .u8 _ 0 (by decide)
      have hE1 : Rd w1 .u8 (.slice (some ⟨g, 0, none⟩) (rest.length - k) 0) (rest.drop k) := by rw [show rest.length - k = 0 by omega]; exact hE0
      subst hck
      have HK := Lib.hid hkl
      clear ho hr1 hkl hS1 hdr
      have hck5 : (cap : Int) ≤ (cap : Int) := Int.le_refl _
      go_wp2_with fail
      go_region_held3 (fun _ => True) (trivial)
        (first
          | (go_at_call 36; (first | (with_reducible refine (clone_any _ _ _ hP1 hlp).mono ?_) | (with_reducible refine (clone_any _ _ _ hP1.drew hlp).mono ?_) | (with_reducible refine (clone_any _ _ _ hP2 hlp).mono ?_) | (with_reducible refine (clone_any _ _ _ hP2.drew hlp).mono ?_)); rintro e w2 ⟨v2, rfl, ho2, hb2⟩; have rP := rd_of_own ho2; (try have hE2 := hE1.below (show Below w1.heap.size w1 w2 by first | exact hb2 | exact und hb2)); (try have hE3 := hE0.below (show Below w1.heap.size w1 w2 by first | exact hb2 | exact und hb2)))
          | (go_at_call 36; (first | (with_reducible refine (clone_any _ _ _ hE1 hls).mono ?_) | (with_reducible refine (clone_any _ _ _ hE1.drew hls).mono ?_) | (with_reducible refine (clone_any _ _ _ hE0 hls).mono ?_) | (with_reducible refine (clone_any _ _ _ hE0.drew hls).mono ?_) | (with_reducible refine (clone_any _ _ _ hE2 hls).mono ?_) | (with_reducible refine (clone_any _ _ _ hE2.drew hls).mono ?_) | (with_reducible refine (clone_any _ _ _ hE3 hls).mono ?_) | (with_reducible refine (clone_any _ _ _ hE3.drew hls).mono ?_)); rintro e w3 ⟨v3, rfl, ho3, hb3⟩; have rS := rd_of_own ho3; (try have hP2 := hP1.below (show Below w1.heap.size w1 w3 by first | exact hb3 | exact und hb3))))
      all_goals
        go_wp2_with fail
        go_ret3
        first
          | (have hbP : Below w1.heap.size w1 w2 := by first | exact hb2 | exact und hb2
             have hbS : Below w2.heap.size w2 w3 := by first | exact hb3 | exact und hb3
             exact ⟨_, _, rfl, rP.below hbS, rS, (hB.trans (hbP.mono hB.size)).trans (hbS.mono (Nat.le_trans hB.size hbP.size))⟩)
          | (have hbS : Below w1.heap.size w1 w3 := by first | exact hb3 | exact und hb3
             have hbP : Below w3.heap.size w3 w2 := by first | exact hb2 | exact und hb2
             exact ⟨_, _, rfl, rP, rS.below hbP, (hB.trans (hbS.mono hB.size)).trans (hbP.mono (Nat.le_trans hB.size hbS.size))⟩)
    · have hck' : (k : Int) < (cap : Int) := by omega
      have hck5 : (k : Int) ≤ (cap : Int) := by omega
      have hck6 : k ≤ cap := by omega
      clear ho hr1
      go_wp2_with fail
      go_region_held3 (fun _ => True) (trivial)
        (first
          | (go_at_call 36; (first | (with_reducible refine (clone_any _ _ _ hP1 hlp).mono ?_) | (with_reducible refine (clone_any _ _ _ hP1.drew hlp).mono ?_) | (with_reducible refine (clone_any _ _ _ hP2 hlp).mono ?_) | (with_reducible refine (clone_any _ _ _ hP2.drew hlp).mono ?_)); rintro e w2 ⟨v2, rfl, ho2, hb2⟩; have rP := rd_of_own ho2; (try have hS2 := hS1.below (show Below w1.heap.size w1 w2 by first | exact hb2 | exact und hb2)))
          | (go_at_call 36; (first | (with_reducible refine (clone_any _ _ _ hS1 hls).mono ?_) | (with_reducible refine (clone_any _ _ _ hS1.drew hls).mono ?_) | (with_reducible refine (clone_any _ _ _ hS2 hls).mono ?_) | (with_reducible refine (clone_any _ _ _ hS2.drew hls).mono ?_)); rintro e w3 ⟨v3, rfl, ho3, hb3⟩; have rS := rd_of_own ho3; (try have hP2 := hP1.below (show Below w1.heap.size w1 w3 by first | exact hb3 | exact und hb3))))
      all_goals
        go_wp2_with fail
        go_ret3
        first
          | (have hbP : Below w1.heap.size w1 w2 := by first | exact hb2 | exact und hb2
             have hbS : Below w2.heap.size w2 w3 := by first | exact hb3 | exact und hb3
             exact ⟨_, _, rfl, rP.below hbS, rS, (hB.trans (hbP.mono hB.size)).trans (hbS.mono (Nat.le_trans hB.size hbP.size))⟩)
          | (have hbS : Below w1.heap.size w1 w3 := by first | exact hb3 | exact und hb3
             have hbP : Below w3.heap.size w3 w2 := by first | exact hb2 | exact und hb2
             exact ⟨_, _, rfl, rP, rS.below hbP, (hB.trans (hbS.mono hB.size)).trans (hbP.mono (Nat.le_trans hB.size hbS.size))⟩)

theorem text_all (v : Value) (l : List Int) (most : Int) (w : World) (h : Rd w .u8 v l) (hk : BytesOk l) (hl : l.length ≤ 1099511627776) (hm2 : most ≤ 9223372036854775807) :
    Calls Tryd.prog 58 #[v, .int .i64 most] w fun e w' => ∃ v1 v2, e = .returned (.tuple #[v1, v2, .int .i64 (vtext l most).2.2]) ∧ Rd w' .u8 v1 (vtext l most).1 ∧ Rd w' .u8 v2 (vtext l most).2.1 ∧ Below w.heap.size w w' := by
  rcases ht : vtake l with _ | ⟨n, rest⟩
  · rw [vtext_none most ht]
    exact (text_none v l most w h hk ht).mono fun e w' ⟨he, hB⟩ => ⟨_, _, he, Rd.nil _ _, Rd.nil _ _, hB⟩
  · have hn := (vtake_some hk ht).1
    rw [vtext_some most ht]
    by_cases h1 : most < 0 ∨ most < n
    · rw [if_pos h1]
      exact (text_long v l rest n most w h hk hl hm2 ht h1).mono fun e w' ⟨he, hB⟩ => ⟨_, _, he, Rd.nil _ _, Rd.nil _ _, hB⟩
    · rw [if_neg h1]
      by_cases h2 : (rest.length : Int) < n
      · rw [if_pos h2]
        exact (text_short v l rest n most w h hk hl hm2 ht (by omega) (by omega) h2).mono fun e w' ⟨he, hB⟩ => ⟨_, _, he, Rd.nil _ _, Rd.nil _ _, hB⟩
      · rw [if_neg h2]
        obtain ⟨k, rfl⟩ := Int.eq_ofNat_of_zero_le hn
        exact text_yes v l rest k most w h hk hl hm2 ht (by omega) (by omega)

theorem rtext_none (v : Value) (l : List Int) (most : Int) (w : World) (h : Rd w .u8 v l) (hk : BytesOk l) (ht : vtake l = none) :
    Calls Tryd.prog 38 #[v, .int .i64 most] w fun e w' => e = .returned (.tuple #[.slice none 0 0, .slice none 0 0, .int .i64 2]) ∧ Below w.heap.size w w' := by
  have HT := Lib.hid ht
  clear ht
  go_enter Tryd.func38, Tryd.ntmps38
  go_wp2_with fail
  refine (rtake_none v l _ h hk HT.out).mono ?_
  rintro e w1 ⟨rfl, hB⟩
  go_wp2_with fail
  go_ret3
  exact ⟨rfl, hB⟩
set_option maxRecDepth 100000 in
theorem rtext_long (v : Value) (l rest : List Int) (n most : Int) (w : World) (h : Rd w .u8 v l) (hk : BytesOk l) (hl : l.length ≤ 1099511627776) (hm2 : most ≤ 9223372036854775807) (ht : vtake l = some (n, rest)) (hm : most < 0 ∨ most < n) :
    Calls Tryd.prog 38 #[v, .int .i64 most] w fun e w' => e = .returned (.tuple #[.slice none 0 0, .slice none 0 0, .int .i64 3]) ∧ Below w.heap.size w w' := by
  have hrl : rest.length ≤ 1099511627776 := by obtain ⟨_, _, x, r, rfl, _, rfl, _⟩ := vtake_some hk ht; simp at hl ⊢; omega
  obtain ⟨hn0, hn1, _⟩ := vtake_some hk ht
  have HT := Lib.hid ht
  clear ht
  by_cases h0 : most < 0
  · have d0 : decide (most < 0) = true := by simpa using h0
    clear hm
    go_enter Tryd.func38, Tryd.ntmps38
    go_wp2_with fail
    refine (rtake_some v l n rest _ h hk hl HT.out).mono ?_
    rintro e w1 ⟨v', rfl, ho, hB⟩
    obtain ⟨A, cap, rfl⟩ := (rd_of_own ho).form
    go_wp2_with fail
    go_ret3
    exact ⟨rfl, hB⟩
  · have h1 : most < n := by omega
    have d0 : decide (most < 0) = false := by simpa using h0
    have d1 : decide (most < n) = true := by simpa using h1
    clear hm
    go_enter Tryd.func38, Tryd.ntmps38
    go_wp2_with fail
    refine (rtake_some v l n rest _ h hk hl HT.out).mono ?_
    rintro e w1 ⟨v', rfl, ho, hB⟩
    obtain ⟨A, cap, rfl⟩ := (rd_of_own ho).form
    go_wp2_with fail
    go_ret3
    exact ⟨rfl, hB⟩
set_option maxRecDepth 100000 in
theorem rtext_short (v : Value) (l rest : List Int) (n most : Int) (w : World) (h : Rd w .u8 v l) (hk : BytesOk l) (hl : l.length ≤ 1099511627776) (hm2 : most ≤ 9223372036854775807) (ht : vtake l = some (n, rest)) (hm0 : 0 ≤ most) (hm : n ≤ most) (hs : (rest.length : Int) < n) :
    Calls Tryd.prog 38 #[v, .int .i64 most] w fun e w' => e = .returned (.tuple #[.slice none 0 0, .slice none 0 0, .int .i64 2]) ∧ Below w.heap.size w w' := by
  have hrl : rest.length ≤ 1099511627776 := by obtain ⟨_, _, x, r, rfl, _, rfl, _⟩ := vtake_some hk ht; simp at hl ⊢; omega
  obtain ⟨hn0, hn1, _⟩ := vtake_some hk ht
  have HT := Lib.hid ht
  clear ht
  have d0 : decide (most < 0) = false := by simp; omega
  have d1 : decide (most < n) = false := by simp; omega
  go_enter Tryd.func38, Tryd.ntmps38
  go_wp2_with fail
  refine (rtake_some v l n rest _ h hk hl HT.out).mono ?_
  rintro e w1 ⟨v', rfl, ho, hB⟩
  obtain ⟨A, cap, rfl⟩ := (rd_of_own ho).form
  go_wp2_with fail
  go_ret3
  exact ⟨rfl, hB⟩
set_option maxHeartbeats 2000000 in
set_option maxRecDepth 100000 in
theorem rtext_yes (v : Value) (l rest : List Int) (k : Nat) (most : Int) (w : World) (h : Rd w .u8 v l) (hk : BytesOk l) (hl : l.length ≤ 1099511627776) (hm2 : most ≤ 9223372036854775807) (ht : vtake l = some ((k : Int), rest)) (hm : (k : Int) ≤ most) (hs : k ≤ rest.length) :
    Calls Tryd.prog 38 #[v, .int .i64 most] w fun e w' => ∃ v1 v2, e = .returned (.tuple #[v1, v2, .int .i64 0]) ∧ Rd w' .u8 v1 (rest.take k) ∧ Rd w' .u8 v2 (rest.drop k) ∧ Below w.heap.size w w' := by
  have hrl : rest.length ≤ 1099511627776 := by obtain ⟨_, _, x, r, rfl, _, rfl, _⟩ := vtake_some hk ht; simp at hl ⊢; omega
  have HT := Lib.hid ht
  clear ht
  have d0 : decide (most < 0) = false := by simp; omega
  have d1 : decide (most < (k : Int)) = false := by simp; omega
  have d2 : decide (rest.length < k) = false := by simp; omega
  have d3 : (0 : Int) ≤ (k : Int) := by omega
  have d4 : (k : Int) ≤ (rest.length : Int) := by omega
  go_enter Tryd.func38, Tryd.ntmps38
  go_wp2_with fail
  refine (rtake_some v l k rest _ h hk hl HT.out).mono ?_
  rintro e w1 ⟨v', rfl, ho, hB⟩
  have hr1 := rd_of_own ho
  rcases ho.2 with ⟨rfl, h0⟩ | ⟨g, cap, cur, rfl, _, _, hnc, hcm, _, _⟩
  · have hr0 : rest = [] := List.eq_nil_of_length_eq_zero h0
    subst hr0
    obtain rfl : k = 0 := by simpa using hs
    have hA1 := Rd.nil w1 .u8
    clear ho hr1
    go_wp2_with fail
    go_region_held3 (fun _ => True) (trivial)
      (first
        | (go_at_call 17; (first | (with_reducible refine (copy_any _ _ _ hA2 (by simp)).mono ?_) | (with_reducible refine (copy_any _ _ _ hA2.drew (by simp)).mono ?_)); rintro e w3 ⟨v3, rfl, ho3, hb3⟩; have hb3 : Below w2.heap.size w2 w3 := (by first | exact hb3 | exact und hb3))
        | (go_at_call 17; (first | (with_reducible refine (copy_any _ _ _ hA1 (by simp)).mono ?_) | (with_reducible refine (copy_any _ _ _ hA1.drew (by simp)).mono ?_)); rintro e w2 ⟨v2, rfl, ho2, hb2⟩; have hb2 : Below w1.heap.size w1 w2 := (by first | exact hb2 | exact und hb2); have hA2 := Rd.nil w2 .u8))
    all_goals
      go_wp2_with fail
      go_ret3
      exact ⟨_, _, rfl, by first | exact (rd_of_own (k := .u8) (l := []) ho2).below hb3 | exact rd_of_own (k := .u8) (l := []) ho3, by first | exact rd_of_own (k := .u8) (l := []) ho3 | exact (rd_of_own (k := .u8) (l := []) ho2).below hb3, (hB.trans (hb2.mono hB.size)).trans (hb3.mono (by have := hB.size; have := hb2.size; simp at *; omega))⟩
  · have hcm' : cap ≤ 9223372036854775807 := by unfold maxLen at hcm; omega
    have hP1 := hr1.pre hs
    have hlp : (rest.take k).length ≤ 1099511627776 := by simp; omega
    have hls : (rest.drop k).length ≤ 1099511627776 := by simp; omega
    have hS1 := hr1.suf hs
    rw [Nat.zero_add] at hS1
    by_cases hck : cap = k
    · have hkl : k = rest.length := by omega
      have hdr : rest.drop k = [] := by rw [hkl]; simp
      have hE0 : Rd w1 .u8 (.slice (some ⟨g, 0, none⟩) 0 0) (rest.drop k) := by rw [hdr]; exact Rd.emp w1 .u8 _ 0 (by decide)
      have hE1 : Rd w1 .u8 (.slice (some ⟨g, 0, none⟩) (rest.length - k) 0) (rest.drop k) := by rw [show rest.length - k = 0 by omega]; exact hE0
      subst hck
      have HK := Lib.hid hkl
      clear ho hr1 hkl hS1 hdr
      have hck5 : (cap : Int) ≤ (cap : Int) := Int.le_refl _
      go_wp2_with fail
      go_region_held3 (fun _ => True) (trivial)
        (first
          | (go_at_call 17; (first | (with_reducible refine (copy_any _ _ _ hP1 hlp).mono ?_) | (with_reducible refine (copy_any _ _ _ hP1.drew hlp).mono ?_) | (with_reducible refine (copy_any _ _ _ hP2 hlp).mono ?_) | (with_reducible refine (copy_any _ _ _ hP2.drew hlp).mono ?_)); rintro e w2 ⟨v2, rfl, ho2, hb2⟩; have rP := rd_of_own ho2; (try have hE2 := hE1.below (show Below w1.heap.size w1 w2 by first | exact hb2 | exact und hb2)); (try have hE3 := hE0.below (show Below w1.heap.size w1 w2 by first | exact hb2 | exact und hb2)))
          | (go_at_call 17; (first | (with_reducible refine (copy_any _ _ _ hE1 hls).mono ?_) | (with_reducible refine (copy_any _ _ _ hE1.drew hls).mono ?_) | (with_reducible refine (copy_any _ _ _ hE0 hls).mono ?_) | (with_reducible refine (copy_any _ _ _ hE0.drew hls).mono ?_) | (with_reducible refine (copy_any _ _ _ hE2 hls).mono ?_) | (with_reducible refine (copy_any _ _ _ hE2.drew hls).mono ?_) | (with_reducible refine (copy_any _ _ _ hE3 hls).mono ?_) | (with_reducible refine (copy_any _ _ _ hE3.drew hls).mono ?_)); rintro e w3 ⟨v3, rfl, ho3, hb3⟩; have rS := rd_of_own ho3; (try have hP2 := hP1.below (show Below w1.heap.size w1 w3 by first | exact hb3 | exact und hb3))))
      all_goals
        go_wp2_with fail
        go_ret3
        first
          | (have hbP : Below w1.heap.size w1 w2 := by first | exact hb2 | exact und hb2
             have hbS : Below w2.heap.size w2 w3 := by first | exact hb3 | exact und hb3
             exact ⟨_, _, rfl, rP.below hbS, rS, (hB.trans (hbP.mono hB.size)).trans (hbS.mono (Nat.le_trans hB.size hbP.size))⟩)
          | (have hbS : Below w1.heap.size w1 w3 := by first | exact hb3 | exact und hb3
             have hbP : Below w3.heap.size w3 w2 := by first | exact hb2 | exact und hb2
             exact ⟨_, _, rfl, rP, rS.below hbP, (hB.trans (hbS.mono hB.size)).trans (hbP.mono (Nat.le_trans hB.size hbS.size))⟩)
    · have hck' : (k : Int) < (cap : Int) := by omega
      have hck5 : (k : Int) ≤ (cap : Int) := by omega
      have hck6 : k ≤ cap := by omega
      clear ho hr1
      go_wp2_with fail
      go_region_held3 (fun _ => True) (trivial)
        (first
          | (go_at_call 17; (first | (with_reducible refine (copy_any _ _ _ hP1 hlp).mono ?_) | (with_reducible refine (copy_any _ _ _ hP1.drew hlp).mono ?_) | (with_reducible refine (copy_any _ _ _ hP2 hlp).mono ?_) | (with_reducible refine (copy_any _ _ _ hP2.drew hlp).mono ?_)); rintro e w2 ⟨v2, rfl, ho2, hb2⟩; have rP := rd_of_own ho2; (try have hS2 := hS1.below (show Below w1.heap.size w1 w2 by first | exact hb2 | exact und hb2)))
          | (go_at_call 17; (first | (with_reducible refine (copy_any _ _ _ hS1 hls).mono ?_) | (with_reducible refine (copy_any _ _ _ hS1.drew hls).mono ?_) | (with_reducible refine (copy_any _ _ _ hS2 hls).mono ?_) | (with_reducible refine (copy_any _ _ _ hS2.drew hls).mono ?_)); rintro e w3 ⟨v3, rfl, ho3, hb3⟩; have rS := rd_of_own ho3; (try have hP2 := hP1.below (show Below w1.heap.size w1 w3 by first | exact hb3 | exact und hb3))))
      all_goals
        go_wp2_with fail
        go_ret3
        first
          | (have hbP : Below w1.heap.size w1 w2 := by first | exact hb2 | exact und hb2
             have hbS : Below w2.heap.size w2 w3 := by first | exact hb3 | exact und hb3
             exact ⟨_, _, rfl, rP.below hbS, rS, (hB.trans (hbP.mono hB.size)).trans (hbS.mono (Nat.le_trans hB.size hbP.size))⟩)
          | (have hbS : Below w1.heap.size w1 w3 := by first | exact hb3 | exact und hb3
             have hbP : Below w3.heap.size w3 w2 := by first | exact hb2 | exact und hb2
             exact ⟨_, _, rfl, rP, rS.below hbP, (hB.trans (hbS.mono hB.size)).trans (hbP.mono (Nat.le_trans hB.size hbS.size))⟩)

theorem rtext_all (v : Value) (l : List Int) (most : Int) (w : World) (h : Rd w .u8 v l) (hk : BytesOk l) (hl : l.length ≤ 1099511627776) (hm2 : most ≤ 9223372036854775807) :
    Calls Tryd.prog 38 #[v, .int .i64 most] w fun e w' => ∃ v1 v2, e = .returned (.tuple #[v1, v2, .int .i64 (vtext l most).2.2]) ∧ Rd w' .u8 v1 (vtext l most).1 ∧ Rd w' .u8 v2 (vtext l most).2.1 ∧ Below w.heap.size w w' := by
  rcases ht : vtake l with _ | ⟨n, rest⟩
  · rw [vtext_none most ht]
    exact (rtext_none v l most w h hk ht).mono fun e w' ⟨he, hB⟩ => ⟨_, _, he, Rd.nil _ _, Rd.nil _ _, hB⟩
  · have hn := (vtake_some hk ht).1
    rw [vtext_some most ht]
    by_cases h1 : most < 0 ∨ most < n
    · rw [if_pos h1]
      exact (rtext_long v l rest n most w h hk hl hm2 ht h1).mono fun e w' ⟨he, hB⟩ => ⟨_, _, he, Rd.nil _ _, Rd.nil _ _, hB⟩
    · rw [if_neg h1]
      by_cases h2 : (rest.length : Int) < n
      · rw [if_pos h2]
        exact (rtext_short v l rest n most w h hk hl hm2 ht (by omega) (by omega) h2).mono fun e w' ⟨he, hB⟩ => ⟨_, _, he, Rd.nil _ _, Rd.nil _ _, hB⟩
      · rw [if_neg h2]
        obtain ⟨k, rfl⟩ := Int.eq_ofNat_of_zero_le hn
        exact rtext_yes v l rest k most w h hk hl hm2 ht (by omega) (by omega)

end Go.Proofs.YtjijmbpgfabgcaaDoor
namespace Go.Proofs.YtjijmbpgfabgcaaDoor
open Go.RowKit
set_option linter.unusedVariables false
set_option linter.unusedSimpArgs false




set_option maxHeartbeats 2000000 in
set_option maxRecDepth 100000 in
theorem text_yesT (v : Value) (l rest : List Int) (k : Nat) (most : Int) (w : World) (h : Rd w .u8 v l) (hk : BytesOk l) (hl : l.length ≤ 1099511627776) (hm2 : most ≤ 9223372036854775807) (ht : vtake l = some ((k : Int), rest)) (hm : (k : Int) ≤ most) (hs : k ≤ rest.length) :
    Calls Tryd.prog 58 #[v, .int .i64 most] w fun e w' => ∃ v1 v2, e = .returned (.tuple #[v1, v2, .int .i64 0]) ∧ RdT w' v1 (rest.take k) ∧ RdT w' v2 (rest.drop k) ∧ Below w.heap.size w w' := by
  have hrl : rest.length ≤ 1099511627776 := by obtain ⟨_, _, x, r, rfl, _, rfl, _⟩ := vtake_some hk ht; simp at hl ⊢; omega
  have HT := Lib.hid ht
  clear ht
  have d0 : decide (most < 0) = false := by simp; omega
  have d1 : decide (most < (k : Int)) = false := by simp; omega
  have d2 : decide (rest.length < k) = false := by simp; omega
  have d3 : (0 : Int) ≤ (k : Int) := by omega
  have d4 : (k : Int) ≤ (rest.length : Int) := by omega
  go_enter Tryd.func58, Tryd.ntmps58
  go_wp2_with fail
  refine (take_some v l k rest _ h hk hl HT.out).mono ?_
  rintro e w1 ⟨v', rfl, ho, hB⟩
  have hr1 := rd_of_own ho
  rcases ho.2 with ⟨rfl, h0⟩ | ⟨g, cap, cur, rfl, _, _, hnc, hcm, _, _⟩
  · have hr0 : rest = [] := List.eq_nil_of_length_eq_zero h0
    subst hr0
    obtain rfl : k = 0 := by simpa using hs
    have hA1 := Rd.nil w1 .u8
    clear ho hr1
    go_wp2_with fail
    go_region_held3 (fun _ => True) (trivial)
      (first
        | (go_at_call 36; (first | (with_reducible refine (clone_any _ _ _ hA2 (by simp)).mono ?_) | (with_reducible refine (clone_any _ _ _ hA2.drew (by simp)).mono ?_)); rintro e w3 ⟨v3, rfl, ho3, hb3⟩; have hb3 : Below w2.heap.size w2 w3 := (by first | exact hb3 | exact und hb3))
        | (go_at_call 36; (first | (with_reducible refine (clone_any _ _ _ hA1 (by simp)).mono ?_) | (with_reducible refine (clone_any _ _ _ hA1.drew (by simp)).mono ?_)); rintro e w2 ⟨v2, rfl, ho2, hb2⟩; have hb2 : Below w1.heap.size w1 w2 := (by first | exact hb2 | exact und hb2); have hA2 := Rd.nil w2 .u8))
    all_goals
      go_wp2_with fail
      go_ret3
      exact ⟨_, _, rfl, by first | exact (rdt_of_own (l := []) ho2).below hb3 | exact rdt_of_own (l := []) ho3, by first | exact rdt_of_own (l := []) ho3 | exact (rdt_of_own (l := []) ho2).below hb3, (hB.trans (hb2.mono hB.size)).trans (hb3.mono (by have := hB.size; have := hb2.size; simp at *; omega))⟩
  · have hcm' : cap ≤ 9223372036854775807 := by unfold maxLen at hcm; omega
    have hP1 := hr1.pre hs
    have hlp : (rest.take k).length ≤ 1099511627776 := by simp; omega
    have hls : (rest.drop k).length ≤ 1099511627776 := by simp; omega
    have hS1 := hr1.suf hs
    rw [Nat.zero_add] at hS1
    by_cases hck : cap = k
    · have hkl : k = rest.length := by omega
      have hdr : rest.drop k = [] := by rw [hkl]; simp
      have hE0 : Rd w1 .u8 (.slice (some ⟨g, 0, none⟩) 0 0) (rest.drop k) := by rw [hdr]; exact Rd.emp w1 .u8 _ 0 (by decide)
      have hE1 : Rd w1 .u8 (.slice (some ⟨g, 0, none⟩) (rest.length - k) 0) (rest.drop k) := by rw [show rest.length - k = 0 by omega]; exact hE0
      subst hck
      have HK := Lib.hid hkl
      clear ho hr1 hkl hS1 hdr
      have hck5 : (cap : Int) ≤ (cap : Int) := Int.le_refl _
      go_wp2_with fail
      go_region_held3 (fun _ => True) (trivial)
        (first
          | (go_at_call 36; (first | (with_reducible refine (clone_any _ _ _ hP1 hlp).mono ?_) | (with_reducible refine (clone_any _ _ _ hP1.drew hlp).mono ?_) | (with_reducible refine (clone_any _ _ _ hP2 hlp).mono ?_) | (with_reducible refine (clone_any _ _ _ hP2.drew hlp).mono ?_)); rintro e w2 ⟨v2, rfl, ho2, hb2⟩; have rP := rdt_of_own ho2; (try have hE2 := hE1.below (show Below w1.heap.size w1 w2 by first | exact hb2 | exact und hb2)); (try have hE3 := hE0.below (show Below w1.heap.size w1 w2 by first | exact hb2 | exact und hb2)))
          | (go_at_call 36; (first | (with_reducible refine (clone_any _ _ _ hE1 hls).mono ?_) | (with_reducible refine (clone_any _ _ _ hE1.drew hls).mono ?_) | (with_reducible refine (clone_any _ _ _ hE0 hls).mono ?_) | (with_reducible refine (clone_any _ _ _ hE0.drew hls).mono ?_) | (with_reducible refine (clone_any _ _ _ hE2 hls).mono ?_) | (with_reducible refine (clone_any _ _ _ hE2.drew hls).mono ?_) | (with_reducible refine (clone_any _ _ _ hE3 hls).mono ?_) | (with_reducible refine (clone_any _ _ _ hE3.drew hls).mono ?_)); rintro e w3 ⟨v3, rfl, ho3, hb3⟩; have rS := rdt_of_own ho3; (try have hP2 := hP1.below (show Below w1.heap.size w1 w3 by first | exact hb3 | exact und hb3))))
      all_goals
        go_wp2_with fail
        go_ret3
        first
          | (have hbP : Below w1.heap.size w1 w2 := by first | exact hb2 | exact und hb2
             have hbS : Below w2.heap.size w2 w3 := by first | exact hb3 | exact und hb3
             exact ⟨_, _, rfl, rP.below hbS, rS, (hB.trans (hbP.mono hB.size)).trans (hbS.mono (Nat.le_trans hB.size hbP.size))⟩)
          | (have hbS : Below w1.heap.size w1 w3 := by first | exact hb3 | exact und hb3
             have hbP : Below w3.heap.size w3 w2 := by first | exact hb2 | exact und hb2
             exact ⟨_, _, rfl, rP, rS.below hbP, (hB.trans (hbS.mono hB.size)).trans (hbP.mono (Nat.le_trans hB.size hbS.size))⟩)
    · have hck' : (k : Int) < (cap : Int) := by omega
      have hck5 : (k : Int) ≤ (cap : Int) := by omega
      have hck6 : k ≤ cap := by omega
      clear ho hr1
      go_wp2_with fail
      go_region_held3 (fun _ => True) (trivial)
        (first
          | (go_at_call 36; (first | (with_reducible refine (clone_any _ _ _ hP1 hlp).mono ?_) | (with_reducible refine (clone_any _ _ _ hP1.drew hlp).mono ?_) | (with_reducible refine (clone_any _ _ _ hP2 hlp).mono ?_) | (with_reducible refine (clone_any _ _ _ hP2.drew hlp).mono ?_)); rintro e w2 ⟨v2, rfl, ho2, hb2⟩; have rP := rdt_of_own ho2; (try have hS2 := hS1.below (show Below w1.heap.size w1 w2 by first | exact hb2 | exact und hb2)))
          | (go_at_call 36; (first | (with_reducible refine (clone_any _ _ _ hS1 hls).mono ?_) | (with_reducible refine (clone_any _ _ _ hS1.drew hls).mono ?_) | (with_reducible refine (clone_any _ _ _ hS2 hls).mono ?_) | (with_reducible refine (clone_any _ _ _ hS2.drew hls).mono ?_)); rintro e w3 ⟨v3, rfl, ho3, hb3⟩; have rS := rdt_of_own ho3; (try have hP2 := hP1.below (show Below w1.heap.size w1 w3 by first | exact hb3 | exact und hb3))))
      all_goals
        go_wp2_with fail
        go_ret3
        first
          | (have hbP : Below w1.heap.size w1 w2 := by first | exact hb2 | exact und hb2
             have hbS : Below w2.heap.size w2 w3 := by first | exact hb3 | exact und hb3
             exact ⟨_, _, rfl, rP.below hbS, rS, (hB.trans (hbP.mono hB.size)).trans (hbS.mono (Nat.le_trans hB.size hbP.size))⟩)
          | (have hbS : Below w1.heap.size w1 w3 := by first | exact hb3 | exact und hb3
             have hbP : Below w3.heap.size w3 w2 := by first | exact hb2 | exact und hb2
             exact ⟨_, _, rfl, rP, rS.below hbP, (hB.trans (hbS.mono hB.size)).trans (hbP.mono (Nat.le_trans hB.size hbS.size))⟩)

theorem text_allT (v : Value) (l : List Int) (most : Int) (w : World) (h : Rd w .u8 v l) (hk : BytesOk l) (hl : l.length ≤ 1099511627776) (hm2 : most ≤ 9223372036854775807) :
    Calls Tryd.prog 58 #[v, .int .i64 most] w fun e w' => ∃ v1 v2, e = .returned (.tuple #[v1, v2, .int .i64 (vtext l most).2.2]) ∧ RdT w' v1 (vtext l most).1 ∧ RdT w' v2 (vtext l most).2.1 ∧ Below w.heap.size w w' := by
  rcases ht : vtake l with _ | ⟨n, rest⟩
  · rw [vtext_none most ht]
    exact (text_none v l most w h hk ht).mono fun e w' ⟨he, hB⟩ => ⟨_, _, he, RdT.nil _, RdT.nil _, hB⟩
  · have hn := (vtake_some hk ht).1
    rw [vtext_some most ht]
    by_cases h1 : most < 0 ∨ most < n
    · rw [if_pos h1]
      exact (text_long v l rest n most w h hk hl hm2 ht h1).mono fun e w' ⟨he, hB⟩ => ⟨_, _, he, RdT.nil _, RdT.nil _, hB⟩
    · rw [if_neg h1]
      by_cases h2 : (rest.length : Int) < n
      · rw [if_pos h2]
        exact (text_short v l rest n most w h hk hl hm2 ht (by omega) (by omega) h2).mono fun e w' ⟨he, hB⟩ => ⟨_, _, he, RdT.nil _, RdT.nil _, hB⟩
      · rw [if_neg h2]
        obtain ⟨k, rfl⟩ := Int.eq_ofNat_of_zero_le hn
        exact text_yesT v l rest k most w h hk hl hm2 ht (by omega) (by omega)


end Go.Proofs.YtjijmbpgfabgcaaDoor
