/-
  Package vint whole: what its functions answer, in plain numbers and lists.
-/
import Derived.Test.YtbigbnfllkacoaaDoorVtake
import Derived.Test.YtbigbnfllkacoaaDoorFnum
namespace Go.Proofs.YtbigbnfllkacoaaDoor
open Go.RowKit
set_option linter.unusedVariables false
set_option linter.unusedSimpArgs false


/-- The number in front, and what stands behind. -/
def vtake : List Int → Option (Int × List Int)
  | [] => none
  | x :: r => if (x :: r).length < vw x then none else some (vval (x :: r) (vw x), (x :: r).drop (vw x))

theorem vtake_nil : vtake [] = none := rfl
theorem vtake_cons (x : Int) (r : List Int) : vtake (x :: r) = if r.length + 1 < vw x then none else some (vval (x :: r) (vw x), (x :: r).drop (vw x)) := rfl

theorem fold_bound (r : List Int) (hr : BytesOk r) (a : Int) (h0 : 0 ≤ a) (B : Int) (h1 : a < B) : 0 ≤ r.foldl (fun a b => a * 256 + b) a ∧ r.foldl (fun a b => a * 256 + b) a < B * 256 ^ r.length := by
  induction r generalizing a B with
  | nil => simpa using ⟨h0, h1⟩
  | cons x r ih =>
    have hx := hr x (by simp)
    have := ih (fun y hy => hr y (by simp [hy])) (a * 256 + x) (by omega) (B * 256) (by omega)
    simp only [List.foldl_cons, List.length_cons]
    rw [Int.pow_succ, Int.mul_comm (256 ^ r.length) 256, ← Int.mul_assoc]
    exact this

theorem vtake_some {l : List Int} (hk : BytesOk l) {n : Int} {rest : List Int} (h : vtake l = some (n, rest)) :
    0 ≤ n ∧ n < 4611686018427387904 ∧ ∃ x r, l = x :: r ∧ vw x ≤ l.length ∧ rest = l.drop (vw x) ∧ n = vval l (vw x) := by
  cases l with
  | nil => simp [vtake] at h
  | cons x r =>
    rw [vtake_cons] at h
    by_cases hc : r.length + 1 < vw x
    · rw [if_pos hc] at h; cases h
    · rw [if_neg hc] at h
      simp only [Option.some.injEq, Prod.mk.injEq] at h
      have hb := hk x (by simp)
      have hlen : (((x :: r).take (vw x)).drop 1).length = vw x - 1 := by simp; omega
      have hf := fold_bound (((x :: r).take (vw x)).drop 1) ((hk.take _).drop _) (x % 64) (by omega) 64 (by omega)
      rw [hlen] at hf
      have hv : vval (x :: r) (vw x) = (((x :: r).take (vw x)).drop 1).foldl (fun a b => a * 256 + b) (x % 64) := rfl
      rw [← hv, h.1] at hf
      refine ⟨hf.1, ?_, x, r, rfl, by simp; omega, h.2.symm, h.1.symm⟩
      rcases vw_cases x hb.1 hb.2 with ⟨_, e⟩ | ⟨_, e⟩ | ⟨_, e⟩ | ⟨_, e⟩ <;> rw [e] at hf <;> simp at hf <;> omega

theorem vtake_form (n : Int) (s : Nat) (rest : List Int) (h0 : 0 ≤ n) (hs : s = 1 ∨ s = 2 ∨ s = 4 ∨ s = 8) (h : vsz n ≠ 0) (h' : vsz n ≤ s) : vtake (vform n s ++ rest) = some (n, rest) := by
  have key : ∀ x r, vform n s = x :: r → vw x = s → vval (x :: r ++ rest) s = n → vtake (vform n s ++ rest) = some (n, rest) := fun x r e hw hv => by
    have hl : r.length + 1 = s := by have := vform_len n s hs; rw [e] at this; simpa using this
    rw [e, List.cons_append, vtake_cons, hw, if_neg (by simp; omega)]
    rw [List.cons_append] at hv
    rw [hv]
    have : (x :: (r ++ rest)).drop s = rest := by
      have h2 : x :: (r ++ rest) = (x :: r) ++ rest := rfl
      rw [h2, List.drop_left' (by simpa using hl)]
    rw [this]
  rcases vsz_fits n s hs h h' with ⟨rfl, hn⟩ | ⟨rfl, hn⟩ | ⟨rfl, hn⟩ | ⟨rfl, hn⟩
  · refine key _ _ (vform1 n) ?_ ?_
    · rcases vw_cases n h0 (by omega) with ⟨_, e⟩ | ⟨_, e⟩ | ⟨_, e⟩ | ⟨_, e⟩ <;> omega
    · simp [vval]; omega
  · refine key _ _ (vform2 n) ?_ ?_
    · rcases vw_cases (n / 256 + 64) (by omega) (by omega) with ⟨_, e⟩ | ⟨_, e⟩ | ⟨_, e⟩ | ⟨_, e⟩ <;> omega
    · simp [vval]; omega
  · refine key _ _ (vform4 n) ?_ ?_
    · rcases vw_cases (n / 16777216 + 128) (by omega) (by omega) with ⟨_, e⟩ | ⟨_, e⟩ | ⟨_, e⟩ | ⟨_, e⟩ <;> omega
    · simp [vval]; omega
  · refine key _ _ (vform8 n) ?_ ?_
    · rcases vw_cases (n / 72057594037927936 + 192) (by omega) (by omega) with ⟨_, e⟩ | ⟨_, e⟩ | ⟨_, e⟩ | ⟨_, e⟩ <;> omega
    · simp [vval]; omega

theorem uncons {l : List Int} {k : Nat} (h : k + 1 ≤ l.length) : ∃ x r, l = x :: r ∧ k ≤ r.length := by
  cases l with
  | nil => simp at h
  | cons x r => exact ⟨x, r, rfl, by simpa using h⟩




theorem take_none (v : Value) (l : List Int) (w : World) (h : Rd w .u8 v l) (hk : BytesOk l) (ht : vtake l = none) :
    Calls Tryd.prog 44 #[v] w fun e w' => e = .returned (.tuple #[.int .u64 0, .slice none 0 0, .int .i64 2]) ∧ Below w.heap.size w w' := by
  cases l with
  | nil => exact (take_nil v w h).mono fun e w' ⟨he, hw⟩ => ⟨he, by rw [← hw]; exact Below.refl _ _⟩
  | cons x r =>
    rw [vtake_cons] at ht
    have hc : r.length + 1 < vw x := by
      by_cases hc : r.length + 1 < vw x
      · exact hc
      · rw [if_neg hc] at ht; cases ht
    have hb := hk x (by simp)
    rcases vw_cases x hb.1 hb.2 with ⟨hd, e⟩ | ⟨hd, e⟩ | ⟨hd, e⟩ | ⟨hd, e⟩ <;> rw [e] at hc
    · omega
    · exact take_short2 v x r w h hb.1 hb.2 hd hc
    · exact take_short4 v x r w h hb.1 hb.2 hd hc
    · exact take_short8 v x r w h hb.1 hb.2 hd hc
theorem take_some (v : Value) (l : List Int) (n : Int) (rest : List Int) (w : World) (h : Rd w .u8 v l) (hk : BytesOk l) (hl : l.length ≤ 1099511627776) (ht : vtake l = some (n, rest)) :
    Calls Tryd.prog 44 #[v] w fun e w' => ∃ v', e = .returned (.tuple #[.int .u64 n, v', .int .i64 0]) ∧ w'.ownsRow w.heap.size 5 1 v' rest.length (rest.map (Value.int .u8)) ∧ Below w.heap.size w w' := by
  obtain ⟨_, _, x0, r, rfl, hw, rfl, rfl⟩ := vtake_some hk ht
  have hb := hk x0 (by simp)
  rcases vw_cases x0 hb.1 hb.2 with ⟨hd, e⟩ | ⟨hd, e⟩ | ⟨hd, e⟩ | ⟨hd, e⟩ <;> rw [e] at hw ⊢ <;> simp only [List.length_cons] at hw hl
  · exact (take_yes1 v x0 r w h hk hd (by simp at hl; omega)).mono fun e w' he => by simpa [vval] using he
  · obtain ⟨x1, r, rfl, hw1⟩ := uncons (k := 0) (l := r) (by omega)
    exact (take_yes2 v x0 x1 r w h hk hd (by simp at hl; omega)).mono fun e w' he => by simpa [vval] using he
  · obtain ⟨x1, r, rfl, hw1⟩ := uncons (k := 2) (l := r) (by omega)
    obtain ⟨x2, r, rfl, hw2⟩ := uncons (k := 1) (l := r) (by omega)
    obtain ⟨x3, r, rfl, hw3⟩ := uncons (k := 0) (l := r) (by omega)
    exact (take_yes4 v x0 x1 x2 x3 r w h hk hd (by simp at hl; omega)).mono fun e w' he => by simpa [vval] using he
  · obtain ⟨x1, r, rfl, hw1⟩ := uncons (k := 6) (l := r) (by omega)
    obtain ⟨x2, r, rfl, hw2⟩ := uncons (k := 5) (l := r) (by omega)
    obtain ⟨x3, r, rfl, hw3⟩ := uncons (k := 4) (l := r) (by omega)
    obtain ⟨x4, r, rfl, hw4⟩ := uncons (k := 3) (l := r) (by omega)
    obtain ⟨x5, r, rfl, hw5⟩ := uncons (k := 2) (l := r) (by omega)
    obtain ⟨x6, r, rfl, hw6⟩ := uncons (k := 1) (l := r) (by omega)
    obtain ⟨x7, r, rfl, hw7⟩ := uncons (k := 0) (l := r) (by omega)
    exact (take_yes8 v x0 x1 x2 x3 x4 x5 x6 x7 r w h hk hd (by simp at hl; omega)).mono fun e w' he => by simpa [vval] using he

theorem least_any (v : Value) (l : List Int) (n : Int) (rest : List Int) (b : Bool) (w : World) (h : Rd w .u8 v l) (hk : BytesOk l) (hl : l.length ≤ 1099511627776) (ht : vtake l = some (n, rest)) (hb : b = decide (l.length = rest.length + vsz n)) :
    Calls Tryd.prog 36 #[v] w fun e w' => e = .returned (.bool b) ∧ Below w.heap.size w w' := by
  obtain ⟨h0, h1, x0, r, hx, hw, hr, hv⟩ := vtake_some hk ht
  have hle : rest.length ≤ l.length := by rw [hr]; simp
  clear hx hw hr hv
  obtain ⟨A, cap, rfl⟩ := h.form
  have HH := Lib.hid h
  clear h
  have hq : (((l.length : Int) - (rest.length : Int)) == (vsz n : Int)) = b := by
    rw [hb]
    by_cases hc : l.length = rest.length + vsz n
    · simp [hc]; omega
    · simp [hc]; omega
  have Hb := Lib.hid hb
  have Ht := Lib.hid ht
  clear hb ht
  go_enter Tryd.func36, Tryd.ntmps36
  go_wp2_with fail
  refine (take_some _ l n rest _ HH.out hk hl Ht.out).mono ?_
  rintro e w' ⟨v', rfl, ho, hB⟩
  obtain ⟨A', cap', rfl⟩ := (rd_of_own ho).form
  go_wp2_with fail
  refine (size_any n _ h0 (by omega)).mono ?_
  rintro e w2 ⟨rfl, rfl⟩
  go_wp2_with fail
  go_ret
  exact ⟨by simp, hB⟩

end Go.Proofs.YtbigbnfllkacoaaDoor
