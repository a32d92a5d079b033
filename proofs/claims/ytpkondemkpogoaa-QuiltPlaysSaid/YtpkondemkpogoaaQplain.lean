/-
  Pieces of a stream, plain: a piece laid among others that do not overlap; what is ready; what is taken. No condition.
-/
import Derived.Lib.Hide
namespace Go.Proofs.Ytpkondemkpogoaa
set_option linter.unusedVariables false
set_option linter.unusedSimpArgs false

/-- A piece: where it begins, its bytes. -/
abbrev Pat := Int × List Int
def pe (x : Pat) : Int := x.1 + x.2.length
def avn (x y : Pat) : Nat := min (max (pe y) x.1 - x.1).toNat x.2.length
def adv (x y : Pat) : Pat := (x.1 + avn x y, x.2.drop (avn x y))
def lst (x : Pat) : List Pat := if x.2 = [] then [] else [x]
def hd1 (x y : Pat) : List Pat := if x.1 < y.1 then [(x.1, x.2.take (y.1 - x.1).toNat)] else []
/-- What a piece adds. -/
def cutP (x : Pat) : List Pat → List Pat
  | [] => lst x
  | y :: T => if pe x ≤ y.1 then lst x else hd1 x y ++ cutP (adv x y) T
/-- All, with it. -/
def putL (x : Pat) : List Pat → List Pat
  | [] => lst x
  | y :: T => if pe x ≤ y.1 then lst x ++ y :: T else hd1 x y ++ y :: putL (adv x y) T
theorem put_perm (x : Pat) (L : List Pat) : (putL x L).Perm (L ++ cutP x L) := by
  induction L generalizing x with
  | nil => exact List.Perm.refl _
  | cons y T ih =>
    unfold putL cutP
    split
    · exact List.perm_append_comm
    · refine List.perm_middle.trans ?_
      refine (List.Perm.cons y ((ih (adv x y)).append_left (hd1 x y))).trans ?_
      rw [List.cons_append]
      exact List.Perm.cons y (List.perm_append_comm_assoc _ _ _)
/-- Rising from b on, no two overlap, none is empty. -/
def Ch (b : Int) : List Pat → Prop
  | [] => True
  | x :: T => b ≤ x.1 ∧ x.2 ≠ [] ∧ Ch (pe x) T
theorem Ch.mono {b c : Int} {L : List Pat} (h : Ch b L) (hc : c ≤ b) : Ch c L := by
  cases L with
  | nil => trivial
  | cons x T => exact ⟨Int.le_trans hc h.1, h.2⟩
theorem len_pos {x : Pat} (h : x.2 ≠ []) : 0 < x.2.length := by have := mt List.eq_nil_of_length_eq_zero h; omega
theorem put_empty {x : Pat} (h : x.2 = []) (L : List Pat) : putL x L = L ∧ cutP x L = [] := by
  have hl : lst x = [] := by unfold lst; rw [if_pos h]
  induction L generalizing x with
  | nil => exact ⟨hl, hl⟩
  | cons y T ih =>
    unfold putL cutP
    have hp : pe x = x.1 := by unfold pe; rw [h]; simp
    split
    · exact ⟨by rw [hl]; rfl, hl⟩
    · rename_i hn
      have h1 : hd1 x y = [] := by unfold hd1; rw [if_neg (by omega)]
      have ha : (adv x y).2 = [] := by unfold adv; simp [h]
      have := ih ha (by unfold lst; rw [if_pos ha])
      rw [h1, this.1, this.2]
      exact ⟨rfl, rfl⟩
theorem adv_ge {x y : Pat} (h : (adv x y).2 ≠ []) : pe y ≤ (adv x y).1 := by
  unfold adv avn at h ⊢
  simp only [ne_eq, List.drop_eq_nil_iff] at h ⊢
  omega
theorem adv_pe (x y : Pat) : pe (adv x y) = pe x := by
  unfold pe adv avn
  simp only [List.length_drop]
  omega
theorem put_ch {b : Int} {L : List Pat} (h : Ch b L) {x : Pat} (hx : b ≤ x.1) : Ch b (putL x L) := by
  induction L generalizing b x with
  | nil =>
    unfold putL lst
    split
    · trivial
    · next he => exact ⟨hx, he, trivial⟩
  | cons y T ih =>
    obtain ⟨h1, h2, h3⟩ := h
    unfold putL
    split
    · next hp =>
      unfold lst
      split
      · exact ⟨h1, h2, h3⟩
      · next he => exact ⟨hx, he, hp, h2, h3⟩
    · next hp =>
      have key : Ch (pe y) (putL (adv x y) T) := by
        by_cases he : (adv x y).2 = []
        · rw [(put_empty he T).1]
          exact h3
        · exact ih h3 (adv_ge he)
      unfold hd1
      split
      · next hlt =>
        have hpe : pe x = x.1 + x.2.length := rfl
        refine ⟨hx, ?_, ?_, h2, key⟩
        · simp only [ne_eq, List.take_eq_nil_iff, not_or]
          refine ⟨by omega, ?_⟩
          rintro e
          rw [e] at hpe
          simp at hpe
          omega
        · unfold pe
          simp only [List.length_take]
          omega
      · exact ⟨h1, h2, key⟩
/-- The places rise strictly. -/
theorem Ch.up {b : Int} {L : List Pat} (h : Ch b L) : (∀ x ∈ L, b ≤ x.1) ∧ L.Pairwise (fun x y => x.1 < y.1) := by
  induction L generalizing b with
  | nil => exact ⟨fun x hx => by simp at hx, List.Pairwise.nil⟩
  | cons x T ih =>
    obtain ⟨h1, h2, h3⟩ := h
    obtain ⟨k1, k2⟩ := ih h3
    have hl := len_pos h2
    have hpe : pe x = x.1 + x.2.length := rfl
    refine ⟨fun z hz => ?_, List.Pairwise.cons (fun z hz => ?_) k2⟩
    · rcases List.mem_cons.1 hz with rfl | hz
      · exact h1
      · have := k1 z hz; omega
    · have := k1 z hz; omega
/-- Of a list whose places rise strictly there is but one order. -/
theorem one_order {L K : List Pat} (h : L.Pairwise (fun x y => x.1 < y.1)) (k : K.Pairwise (fun x y => ¬ y.1 < x.1)) (p : K.Perm L) : K = L := by
  induction L generalizing K with
  | nil => exact List.Perm.eq_nil p
  | cons x T ih =>
    cases K with
    | nil => exact absurd p.length_eq (by simp)
    | cons z K =>
      rw [List.pairwise_cons] at h k
      have e : z = x := by
        rcases List.mem_cons.1 (p.mem_iff.1 (List.mem_cons_self (a := z) (l := K))) with rfl | hz
        · rfl
        · rcases List.mem_cons.1 (p.mem_iff.2 (List.mem_cons_self (a := x) (l := T))) with rfl | hx
          · rfl
          · exact absurd (h.1 z hz) (k.1 x hx)
      subst e
      rw [ih h.2 k.2 (List.Perm.cons_inv p)]

/-! What lies at a place. -/
def ctn : List Pat → Int → Option Int
  | [], _ => none
  | x :: T, n => if x.1 ≤ n ∧ n < pe x then some (x.2.getD (n - x.1).toNat 0) else ctn T n
theorem ctn_low {b : Int} {L : List Pat} (h : Ch b L) {n : Int} (hn : n < b) : ctn L n = none := by
  induction L generalizing b with
  | nil => rfl
  | cons x T ih =>
    obtain ⟨h1, h2, h3⟩ := h
    have hpe : pe x = x.1 + x.2.length := rfl
    unfold ctn
    rw [if_neg (by omega)]
    exact ih h3 (by omega)
theorem ctn_app (A B : List Pat) (n : Int) : ctn (A ++ B) n = (ctn A n).or (ctn B n) := by
  induction A with
  | nil => simp [ctn]
  | cons x T ih =>
    rw [List.cons_append]
    have e : ∀ K, ctn (x :: K) n = if x.1 ≤ n ∧ n < pe x then some (x.2.getD (n - x.1).toNat 0) else ctn K n := fun K => rfl
    rw [e, e, ih]
    split
    · rfl
    · rfl
theorem ctn_lst (x : Pat) (n : Int) : ctn (lst x) n = if x.1 ≤ n ∧ n < pe x then some (x.2.getD (n - x.1).toNat 0) else none := by
  unfold lst
  split
  · next h =>
    have hpe : pe x = x.1 := by unfold pe; rw [h]; simp
    rw [if_neg (by omega)]
    rfl
  · rfl
theorem ctn_hd1 (x y : Pat) (h : y.1 < pe x) (n : Int) : ctn (hd1 x y) n = if x.1 ≤ n ∧ n < y.1 then some (x.2.getD (n - x.1).toNat 0) else none := by
  have hpe : pe x = x.1 + x.2.length := rfl
  unfold hd1
  split
  · next hlt =>
    unfold ctn
    have e : pe (x.1, x.2.take (y.1 - x.1).toNat) = y.1 := by unfold pe; simp only [List.length_take]; omega
    rw [e]
    simp only
    split
    · next hc =>
      congr 1
      simp only [List.getD, List.getElem?_take]
      rw [if_pos (by omega)]
    · rfl
  · next hlt =>
    rw [if_neg (by omega)]
    rfl
theorem getD_drop (l : List Int) (k i : Nat) : (l.drop k).getD i 0 = l.getD (k + i) 0 := by simp [List.getD, List.getElem?_drop]
theorem adv_at (x y : Pat) (n : Int) : (if (adv x y).1 ≤ n ∧ n < pe (adv x y) then some ((adv x y).2.getD (n - (adv x y).1).toNat 0) else none) = if (adv x y).1 ≤ n ∧ n < pe x then some (x.2.getD (n - x.1).toNat 0) else none := by
  rw [adv_pe]
  split
  · next h =>
    unfold adv at h ⊢
    simp only at h ⊢
    rw [getD_drop]
    congr 2
    omega
  · rfl
/-- What is there stays; a piece fills what is not there. -/
theorem put_ctn {b : Int} {L : List Pat} (h : Ch b L) (x : Pat) (n : Int) : ctn (putL x L) n = (ctn L n).or (if x.1 ≤ n ∧ n < pe x then some (x.2.getD (n - x.1).toNat 0) else none) := by
  induction L generalizing b x with
  | nil => unfold putL; rw [ctn_lst]; rfl
  | cons y T ih =>
    obtain ⟨h1, h2, h3⟩ := h
    have hpy : pe y = y.1 + y.2.length := rfl
    have hpe : pe x = x.1 + x.2.length := rfl
    have hl := len_pos h2
    unfold putL
    split
    · next hp =>
      rw [ctn_app, ctn_lst]
      split
      · next hc =>
        rw [ctn_low (b := y.1) (L := y :: T) ⟨Int.le_refl _, h2, h3⟩ (by omega)]
        rfl
      · simp
    · next hp =>
      rw [ctn_app, ctn_hd1 x y (by omega)]
      have e : ∀ K, ctn (y :: K) n = if y.1 ≤ n ∧ n < pe y then some (y.2.getD (n - y.1).toNat 0) else ctn K n := fun K => rfl
      rw [e, e, ih h3 (adv x y), adv_at]
      by_cases c1 : x.1 ≤ n ∧ n < y.1
      · have cy : ¬ (y.1 ≤ n ∧ n < pe y) := by omega
        have cx : x.1 ≤ n ∧ n < pe x := by omega
        rw [if_pos c1, if_neg cy, if_neg cy, if_pos cx, ctn_low h3 (by omega)]
        rfl
      · rw [if_neg c1]
        by_cases c2 : y.1 ≤ n ∧ n < pe y
        · rw [if_pos c2, if_pos c2]
          rfl
        · rw [if_neg c2, if_neg c2]
          simp only [Option.none_or]
          congr 1
          have ea : (adv x y).1 = x.1 + (min (max (pe y) x.1 - x.1).toNat x.2.length : Nat) := rfl
          by_cases c3 : x.1 ≤ n ∧ n < pe x
          · rw [if_pos c3, if_pos (by omega)]
          · rw [if_neg c3, if_neg (by omega)]

/-! What is ready, what is taken. -/
def rdy (r : Int) : List Pat → Nat
  | [] => 0
  | x :: T => if x.1 = r then x.2.length + rdy (pe x) T else 0
theorem rdy_in {r : Int} {L : List Pat} (h : Ch r L) : ∀ n, r ≤ n → n < r + rdy r L → (ctn L n).isSome = true := by
  induction L generalizing r with
  | nil => intro n h1 h2; simp [rdy] at h2; omega
  | cons x T ih =>
    obtain ⟨h1, h2, h3⟩ := h
    have hpe : pe x = x.1 + x.2.length := rfl
    intro n k1 k2
    unfold rdy at k2
    split at k2
    · next e =>
      unfold ctn
      split
      · rfl
      · exact ih h3 n (by omega) (by omega)
    · omega
theorem rdy_out {r : Int} {L : List Pat} (h : Ch r L) : ctn L (r + rdy r L) = none := by
  induction L generalizing r with
  | nil => rfl
  | cons x T ih =>
    obtain ⟨h1, h2, h3⟩ := h
    have hpe : pe x = x.1 + x.2.length := rfl
    unfold rdy
    split
    · next e =>
      unfold ctn
      rw [if_neg (by omega)]
      have := ih h3
      rwa [show r + ((x.2.length + rdy (pe x) T : Nat) : Int) = pe x + rdy (pe x) T by omega]
    · next e =>
      exact ctn_low (b := x.1) (L := x :: T) ⟨Int.le_refl _, h2, h3⟩ (by omega)
def hld (L : List Pat) : Nat := (L.map (fun x => x.2.length)).sum
theorem rdy_hld (r : Int) (L : List Pat) : rdy r L ≤ hld L := by
  induction L generalizing r with
  | nil => exact Nat.le_refl _
  | cons x T ih =>
    have := ih (pe x)
    have e : hld (x :: T) = x.2.length + hld T := by simp [hld]
    unfold rdy
    split <;> omega
/-- The first k bytes go. -/
def tak (k : Nat) : List Pat → List Pat
  | [] => []
  | x :: T => if k < x.2.length then (x.1 + k, x.2.drop k) :: T else tak (k - x.2.length) T
def got (k : Nat) : List Pat → List Int
  | [] => []
  | x :: T => if k < x.2.length then x.2.take k else x.2 ++ got (k - x.2.length) T
theorem tak_zero {b : Int} {L : List Pat} (h : Ch b L) : tak 0 L = L ∧ got 0 L = [] := by
  cases L with
  | nil => exact ⟨rfl, rfl⟩
  | cons x T =>
    obtain ⟨h1, h2, h3⟩ := h
    have hl := len_pos h2
    unfold tak got
    rw [if_pos hl, if_pos hl]
    simp
theorem tak_law {r : Int} {L : List Pat} (h : Ch r L) {k : Nat} (hk : k ≤ rdy r L) :
    Ch (r + k) (tak k L) ∧ (got k L).length = k ∧ (∀ i, i < k → some ((got k L).getD i 0) = ctn L (r + i)) ∧ (∀ n, ctn (tak k L) n = if n < r + k then none else ctn L n) ∧ hld (tak k L) + k = hld L := by
  induction L generalizing r k with
  | nil =>
    have : k = 0 := by simpa [rdy] using hk
    subst this
    exact ⟨trivial, rfl, fun i hi => by omega, fun n => by simp [tak, ctn], rfl⟩
  | cons x T ih =>
    obtain ⟨h1, h2, h3⟩ := h
    have hpe : pe x = x.1 + x.2.length := rfl
    have hl := len_pos h2
    have eh : ∀ y T, hld (y :: T) = y.2.length + hld T := fun y T => by simp [hld]
    unfold rdy at hk
    split at hk
    · next e =>
      unfold tak got
      split
      · next hlt =>
        have hp2 : pe (x.1 + (k : Int), x.2.drop k) = pe x := by unfold pe; simp only [List.length_drop]; omega
        refine ⟨⟨by simp only; omega, by simp; omega, by rw [hp2]; exact h3⟩, by simp; omega, fun i hi => ?_, fun n => ?_, by rw [eh, eh]; simp; omega⟩
        · unfold ctn
          rw [if_pos (by omega)]
          simp only [List.getD, List.getElem?_take, if_pos hi]
          rw [show (r + (i : Int) - x.1).toNat = i by omega]
        · unfold ctn
          rw [hp2]
          simp only
          by_cases c1 : n < r + k
          · rw [if_pos c1, if_neg (by omega), ctn_low h3 (by omega)]
          · rw [if_neg c1]
            by_cases c2 : x.1 ≤ n ∧ n < pe x
            · rw [if_pos c2, if_pos (by omega), getD_drop]
              congr 2
              omega
            · rw [if_neg c2, if_neg (by omega)]
      · next hge =>
        obtain ⟨i1, i2, i3, i4, i5⟩ := ih h3 (k := k - x.2.length) (by omega)
        have er : pe x + ((k - x.2.length : Nat) : Int) = r + k := by omega
        rw [er] at i1 i4
        refine ⟨i1, by rw [List.length_append, i2]; omega, fun i hi => ?_, fun n => ?_, by rw [eh]; omega⟩
        · unfold ctn
          by_cases c : i < x.2.length
          · rw [if_pos (by omega)]
            simp only [List.getD, List.getElem?_append, if_pos c]
            rw [show (r + (i : Int) - x.1).toNat = i by omega]
          · rw [if_neg (by omega)]
            have := i3 (i - x.2.length) (by omega)
            rw [show pe x + ((i - x.2.length : Nat) : Int) = r + i by omega] at this
            rw [← this]
            simp only [List.getD, List.getElem?_append, if_neg c]
        · rw [i4 n]
          split
          · rfl
          · next c =>
            have e2 : ctn (x :: T) n = if x.1 ≤ n ∧ n < pe x then some (x.2.getD (n - x.1).toNat 0) else ctn T n := rfl
            rw [e2, if_neg (by omega)]
    · next e =>
      have : k = 0 := by omega
      subst this
      have hz := tak_zero (b := r) (L := x :: T) ⟨h1, h2, h3⟩
      rw [hz.1, hz.2]
      refine ⟨(show Ch r (x :: T) from ⟨h1, h2, h3⟩).mono (by omega), rfl, fun i hi => by omega, fun n => ?_, by simp⟩
      split
      · exact ctn_low (b := r) (L := x :: T) ⟨h1, h2, h3⟩ (by omega)
      · rfl
end Go.Proofs.Ytpkondemkpogoaa
