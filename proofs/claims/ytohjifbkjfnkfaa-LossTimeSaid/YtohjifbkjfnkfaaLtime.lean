/-
  LossTime: whoever is below one that came is lost once so many ticks are gone since it was sent; not ahead of that, if it is near; and it is told when that will be. For every input; no condition.
-/
import Derived.Test.YtohjifbkjfnkfaaLawake
namespace Go.Proofs.Ytohjifbkjfnkfaa
open Go.RowKit
set_option linter.unusedVariables false
set_option linter.unusedSimpArgs false


def BytesOk (l : List Int) : Prop := ∀ x ∈ l, 0 ≤ x ∧ x ≤ 255
theorem BytesOk.getD {l : List Int} (h : BytesOk l) (k : Nat) : 0 ≤ l.getD k 0 ∧ l.getD k 0 ≤ 255 := by
  by_cases hk : k < l.length
  · have := h l[k] (List.getElem_mem hk)
    simpa [List.getD, hk] using this
  · simp [List.getD, hk]
open Go.ChangeShapes Go.WideShapes Go.ChangeAt Go.Deep in
theorem bytes_of {H : Type} {enc : TypeId × Value → H} {W : World} {A : Option Addr} {n c : Nat} {d : DataW H} {p : List MemPlace}
    (h : DataW.Trod enc Try.prog W 0 (fun _ => true) true 38 (.slice A n c) d p) : ∃ l, Rd W .u8 (.slice A n c) l ∧ BytesOk l := by
  obtain ⟨fuel, hf⟩ := h
  obtain ⟨h1, h2, hA, G, hs, hk⟩ := open_elems (C := 1) Try.underlying38 (by kernel_rfl) (by decide) hf
  have key : ∀ k, k < n → ∃ x : Int, G k 0 = .int .u8 x ∧ (0 ≤ x ∧ x ≤ 255) := by
    intro k hkn
    obtain ⟨m, y, hy⟩ := hk k hkn
    obtain ⟨x, e, _, w⟩ := DataW.trod_int Try.underlying5 hy
    simp [List.range_succ] at e
    exact ⟨x, e, bounds_u8 w⟩
  have gen : ∀ n, (∀ k, k < n → ∃ x : Int, G k 0 = .int .u8 x ∧ (0 ≤ x ∧ x ≤ 255)) → ∃ l : List Int, l.length = n ∧ BytesOk l ∧ ∀ k, k < n → G k 0 = .int .u8 (l.getD k 0) := by
    intro n
    induction n with
    | zero => exact fun _ => ⟨[], rfl, fun p hp => by simp at hp, fun k hk => absurd hk (by omega)⟩
    | succ n ih =>
      intro hh
      obtain ⟨l, hl, ho, hg⟩ := ih (fun k hk => hh k (by omega))
      obtain ⟨x, hx0, hx1⟩ := hh n (by omega)
      refine ⟨l ++ [x], by simp [hl], fun q hq => ?_, fun k hk => ?_⟩
      · rcases List.mem_append.1 hq with hq | hq
        · exact ho q hq
        · simp at hq; subst hq; exact hx1
      · by_cases hkn : k < n
        · have := hg k hkn
          simpa [List.getD, List.getElem?_append_left (show k < l.length by omega)] using this
        · obtain rfl : k = n := by omega
          simpa [List.getD, List.getElem?_append_right (show l.length ≤ k by omega), hl] using hx0
  obtain ⟨l, hl, ho, hg⟩ := gen n key
  refine ⟨l, ⟨A, c, by rw [hl], by omega, h2, fun e => List.eq_nil_of_length_eq_zero (by rw [hl]; exact hA e), fun k hkn => ?_⟩, ho⟩
  obtain ⟨b, off, e, hlt, hc⟩ := hs k (by omega)
  exact ⟨b, off, e, hlt, fun j hj => (by omega : j = 0) ▸ (hc 0 (by decide)).trans (congrArg some (hg k (by omega)))⟩
/-- The packets that are sent; the least time. -/
def tP (l : List Int) (i : Nat) : Pk := ⟨i, 100 + l.getD i 0, 1, true⟩
def tL (l : List Int) (n : Nat) : List Pk := (List.range n).map (tP l)
def tF (l : List Int) (n : Nat) : Int := (List.range n).foldl (fun m i => min m (100 + l.getD i 0)) 1099511627776
theorem tL_snoc (l : List Int) (n : Nat) : tL l (n + 1) = tL l n ++ [tP l n] := by simp [tL, List.range_succ]
theorem tF_snoc (l : List Int) (n : Nat) : tF l (n + 1) = min (tF l n) (100 + l.getD n 0) := by simp [tF, List.range_succ]
theorem tL_len (l : List Int) (n : Nat) : (tL l n).length = n := by simp [tL]
theorem tF_ok (l : List Int) (h : BytesOk l) (n : Nat) : 100 ≤ tF l n ∧ tF l n ≤ 1099511627776 := by
  induction n with
  | zero => simp [tF]
  | succ n ih => have := h.getD n; rw [tF_snoc]; omega
theorem tP_ok (l : List Int) (h : BytesOk l) (i : Nat) (hi : i ≤ 100) : PkOk (tP l i) := by
  have := h.getD i
  refine ⟨⟨?_, ?_⟩, ⟨?_, ?_⟩, ?_, ?_⟩ <;> simp only [tP] <;> omega
theorem tL_ok (l : List Int) (h : BytesOk l) (n : Nat) (hn : n ≤ 100) : ∀ p ∈ tL l n, PkOk p := by
  intro p hp
  simp only [tL, List.mem_map, List.mem_range] at hp
  obtain ⟨i, hi, rfl⟩ := hp
  exact tP_ok l h i (by omega)
theorem t_ack (l : List Int) (n : Nat) (hn : n ≤ 2) : (tL l n ++ [(⟨n, 500, 1, true⟩ : Pk)]).filter (fun p => !(inR [((n : Int), (n : Int))]) p) = tL l n := by
  match n, hn with
  | 0, _ => simp [tL, inR]
  | 1, _ => simp [tL, tP, inR, List.range_succ, List.filter_cons]
  | 2, _ => simp [tL, tP, inR, List.range_succ, List.filter_cons]
theorem filter_two (f : Pk → Bool) (a b : Pk) : [a, b].filter f = (if f a then [a] else []) ++ (if f b then [b] else []) := by
  rw [List.filter_cons, List.filter_cons]
  cases f a <;> cases f b <;> simp
theorem filter_one (f : Pk → Bool) (a : Pk) : [a].filter f = (if f a then [a] else []) := by
  rw [List.filter_cons]
  cases f a <;> simp
theorem lost_iff (n now wt : Int) (p : Pk) (h1 : p.num < n) (h2 : n ≤ 2) (h3 : 0 ≤ p.num) : lostF true n now wt p = decide (p.sent ≤ now ∧ wt ≤ now - p.sent) := by
  unfold lostF belowF
  rw [show decide (p.num < n) = true by simpa using h1, show decide (p.num + 3 ≤ n) = false by simp; omega]
  simp
theorem time_law (l : List Int) (hl : BytesOk l) (n : Nat) (hn : n = 1 ∨ n = 2) (wt : Int) (hw : 0 ≤ wt ∧ wt ≤ 65535) :
    dueF n true wt (tL l n) = (tF l n + wt, true) ∧ (tL l n).filter (lostF true n (tF l n + wt - 1) wt) = [] ∧ (tL l n).filter (fun p => !(lostF true n (tF l n + wt - 1) wt) p) = tL l n ∧
      0 < ((tL l n).filter (lostF true n (tF l n + wt) wt)).length ∧ (((tL l n).filter (fun p => !(lostF true n (tF l n + wt) wt) p)).filter (lostF true n 2199023255552 wt)).length + 1 ≤ n := by
  have h0 := hl.getD 0
  have h1 := hl.getD 1
  have nl : ∀ (n : Int) (k m now : Int) (b : Bool), k < n → n ≤ 2 → 0 ≤ k → decide (m ≤ now ∧ wt ≤ now - m) = b → lostF true n now wt ⟨k, m, 1, true⟩ = b := by
    intro n k m now b h1 h2 h3 h4
    rw [lost_iff n now wt ⟨k, m, 1, true⟩ h1 h2 h3, ← h4]
  rcases hn with rfl | rfl
  · have eF : tF l 1 = 100 + l.getD 0 0 := by simp only [tF, List.range_succ, List.range_zero, List.nil_append, List.foldl_cons, List.foldl_nil]; omega
    have eL : tL l 1 = [⟨0, 100 + l.getD 0 0, 1, true⟩] := by simp [tL, List.range_succ, tP]
    rw [eL, eF]
    generalize l.getD 0 0 = s0 at *
    generalize hm : 100 + s0 = m at *
    have q1 := nl ((1 : Nat) : Int) 0 m (m + wt - 1) false (by decide) (by decide) (by decide) (by simp; omega)
    have q2 := nl ((1 : Nat) : Int) 0 m (m + wt) true (by decide) (by decide) (by decide) (by simp; omega)
    refine ⟨by simp [dueF, dueStep, belowF], ?_, ?_, ?_, ?_⟩
    · simp only [filter_one, q1]; rfl
    · simp only [filter_one, q1]; rfl
    · simp only [filter_one, q2]; simp
    · simp only [filter_one, q2]; simp
  · have eF : tF l 2 = min (100 + l.getD 0 0) (100 + l.getD 1 0) := by simp only [tF, List.range_succ, List.range_zero, List.nil_append, List.foldl_cons, List.foldl_nil, List.cons_append]; omega
    have eL : tL l 2 = [⟨0, 100 + l.getD 0 0, 1, true⟩, ⟨1, 100 + l.getD 1 0, 1, true⟩] := by simp [tL, List.range_succ, tP]
    rw [eL, eF]
    generalize l.getD 0 0 = s0 at *
    generalize l.getD 1 0 = s1 at *
    generalize hm0 : 100 + s0 = m0 at *
    generalize hm1 : 100 + s1 = m1 at *
    obtain ⟨m, hm⟩ : ∃ m, m = min m0 m1 := ⟨_, rfl⟩
    rw [← hm]
    have q0 := nl ((2 : Nat) : Int) 0 m0 (m + wt - 1) false (by decide) (by decide) (by decide) (by simp; omega)
    have q1 := nl ((2 : Nat) : Int) 1 m1 (m + wt - 1) false (by decide) (by decide) (by decide) (by simp; omega)
    refine ⟨?_, by simp only [filter_two, q0, q1]; rfl, by simp only [filter_two, q0, q1]; rfl, ?_⟩
    · by_cases h : m1 < m0
      · rw [show m = m1 by omega]
        simp [dueF, dueStep, belowF, h]
      · rw [show m = m0 by omega]
        simp [dueF, dueStep, belowF, h]
    · rcases Int.lt_trichotomy m0 m1 with h | h | h
      · obtain rfl : m = m0 := by omega
        have p0 := nl ((2 : Nat) : Int) 0 m (m + wt) true (by decide) (by decide) (by decide) (by simp; omega)
        have p1 := nl ((2 : Nat) : Int) 1 m1 (m + wt) false (by decide) (by decide) (by decide) (by simp; omega)
        have p2 := nl ((2 : Nat) : Int) 1 m1 2199023255552 true (by decide) (by decide) (by decide) (by simp; omega)
        rw [filter_two, filter_two]
        simp only [p0, p1]
        refine ⟨by simp, ?_⟩
        rw [show ((if (!true) = true then [(⟨0, m, 1, true⟩ : Pk)] else []) ++ if (!false) = true then [⟨1, m1, 1, true⟩] else []) = [⟨1, m1, 1, true⟩] from rfl, filter_one, p2]
        simp
      · obtain rfl : m = m0 := by omega
        obtain rfl : m = m1 := by omega
        have p0 := nl ((2 : Nat) : Int) 0 m (m + wt) true (by decide) (by decide) (by decide) (by simp; omega)
        have p1 := nl ((2 : Nat) : Int) 1 m (m + wt) true (by decide) (by decide) (by decide) (by simp; omega)
        rw [filter_two, filter_two]
        simp only [p0, p1]
        exact ⟨by simp, by simp⟩
      · obtain rfl : m = m1 := by omega
        have p0 := nl ((2 : Nat) : Int) 0 m0 (m + wt) false (by decide) (by decide) (by decide) (by simp; omega)
        have p1 := nl ((2 : Nat) : Int) 1 m (m + wt) true (by decide) (by decide) (by decide) (by simp; omega)
        have p2 := nl ((2 : Nat) : Int) 0 m0 2199023255552 true (by decide) (by decide) (by decide) (by simp; omega)
        rw [filter_two, filter_two]
        simp only [p0, p1]
        refine ⟨by simp, ?_⟩
        rw [show ((if (!false) = true then [(⟨0, m0, 1, true⟩ : Pk)] else []) ++ if (!true) = true then [⟨1, m, 1, true⟩] else []) = [⟨0, m0, 1, true⟩] from rfl, filter_one, p2]
        simp
theorem time_zero (l : List Int) (wt : Int) : (tL l 0).filter (lostF true 0 1099511627776 0) = [] ∧ dueF 0 true wt (tL l 0) = (0, false) := ⟨rfl, rfl⟩

end Go.Proofs.Ytohjifbkjfnkfaa
