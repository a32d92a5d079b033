/-
  A stream that is cut off: it is right just where the front, or an object, ends; in plain words.
-/
import Derived.Test.YthmdbkefbbjfmaaIcutp
namespace Go.Proofs.Ythmdbkefbbjfmaa
open Go.RowKit
set_option linter.unusedVariables false
set_option linter.unusedSimpArgs false


theorem obj_cut (f : Bool) (hg hp : Int) (sm : Bool) (lg lo G O pr : Int) (l : List Int) (hG : 0 ≤ G) (hO : 0 ≤ O) (h : (nextR f hg hp G O pr false l).2 = 0) (hs : sm = true → lessP lg lo G O = true)
    (j : Nat) (hj : j < (nextR f hg hp G O pr false l).1.length) : (objS f hg hp sm lg lo ((nextR f hg hp G O pr false l).1.take j, 0)).2.2.2 = 2 := by
  have hl := (next_len _ _ _ _ _ _ _ _ h).1
  have hsl : (sm && !lessP lg lo G O) = false := by
    cases sm
    · rfl
    · simp [hs rfl]
  unfold nextR at h hj ⊢
  have h1 : ¬2048 < l.length := by omega
  rw [if_neg h1] at h hj ⊢
  cases f
  · simp only [Bool.false_eq_true, if_false] at h hj ⊢
    by_cases h2 : True ∧ fitB [O] = true ∧ G = hg ∧ pr = hp ∧ G ≤ 4611686018427387903
    · rw [if_pos (by simpa using h2)] at hj ⊢
      obtain ⟨_, hf, rfl, rfl, _⟩ := h2
      have f1 := fit_of hf (n := O) (by simp)
      rw [join1] at hj ⊢
      rw [List.length_append] at hj
      have e := num_cut O (txtB l) j hO f1
      by_cases c1 : j < (vform O (vsz O)).length
      · rw [if_pos c1] at e
        unfold objS rdS
        simp [e]
      · rw [if_neg c1] at e
        have ht := text_cut l (j - (vform O (vsz O)).length) hl (by omega)
        unfold objS rdS
        simp only [Bool.false_eq_true, if_false, e]
        rw [if_neg (by simp), if_neg (by rw [hsl]; decide)]
        exact ht
    · rw [if_neg (by simpa using h2)] at h; simp at h
  · simp only [if_true] at h hj ⊢
    by_cases h2 : True ∧ fitB [G, O] = true
    · rw [if_pos (by simpa using h2)] at hj ⊢
      obtain ⟨_, hf⟩ := h2
      have f1 := fit_of hf (n := G) (by simp)
      have f2 := fit_of hf (n := O) (by simp)
      rw [join2] at hj ⊢
      simp only [List.append_assoc] at hj ⊢
      simp only [List.length_append, List.length_cons, List.length_nil] at hj
      have e := num_cut G (vform O (vsz O) ++ ([pr] ++ txtB l)) j hG f1
      by_cases c1 : j < (vform G (vsz G)).length
      · rw [if_pos c1] at e
        unfold objS rdS
        simp only [if_true, e]
        rw [num_stick _ (by decide), one_stick _ (by decide)]
        simp
      · rw [if_neg c1] at e
        have e2 := num_cut O ([pr] ++ txtB l) (j - (vform G (vsz G)).length) hO f2
        by_cases c2 : j - (vform G (vsz G)).length < (vform O (vsz O)).length
        · rw [if_pos c2] at e2
          unfold objS rdS
          simp only [if_true, e, e2]
          rw [one_stick _ (by decide)]
          simp
        · rw [if_neg c2] at e2
          obtain ⟨m, hm⟩ : ∃ m, m = j - (vform G (vsz G)).length - (vform O (vsz O)).length := ⟨_, rfl⟩
          rw [← hm] at e2
          match m, hm with
          | 0, hm =>
            unfold objS rdS
            simp only [if_true, e, e2]
            simp [oneS]
          | m + 1, hm =>
            have ht := text_cut l m hl (by omega)
            have e3 : oneS (List.take (m + 1) ([pr] ++ txtB l), 0) = (pr, List.take m (txtB l), 0) := by simp [oneS]
            unfold objS rdS
            simp only [if_true, e, e2, e3]
            rw [if_neg (by simp), if_neg (by rw [hsl]; decide)]
            exact ht
    · rw [if_neg (by simpa using h2)] at h; simp at h
/-- An object that was written. -/
structure Wob where
  G : Int
  O : Int
  P : Int
  l : List Int
def wb (f : Bool) (hg hp : Int) (o : Wob) : List Int := (nextR f hg hp o.G o.O o.P false o.l).1
def cat (f : Bool) (hg hp : Int) : List Wob → List Int
  | [] => []
  | o :: r => wb f hg hp o ++ cat f hg hp r
structure Good (f : Bool) (hg hp : Int) (os : List Wob) : Prop where
  ok : ∀ o ∈ os, 0 ≤ o.G ∧ 0 ≤ o.O ∧ (nextR f hg hp o.G o.O o.P false o.l).2 = 0
  up : os.Pairwise (fun a b => lessP a.G a.O b.G b.O = true)
def endsN (f : Bool) (hg hp : Int) : List Wob → List Nat
  | [] => [0]
  | o :: r => 0 :: (endsN f hg hp r).map (fun m => (wb f hg hp o).length + m)
theorem good_nil (f : Bool) (hg hp : Int) : Good f hg hp [] := ⟨fun o ho => by simp at ho, List.Pairwise.nil⟩
theorem good_snoc {f : Bool} {hg hp : Int} {os : List Wob} (h : Good f hg hp os) (o : Wob) (h1 : 0 ≤ o.G) (h2 : 0 ≤ o.O) (h3 : (nextR f hg hp o.G o.O o.P false o.l).2 = 0) (h4 : ∀ a ∈ os, lessP a.G a.O o.G o.O = true) : Good f hg hp (os ++ [o]) :=
  ⟨fun x hx => by
    rcases List.mem_append.1 hx with hx | hx
    · exact h.ok x hx
    · simp at hx; subst hx; exact ⟨h1, h2, h3⟩,
   List.pairwise_append.2 ⟨h.up, List.pairwise_singleton _ _, fun a ha b hb => by simp at hb; subst hb; exact h4 a ha⟩⟩
theorem cat_snoc (f : Bool) (hg hp : Int) (os : List Wob) (o : Wob) : cat f hg hp (os ++ [o]) = cat f hg hp os ++ wb f hg hp o := by
  induction os with
  | nil => simp [cat]
  | cons a r ih => simp [cat, ih]
theorem ends_snoc (f : Bool) (hg hp : Int) (os : List Wob) (o : Wob) : endsN f hg hp (os ++ [o]) = endsN f hg hp os ++ [(cat f hg hp os).length + (wb f hg hp o).length] := by
  induction os with
  | nil => simp [cat, endsN]
  | cons a r ih => simp [cat, endsN, ih, Nat.add_assoc]
theorem ends_len (f : Bool) (hg hp : Int) (os : List Wob) : (endsN f hg hp os).length = os.length + 1 := by
  induction os with
  | nil => rfl
  | cons a r ih => simp [endsN, ih]
theorem iterR_shift (n : Nat) (s : RS) : iterR (n + 1) s = iterR n (stepR s) := by
  induction n with
  | zero => rfl
  | succ n ih => show stepR (iterR (n + 1) s) = stepR (iterR n (stepR s)); rw [ih]
theorem cut_objs (f : Bool) (id hg hp : Int) : ∀ (os : List Wob), Good f hg hp os → ∀ (st : RS) (j : Nat), j ≤ (cat f hg hp os).length → st.b = true → st.h = (f, id, hg, hp) → st.p = (cat f hg hp os).take j → st.e = 0 →
    (st.sm = true → ∀ o, os.head? = some o → lessP st.lg st.lo o.G o.O = true) → ∀ n, (∀ i, i < n → (iterR i st).cont = true) → (iterR n st).cont = false →
    ((iterR n st).e = 0 ∧ j ∈ endsN f hg hp os) ∨ ((iterR n st).e = 2 ∧ j ∉ endsN f hg hp os) := by
  intro os
  induction os with
  | nil =>
    intro _ st j hj hb hh hp' he _ n h1 h2
    have hj0 : j = 0 := by simpa [cat] using hj
    match n, h1 with
    | 0, _ => exact .inl ⟨he, by simp [endsN, hj0]⟩
    | n + 1, h1 =>
      have := h1 0 (by omega)
      simp [iterR, RS.cont, hb, hp', cat] at this
  | cons o r ih =>
    intro hg' st j hj hb hh hp' he hsm n h1 h2
    obtain ⟨b, h, sm, lg, lo, p, out, e⟩ := st
    simp only at hb hh hp' he hsm
    subst hb hh hp' he
    obtain ⟨o1, o2, o3⟩ := hg'.ok o (by simp)
    obtain ⟨_, hne⟩ := next_len _ _ _ _ _ _ _ _ o3
    have hpos : 0 < (wb f hg hp o).length := List.length_pos_iff.2 hne
    have hup := hg'.up
    rw [List.pairwise_cons] at hup
    by_cases hj0 : j = 0
    · subst hj0
      match n, h1 with
      | 0, _ => exact .inl ⟨rfl, by simp [endsN]⟩
      | n + 1, h1 =>
        have := h1 0 (by omega)
        simp [iterR, RS.cont] at this
    · have hlen : (cat f hg hp (o :: r)).length = (wb f hg hp o).length + (cat f hg hp r).length := by simp [cat]
      have hn : n ≠ 0 := by
        rintro rfl
        have : (cat f hg hp (o :: r)).take j ≠ [] := fun e => by
          have := congrArg List.length e
          rw [List.length_take, List.length_nil] at this
          omega
        simp [iterR, RS.cont, this] at h2
      obtain ⟨n, rfl⟩ : ∃ m, n = m + 1 := ⟨n - 1, by omega⟩
      by_cases hc : j < (wb f hg hp o).length
      · have et : (cat f hg hp (o :: r)).take j = (wb f hg hp o).take j := by
          show (wb f hg hp o ++ cat f hg hp r).take j = _
          rw [List.take_append, show j - (wb f hg hp o).length = 0 by omega, List.take_zero, List.append_nil]
        have ec := obj_cut f hg hp sm lg lo o.G o.O o.P o.l o1 o2 o3 (fun hs => hsm hs o rfl) j hc
        have ek : (stepR ⟨true, (f, id, hg, hp), sm, lg, lo, (cat f hg hp (o :: r)).take j, out, 0⟩).e = 2 := by
          unfold stepR stepO
          rw [if_neg (by simp)]
          simp only [et]
          unfold wb
          rw [if_neg (by rw [ec]; decide)]
          exact ec
        rw [iterR_shift] at h2 ⊢
        match n, h1 with
        | 0, _ =>
          refine .inr ⟨ek, fun hm => ?_⟩
          simp only [endsN, List.mem_cons, List.mem_map] at hm
          rcases hm with hm | ⟨m, _, hm⟩
          · exact hj0 hm
          · omega
        | n + 1, h1 =>
          have := h1 1 (by omega)
          rw [iterR_shift] at this
          simp [iterR, RS.cont, ek] at this
      · have et : (cat f hg hp (o :: r)).take j = wb f hg hp o ++ (cat f hg hp r).take (j - (wb f hg hp o).length) := by
          show (wb f hg hp o ++ cat f hg hp r).take j = _
          rw [List.take_append, List.take_of_length_le (by omega)]
        have eo := obj_on f hg hp sm lg lo o.G o.O o.P o.l ((cat f hg hp r).take (j - (wb f hg hp o).length)) o1 o2 o3
        have hsl : (sm && !lessP lg lo o.G o.O) = false := by
          cases hs : sm
          · rfl
          · simp [hsm hs o rfl]
        rw [if_neg (by rw [hsl]; decide)] at eo
        have ek : stepR ⟨true, (f, id, hg, hp), sm, lg, lo, (cat f hg hp (o :: r)).take j, out, 0⟩ = ⟨true, (f, id, hg, hp), true, o.G, o.O, (cat f hg hp r).take (j - (wb f hg hp o).length), out ++ [((o.G, o.O, o.P), o.l)], 0⟩ := by
          unfold stepR stepO
          rw [if_neg (by simp)]
          simp only [et]
          unfold wb at eo ⊢
          rw [eo]
          rfl
        have h1' : ∀ i, i < n → (iterR i (stepR ⟨true, (f, id, hg, hp), sm, lg, lo, (cat f hg hp (o :: r)).take j, out, 0⟩)).cont = true := fun i hi => by
          have := h1 (i + 1) (by omega)
          rwa [iterR_shift] at this
        rw [iterR_shift] at h2 ⊢
        rw [ek] at h1' h2 ⊢
        have := ih ⟨fun x hx => hg'.ok x (by simp [hx]), hup.2⟩ ⟨true, (f, id, hg, hp), true, o.G, o.O, (cat f hg hp r).take (j - (wb f hg hp o).length), out ++ [((o.G, o.O, o.P), o.l)], 0⟩ (j - (wb f hg hp o).length) (by omega) rfl rfl rfl rfl
          (fun _ x hx => hup.1 x (by
            cases r with
            | nil => simp at hx
            | cons y r => simp at hx; simp [hx])) n h1' h2
        have hm : j ∈ endsN f hg hp (o :: r) ↔ j - (wb f hg hp o).length ∈ endsN f hg hp r := by
          simp only [endsN, List.mem_cons, List.mem_map]
          constructor
          · rintro (h | ⟨m, h, h'⟩)
            · exact absurd h hj0
            · rw [show j - (wb f hg hp o).length = m by omega]; exact h
          · intro h
            exact .inr ⟨_, h, by omega⟩
        rw [hm]
        exact this
/-- CUT ANYWHERE: right just behind the front, or an object. -/
theorem ends_law (f : Bool) (id hg hp : Int) (os : List Wob) (hi : 0 ≤ id) (hh : 0 ≤ hg) (hb : (beginR f id hg hp).2 = 0) (hgd : Good f hg hp os) (k : Nat) (hk : k ≤ ((beginR f id hg hp).1 ++ cat f hg hp os).length)
    (n : Nat) (h1 : ∀ j, j < n → (iterR j (rs0 (((beginR f id hg hp).1 ++ cat f hg hp os).take k))).cont = true) (h2 : (iterR n (rs0 (((beginR f id hg hp).1 ++ cat f hg hp os).take k))).cont = false) :
    (putE (iterR n (rs0 (((beginR f id hg hp).1 ++ cat f hg hp os).take k))).e true == 0) = ((endsN f hg hp os).map (fun m => (((beginR f id hg hp).1.length + m : Nat) : Int))).contains (k : Int) := by
  have hlen : ((beginR f id hg hp).1 ++ cat f hg hp os).length = (beginR f id hg hp).1.length + (cat f hg hp os).length := by simp
  obtain ⟨N, rfl⟩ : ∃ m, n = m + 1 := by
    match n, h2 with
    | 0, h2 => simp [iterR, RS.cont, rs0] at h2
    | n + 1, _ => exact ⟨n, rfl⟩
  have key : (k < (beginR f id hg hp).1.length ∧ (iterR (N + 1) (rs0 (((beginR f id hg hp).1 ++ cat f hg hp os).take k))).e = 2) ∨ ((beginR f id hg hp).1.length ≤ k ∧ (((iterR (N + 1) (rs0 (((beginR f id hg hp).1 ++ cat f hg hp os).take k))).e = 0 ∧ k - (beginR f id hg hp).1.length ∈ endsN f hg hp os) ∨ ((iterR (N + 1) (rs0 (((beginR f id hg hp).1 ++ cat f hg hp os).take k))).e = 2 ∧ k - (beginR f id hg hp).1.length ∉ endsN f hg hp os))) := by
    by_cases hc : k < (beginR f id hg hp).1.length
    · refine .inl ⟨hc, ?_⟩
      have et : ((beginR f id hg hp).1 ++ cat f hg hp os).take k = (beginR f id hg hp).1.take k := by
        rw [List.take_append, show k - (beginR f id hg hp).1.length = 0 by omega, List.take_zero, List.append_nil]
      rw [et] at h1 h2 ⊢
      have ef := front_cut f id hg hp k hi hh hb hc
      have ek : (stepR (rs0 ((beginR f id hg hp).1.take k))).e = 2 := by
        unfold stepR stepF rs0
        simp only [if_true]
        exact ef
      rw [iterR_shift] at h2 ⊢
      match N, h1 with
      | 0, _ => exact ek
      | N + 1, h1 =>
        have := h1 1 (by omega)
        rw [iterR_shift] at this
        simp [iterR, RS.cont, ek] at this
    · refine .inr ⟨by omega, ?_⟩
      have et : ((beginR f id hg hp).1 ++ cat f hg hp os).take k = (beginR f id hg hp).1 ++ (cat f hg hp os).take (k - (beginR f id hg hp).1.length) := by
        rw [List.take_append, List.take_of_length_le (by omega)]
      rw [et] at h1 h2 ⊢
      have ef := front_on f id hg hp ((cat f hg hp os).take (k - (beginR f id hg hp).1.length)) hi hh hb
      have ek : stepR (rs0 ((beginR f id hg hp).1 ++ (cat f hg hp os).take (k - (beginR f id hg hp).1.length))) = ⟨true, (f, id, hg, hp), false, 0, 0, (cat f hg hp os).take (k - (beginR f id hg hp).1.length), [], 0⟩ := by
        unfold stepR stepF rs0
        simp only [if_true]
        rw [ef]
        rfl
      have h1' : ∀ i, i < N → (iterR i (stepR (rs0 ((beginR f id hg hp).1 ++ (cat f hg hp os).take (k - (beginR f id hg hp).1.length))))).cont = true := fun i hi => by
        have := h1 (i + 1) (by omega)
        rwa [iterR_shift] at this
      rw [iterR_shift] at h2 ⊢
      rw [ek] at h1' h2 ⊢
      exact cut_objs f id hg hp os hgd _ _ (by omega) rfl rfl rfl rfl (fun h => by cases h) N h1' h2
  have hmem : ((endsN f hg hp os).map (fun m => (((beginR f id hg hp).1.length + m : Nat) : Int))).contains (k : Int) = true ↔ ((beginR f id hg hp).1.length ≤ k ∧ k - (beginR f id hg hp).1.length ∈ endsN f hg hp os) := by
    rw [List.contains_iff_mem, List.mem_map]
    constructor
    · rintro ⟨m, hm, e⟩
      have e' : (beginR f id hg hp).1.length + m = k := by exact_mod_cast e
      exact ⟨by omega, by rw [show k - (beginR f id hg hp).1.length = m by omega]; exact hm⟩
    · rintro ⟨h, hm⟩
      exact ⟨_, hm, by congr 1; omega⟩
  obtain ⟨C, hC⟩ : ∃ C, C = ((endsN f hg hp os).map (fun m => (((beginR f id hg hp).1.length + m : Nat) : Int))).contains (k : Int) := ⟨_, rfl⟩
  rw [← hC] at hmem ⊢
  rcases key with ⟨h, e⟩ | ⟨h, ⟨e, hm⟩ | ⟨e, hm⟩⟩
  · rw [e]
    have : C ≠ true := fun hc => by have := (hmem.1 hc).1; omega
    cases C
    · rfl
    · exact absurd rfl this
  · rw [e, hmem.2 ⟨h, hm⟩]
    rfl
  · rw [e]
    have : C ≠ true := fun hc => hm (hmem.1 hc).2
    cases C
    · rfl
    · exact absurd rfl this

end Go.Proofs.Ythmdbkefbbjfmaa
