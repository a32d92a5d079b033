/-
  What LossOnce says, in plain words: of each number that was sent: under way, or gone, once.
-/
import Derived.Test.YtohjifbkjfnkfaaLops
import Derived.Test.YtohjifbkjfnkfaaLmapi
namespace Go.Proofs.Ytohjifbkjfnkfaa
open Go.RowKit
set_option linter.unusedVariables false
set_option linter.unusedSimpArgs false


/-- What a ledger's packets and the state have in common. -/
structure Inv (L : List Pk) (nx : Int) (f : Int → Int) : Prop where
  v : ∀ x, f x = 0 ∨ f x = 1 ∨ f x = 11
  o : ∀ x, f x = 1 ↔ ∃ p ∈ L, p.num = x
  d : L.Pairwise (fun a b => a.num ≠ b.num)
  n : ∀ x, f x ≠ 0 → x < nx
  k : ∀ p ∈ L, PkOk p
theorem inv0 : Inv [] 0 (fun _ => 0) := ⟨fun _ => .inl rfl, fun x => ⟨fun h => (by simp at h), fun ⟨p, hp, _⟩ => by simp at hp⟩, List.Pairwise.nil, fun x h => absurd rfl h, fun p hp => by simp at hp⟩
theorem inv_send {L : List Pk} {nx : Int} {f : Int → Int} (h : Inv L nx f) (p : Pk) (hp : PkOk p) (hn : nx ≤ p.num) : f p.num = 0 ∧ Inv (L ++ [p]) (p.num + 1) (upd f p.num 1) := by
  have h0 : f p.num = 0 := by
    rcases Int.lt_or_le p.num nx with h1 | h1
    · omega
    · by_cases e : f p.num = 0
      · exact e
      · have := h.n _ e; omega
  have hd : ∀ q ∈ L, q.num ≠ p.num := fun q hq e => by
    have := (h.o p.num).2 ⟨q, hq, e⟩
    omega
  refine ⟨h0, ⟨fun x => ?_, fun x => ?_, ?_, fun x hx => ?_, fun q hq => ?_⟩⟩
  · unfold upd
    split
    · exact .inr (.inl rfl)
    · exact h.v x
  · unfold upd
    by_cases e : x = p.num
    · subst e
      rw [if_pos rfl]
      exact ⟨fun _ => ⟨p, by simp, rfl⟩, fun _ => rfl⟩
    · rw [if_neg e, h.o x]
      constructor
      · rintro ⟨q, hq, e2⟩; exact ⟨q, by simp [hq], e2⟩
      · rintro ⟨q, hq, e2⟩
        rcases List.mem_append.1 hq with hq | hq
        · exact ⟨q, hq, e2⟩
        · simp at hq; subst hq; exact absurd e2.symm e
  · rw [List.pairwise_append]
    exact ⟨h.d, by simp, fun a ha b hb => by simp at hb; subst hb; exact hd a ha⟩
  · unfold upd at hx
    split at hx
    · omega
    · have := h.n x hx; omega
  · rcases List.mem_append.1 hq with hq | hq
    · exact h.k q hq
    · simp at hq; subst hq; exact hp
/-- The state behind some that went. -/
def goneF (f : Int → Int) (G : List Pk) : Int → Int := fun x => if G.any (fun p => decide (p.num = x)) then 11 else f x
theorem goneF_nil (f : Int → Int) : goneF f [] = f := rfl
theorem goneF_any (G : List Pk) (x : Int) : G.any (fun p => decide (p.num = x)) = true ↔ ∃ p ∈ G, p.num = x := by simp
theorem goneF_snoc (f : Int → Int) (G : List Pk) (p : Pk) : goneF f (G ++ [p]) = upd (goneF f G) p.num 11 := by
  funext x
  unfold goneF upd
  rw [List.any_append]
  by_cases e : x = p.num
  · subst e; simp
  · simp [e, Ne.symm e]
theorem inv_gone {L : List Pk} {nx : Int} {f : Int → Int} (h : Inv L nx f) (t : Pk → Bool) : Inv (L.filter (fun p => !t p)) nx (goneF f (L.filter t)) := by
  have huniq : ∀ a ∈ L, ∀ b ∈ L, a.num = b.num → t a = t b := by
    have gen : ∀ L : List Pk, L.Pairwise (fun a b => a.num ≠ b.num) → ∀ a ∈ L, ∀ b ∈ L, a.num = b.num → t a = t b := by
      intro L
      induction L with
      | nil => intro _ a ha; simp at ha
      | cons c r ih =>
        intro hp a ha b hb e
        obtain ⟨h1, h2⟩ := List.pairwise_cons.1 hp
        rcases List.mem_cons.1 ha with ea | ha'
        · rcases List.mem_cons.1 hb with eb | hb'
          · rw [ea, eb]
          · exact absurd e (by rw [ea]; exact h1 b hb')
        · rcases List.mem_cons.1 hb with eb | hb'
          · exact absurd e.symm (by rw [eb]; exact h1 a ha')
          · exact ih h2 a ha' b hb' e
    exact gen L h.d
  refine ⟨fun x => ?_, fun x => ?_, h.d.filter _, fun x hx => ?_, fun q hq => h.k q (List.mem_filter.1 hq).1⟩
  · unfold goneF
    split
    · exact .inr (.inr rfl)
    · exact h.v x
  · unfold goneF
    by_cases e : (L.filter t).any (fun p => decide (p.num = x)) = true
    · rw [if_pos e]
      refine ⟨fun h => by simp at h, ?_⟩
      rintro ⟨q, hq, hx⟩
      obtain ⟨p, hp, hpx⟩ := (goneF_any _ _).1 e
      obtain ⟨hp1, hp2⟩ := List.mem_filter.1 hp
      obtain ⟨hq1, hq2⟩ := List.mem_filter.1 hq
      have := huniq p hp1 q hq1 (by rw [hpx, hx])
      rw [← this, hp2] at hq2
      simp at hq2
    · rw [if_neg e, h.o x]
      constructor
      · rintro ⟨p, hp, hpx⟩
        refine ⟨p, List.mem_filter.2 ⟨hp, ?_⟩, hpx⟩
        cases htp : t p
        · rfl
        · exact absurd ((goneF_any _ _).2 ⟨p, List.mem_filter.2 ⟨hp, htp⟩, hpx⟩) e
      · rintro ⟨p, hp, hpx⟩
        exact ⟨p, (List.mem_filter.1 hp).1, hpx⟩
  · unfold goneF at hx
    split at hx
    · rename_i e
      obtain ⟨p, hp, hpx⟩ := (goneF_any _ _).1 e
      have h1 := (h.o x).2 ⟨p, (List.mem_filter.1 hp).1, hpx⟩
      exact h.n x (by omega)
    · exact h.n x hx
theorem take_getD (G : List Pk) (k : Nat) (hk : k < G.length) : G.take (k + 1) = G.take k ++ [G.getD k pk0] ∧ G.getD k pk0 ∈ G := by
  have e : G.getD k pk0 = G[k] := by simp [List.getD, hk]
  rw [e]
  exact ⟨List.take_succ_eq_append_getElem hk, List.getElem_mem hk⟩
/-- What the state says of one that goes, ahead of its going. -/
theorem gone_now {L : List Pk} {nx : Int} {f : Int → Int} (h : Inv L nx f) (G : List Pk) (hG : ∀ p ∈ G, p ∈ L) (hd : G.Pairwise (fun a b => a.num ≠ b.num)) (k : Nat) (hk : k < G.length) : goneF f (G.take k) (G.getD k pk0).num = 1 := by
  obtain ⟨h1, h2⟩ := take_getD G k hk
  have hd2 := hd.sublist (List.take_sublist (k + 1) G)
  rw [h1, List.pairwise_append] at hd2
  unfold goneF
  rw [if_neg]
  · exact (h.o _).2 ⟨_, hG _ h2, rfl⟩
  · intro e
    obtain ⟨p, hp, hpx⟩ := (goneF_any _ _).1 e
    exact hd2.2.2 p hp _ (by simp) hpx
/-- How many are under way, of those that were told. -/
def cntO (L : List Pk) (left : Int → Bool) : Nat := (L.filter (fun p => !left p.num)).length
theorem cntO_step (L : List Pk) (hd : L.Pairwise (fun a b => a.num ≠ b.num)) (left : Int → Bool) (x : Int) (hx : left x = true) :
    cntO L (fun z => left z && !decide (z = x)) = cntO L left + (if L.any (fun p => decide (p.num = x)) then 1 else 0) := by
  unfold cntO
  induction L with
  | nil => rfl
  | cons a r ih =>
    obtain ⟨h1, h2⟩ := List.pairwise_cons.1 hd
    have ih := ih h2
    rw [List.filter_cons, List.filter_cons, List.any_cons]
    by_cases e : a.num = x
    · have hr : r.any (fun p => decide (p.num = x)) = false := by
        rw [List.any_eq_false]
        intro p hp
        have := h1 p hp
        simp; intro e2; exact this (by rw [e, e2])
      rw [hr] at ih
      simp [e, hx] at ih ⊢
      exact ih
    · simp [e] at ih ⊢
      cases hl : left a.num
      · simp; omega
      · simp; omega
theorem cntO_all (L : List Pk) (left : Int → Bool) (h : ∀ x, left x = false) : cntO L left = L.length := by
  unfold cntO
  rw [List.filter_eq_self.2 (fun p _ => by rw [h]; rfl)]
theorem cntO_none {L : List Pk} {nx : Int} {f : Int → Int} (h : Inv L nx f) : cntO L (fun x => decide (f x ≠ 0)) = 0 := by
  unfold cntO
  rw [List.length_eq_zero_iff, List.filter_eq_nil_iff]
  intro p hp
  have := (h.o p.num).2 ⟨p, hp, rfl⟩
  simp [this]
theorem cnt_le (L : List Pk) (left : Int → Bool) : cntO L left ≤ L.length := List.length_filter_le _ _

end Go.Proofs.Ytohjifbkjfnkfaa
