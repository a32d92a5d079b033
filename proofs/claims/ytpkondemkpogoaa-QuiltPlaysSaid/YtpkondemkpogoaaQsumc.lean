/-
  QuiltSums, plain: the number of the keys. No condition.
-/
import Derived.Test.YtpkondemkpogoaaQkeep
namespace Go.Proofs.Ytpkondemkpogoaa
open Go.RowKit
open Go.Maps
set_option linter.unusedVariables false
set_option linter.unusedSimpArgs false

theorem addKey_fold (xs : List Lit) (hx : ∀ x ∈ xs, WideAt.IsKeyLit x) : ∀ acc : List Lit, acc.Nodup → (∀ x ∈ acc, WideAt.IsKeyLit x) → (xs.foldl addKey acc).Nodup ∧ ∀ a, a ∈ xs.foldl addKey acc ↔ a ∈ acc ∨ a ∈ xs := by
  induction xs with
  | nil => intro acc h _; exact ⟨h, fun a => by simp⟩
  | cons y r ih =>
    intro acc h hk
    have hy := hx y (by simp)
    have hany : acc.any (fun z => z.sameKey y) = true ↔ y ∈ acc := by
      rw [List.any_eq_true]
      constructor
      · rintro ⟨z, hz, e⟩; rw [(WideAt.sameKey_iff hy).1 e] at hz; exact hz
      · intro hm; exact ⟨y, hm, WideAt.sameKey_self hy⟩
    rw [List.foldl_cons]
    by_cases hm : y ∈ acc
    · rw [show addKey acc y = acc by unfold addKey; rw [if_pos (hany.2 hm)]]
      obtain ⟨h1, h2⟩ := ih (fun x hx' => hx x (by simp [hx'])) acc h hk
      refine ⟨h1, fun a => ?_⟩
      rw [h2 a, List.mem_cons]
      constructor
      · rintro (h | h)
        · exact .inl h
        · exact .inr (.inr h)
      · rintro (h | rfl | h)
        · exact .inl h
        · exact .inl hm
        · exact .inr h
    · rw [show addKey acc y = acc ++ [y] by unfold addKey; rw [if_neg (fun e => hm (hany.1 e))]]
      obtain ⟨h1, h2⟩ := ih (fun x hx' => hx x (by simp [hx'])) (acc ++ [y]) (by
        rw [List.nodup_append]
        exact ⟨h, by simp, fun a ha b hb => by simp at hb; subst hb; rintro rfl; exact hm ha⟩) (fun x hx' => by
        rcases List.mem_append.1 hx' with h | h
        · exact hk x h
        · simp at h; subst h; exact hy)
      refine ⟨h1, fun a => ?_⟩
      rw [h2 a, List.mem_append, List.mem_singleton, List.mem_cons]
      constructor
      · rintro ((h | h) | h)
        · exact .inl h
        · exact .inr (.inl h)
        · exact .inr (.inr h)
      · rintro (h | h | h)
        · exact .inl (.inl h)
        · exact .inl (.inr h)
        · exact .inr h
open Go.Maps in

theorem came_cnt {q : Q} (h : QI q) {ks : List Int} (hc : Came q ks) : (((ks.map kint).foldl addKey []).length : Int) = q.rd + hld q.L := by
  obtain ⟨h1, h2⟩ := addKey_fold (ks.map kint) (fun x hx => by obtain ⟨y, _, rfl⟩ := List.mem_map.1 hx; trivial) [] (by simp) (fun x hx => by simp at hx)
  have hn : ((allP q).map kint).Nodup := (List.Pairwise.map _ (fun a b (hab : a ≠ b) => kint_inj hab) (all_nodup h))
  have hp : ((ks.map kint).foldl addKey []).Perm ((allP q).map kint) := (List.perm_ext_iff_of_nodup h1 hn).2 (fun a => by
    rw [h2 a]
    simp only [List.not_mem_nil, false_or, List.mem_map]
    constructor
    · rintro ⟨x, hx, rfl⟩; exact ⟨x, (all_mem h).2 ((hc x).1 hx), rfl⟩
    · rintro ⟨x, hx, rfl⟩; exact ⟨x, (hc x).2 ((all_mem h).1 hx), rfl⟩)
  rw [hp.length_eq, List.length_map, all_len h]

end Go.Proofs.Ytpkondemkpogoaa
