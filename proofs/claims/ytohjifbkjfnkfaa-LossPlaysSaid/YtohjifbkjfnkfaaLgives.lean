/-
  Ranges that came in; a row of ranges of the call's own; what Open does; what LossGives says, in plain words.
-/
import Derived.Test.YtohjifbkjfnkfaaLawake
import Derived.Test.YtohjifbkjfnkfaaLmap
namespace Go.Proofs.Ytohjifbkjfnkfaa
open Go.RowKit
set_option linter.unusedVariables false
set_option linter.unusedSimpArgs false


theorem infoR : (Try.prog.info? 31).map (fun i => (i.zero, i.size, i.bytes)) = some (some (.agg #[.int .u64 0, .int .u64 0]), 2, 16) := by kernel_rfl
def prc (x : Int × Int) : List Value := [.int .u64 x.1, .int .u64 x.2]
def prcells (L : List (Int × Int)) : List Value := L.flatMap prc
theorem prcells_len (L : List (Int × Int)) : (prcells L).length = L.length * 2 := by
  induction L with
  | nil => rfl
  | cons p r ih => simp only [prcells, List.flatMap_cons, List.length_append, List.length_cons] at ih ⊢; rw [ih]; simp [prc]; omega
theorem prcells_at (L : List (Int × Int)) (k j : Nat) (hk : k < L.length) (hj : j < 2) : (prcells L).getD (k * 2 + j) undef = (prc (L.getD k (0, 0))).getD j undef := by
  induction L generalizing k with
  | nil => simp at hk
  | cons p r ih =>
    have hl : (prc p).length = 2 := rfl
    cases k with
    | zero => simp [prcells, List.flatMap_cons, List.getD, List.getElem?_append_left (show j < (prc p).length by omega)]
    | succ k =>
      have := ih k (by simpa using hk)
      simp only [prcells] at this
      simp only [prcells, List.flatMap_cons, List.getD, List.getElem?_append_right (show (prc p).length ≤ (k + 1) * 2 + j by omega), hl]
      rw [show (k + 1) * 2 + j - 2 = k * 2 + j by omega]
      simpa [List.getD] using this
theorem prs_of_own {w : World} {base n : Nat} {v : Value} {L : List (Int × Int)} (h : w.ownsRow base 31 2 v n (prcells L)) : ∃ A cap, v = .slice A L.length cap ∧ n = L.length ∧ L.length ≤ cap ∧ cap ≤ maxLen ∧ Pairs w A L.length L := by
  have hn : n = L.length := by have := h.1; rw [prcells_len] at this; omega
  subst hn
  obtain ⟨A, cap, e, h1, h2, h3⟩ := sl_of_own h
  refine ⟨A, cap, e, rfl, h1, h2, rfl, fun k hk => ?_⟩
  obtain ⟨b, off, ea, hb, hc⟩ := h3 k hk
  have key : ∀ j, j < 2 → w.cell? ⟨b, off + (k * 2 + j), none⟩ = some ((prc (L.getD k (0, 0))).getD j undef) := fun j hj => (hc j hj).trans (congrArg some (prcells_at L k j hk hj))
  exact ⟨b, off, ea, hb, by simpa [prc] using key 0 (by decide), by simpa [prc, Nat.add_assoc] using key 1 (by decide)⟩
theorem pr_rdv (w : World) (x : Int × Int) {g : Nat} (hb : Blk w g 31 #[.int .u64 x.1, .int .u64 x.2]) : RdV w 2 (some ⟨g, 0, none⟩) 1 (prc x) :=
  ⟨rfl, fun k hk => ⟨g, 0, rfl, hb.lt, fun j hj => by
    obtain rfl : k = 0 := by omega
    rw [show 0 + (0 * 2 + j) = j by omega, hb.cell j]
    match j, hj with
    | 0, _ => rfl
    | 1, _ => rfl⟩⟩
theorem pr_cells_one (x : Int × Int) : ∀ u ∈ prc x, u.oneCell' = true := by
  intro u hu
  simp [prc] at hu
  rcases hu with rfl | rfl <;> rfl
open Go.ChangeShapes Go.WideShapes Go.ChangeAt Go.Deep in
theorem ranges_of {H : Type} {enc : TypeId × Value → H} {W : World} {A : Option Addr} {n c : Nat} {d : DataW H} {p : List MemPlace}
    (h : DataW.Trod enc Try.prog W 0 (fun _ => true) true 32 (.slice A n c) d p) : n ≤ c ∧ c ≤ maxLen ∧ ∃ L, Pairs W A n L ∧ PairsOk L := by
  obtain ⟨fuel, hf⟩ := h
  obtain ⟨h1, h2, G, hs, hk⟩ := open_structs Try.underlying32 Try.underlying31 (by kernel_rfl) (by kernel_rfl) (by decide) hf
  have key : ∀ k, k < n → ∃ p : Int × Int, G k 0 = .int .u64 p.1 ∧ G k 1 = .int .u64 p.2 ∧ (0 ≤ p.1 ∧ p.1 ≤ 18446744073709551615) ∧ (0 ≤ p.2 ∧ p.2 ≤ 18446744073709551615) := by
    intro k hkn
    obtain ⟨m0, y0, g0⟩ := hk k hkn 0 _ rfl
    obtain ⟨m1, y1, g1⟩ := hk k hkn 1 _ rfl
    obtain ⟨x0, e0, _, w0⟩ := DataW.trod_int Try.underlying22 g0
    obtain ⟨x1, e1, _, w1⟩ := DataW.trod_int Try.underlying22 g1
    simp only [List.cons.injEq, and_true] at e0 e1
    exact ⟨(x0, x1), e0, e1, bounds_u64 w0, bounds_u64 w1⟩
  have gen : ∀ n, (∀ k, k < n → ∃ p : Int × Int, G k 0 = .int .u64 p.1 ∧ G k 1 = .int .u64 p.2 ∧ (0 ≤ p.1 ∧ p.1 ≤ 18446744073709551615) ∧ (0 ≤ p.2 ∧ p.2 ≤ 18446744073709551615)) →
      ∃ L : List (Int × Int), L.length = n ∧ PairsOk L ∧ ∀ k, k < n → G k 0 = .int .u64 (L.getD k (0, 0)).1 ∧ G k 1 = .int .u64 (L.getD k (0, 0)).2 := by
    intro n
    induction n with
    | zero => exact fun _ => ⟨[], rfl, fun p hp => by simp at hp, fun k hk => absurd hk (by omega)⟩
    | succ n ih =>
      intro hh
      obtain ⟨L, hl, ho, hg⟩ := ih (fun k hk => hh k (by omega))
      obtain ⟨p, hp0, hp1, hp2⟩ := hh n (by omega)
      refine ⟨L ++ [p], by simp [hl], fun q hq => ?_, fun k hk => ?_⟩
      · rcases List.mem_append.1 hq with hq | hq
        · exact ho q hq
        · simp at hq; subst hq; exact hp2
      · by_cases hkn : k < n
        · have := hg k hkn
          simpa [List.getD, List.getElem?_append_left (show k < L.length by omega)] using this
        · obtain rfl : k = n := by omega
          simpa [List.getD, List.getElem?_append_right (show L.length ≤ k by omega), hl] using ⟨hp0, hp1⟩
  obtain ⟨L, hl, ho, hg⟩ := gen n key
  refine ⟨h1, h2, L, ⟨hl, fun k hkn => ?_⟩, ho⟩
  obtain ⟨b, off, e, hlt, hc⟩ := hs k hkn
  exact ⟨b, off, e, hlt, (by simpa using hc 0 (by decide) : _ = some (G k 0)).trans (congrArg some (hg k hkn).1), (by simpa [Nat.add_assoc] using hc 1 (by decide) : _ = some (G k 1)).trans (congrArg some (hg k hkn).2)⟩
theorem PairsOk.getD {L : List (Int × Int)} (h : PairsOk L) (k : Nat) : (0 ≤ (L.getD k (0, 0)).1 ∧ (L.getD k (0, 0)).1 ≤ 18446744073709551615) ∧ (0 ≤ (L.getD k (0, 0)).2 ∧ (L.getD k (0, 0)).2 ≤ 18446744073709551615) := by
  by_cases hk : k < L.length
  · have := h L[k] (List.getElem_mem hk)
    simpa [List.getD, hk] using this
  · simp [List.getD, hk]
set_option maxRecDepth 100000 in
theorem clone_any (v : Value) (base : Nat) (L : List Pk) (w : World) (h : w.ownsRow base 36 4 v L.length (pkcells L)) (hL : L.length ≤ 100000) :
    Calls Try.prog 36 #[v] w fun e w' => ∃ v', e = .returned v' ∧ w'.ownsRow w.heap.size 36 4 v' L.length (pkcells L) ∧ Below w.heap.size w w' := by
  obtain ⟨i0, hi, hz0, hz1, hz2⟩ := info_parts infoP
  rcases h.2 with ⟨rfl, h0⟩ | ⟨g, cap, cur, rfl, hb, hg, hn, hc, hs, hx⟩
  · have h0' : L = [] := List.eq_nil_of_length_eq_zero h0
    subst h0'
    have he : ∀ w : World, (binOp .eql 26 (.slice none 0 0) (.slice none 0 0)).run Try.prog w = .ok (.bool true) w := fun _ => rfl
    go_enter Try.func36, Try.ntmps36
    go_wp2_with fail
    go_ret
    exact ⟨_, rfl, World.ownsRow_nil _ _ _ _, Below.refl _ _⟩
  · have hr : RdV (w.alloc (.cells #[] 36)) 4 (some ⟨g, 0, none⟩) L.length (pkcells L) := by
      obtain ⟨A, cap', e, _, _, hsl⟩ := sl_of_own (h.alloc (.cells #[] 36))
      simp only [Value.slice.injEq] at e
      obtain ⟨rfl, _, rfl⟩ := e
      exact ⟨pkcells_len L, hsl⟩
    have hown0 : (w.alloc (.cells #[] 36)).ownsRow w.heap.size 36 4 (.slice (some ⟨w.heap.size, 0, none⟩) 0 0) 0 [] := World.ownsRow_made _ #[] 0 (Nat.le_refl _) (by decide) rfl
    have hone : ∀ u ∈ pkcells L, u.oneCell' = true := by
      intro u hu
      simp only [pkcells, List.mem_flatMap] at hu
      obtain ⟨p, _, hu⟩ := hu
      exact pk_cells_one p u hu
    have hB := (Below.refl w.heap.size w).alloc (Nat.le_refl _) (.cells #[] 36)
    clear hx
    have he : ∀ w : World, (binOp .eql 26 (.slice (some ⟨g, 0, none⟩) L.length cap) (.slice none 0 0)).run Try.prog w = .ok (.bool false) w := fun _ => rfl
    go_enter Try.func36, Try.ntmps36
    go_wp2_with (at_builtin; refine wpList_append_any _ rfl _ _ 26 rfl w.heap.size 36 i0 _ 4 32 Try.underlying26 hi hz0 hz1 hz2 rfl (by decide) _ 0 [] rfl hown0 (some ⟨g, 0, none⟩) L.length cap _ rfl hr hone (by unfold maxLen; omega) (by omega) (by simp) (by simp) ?_; intro v4 w4 hown4 hgrow4 hat4)
    have hB4 := hB.grown hgrow4 hB.size (fun b hb => (hown0.lt b hb).1)
    rw [Nat.zero_add, List.nil_append] at hown4
    obtain ⟨A4, cp4, rfl, _⟩ := sl_of_own hown4
    go_ret
    exact ⟨_, rfl, hown4, hB4⟩
set_option maxRecDepth 100000 in
theorem open_any (B g : Nat) (L : List Pk) (nx ak : Int) (sm : Bool) (w : World) (hl : Led B w g L nx ak sm) (hL : L.length ≤ 100000) :
    Calls Try.prog 15 #[.pointer (some ⟨g, 0, none⟩)] w fun e w' => ∃ v, e = .returned v ∧ w'.ownsRow w.heap.size 36 4 v L.length (pkcells L) ∧ Below w.heap.size w w' := by
  obtain ⟨hBg, V, hb, ho⟩ := hl
  obtain ⟨A, cap, rfl, _, _, hcm, _⟩ := pks_of_own ho
  have c0 : w.cell? ⟨g, 0, none⟩ = some (.slice A L.length cap) := hb.cell 0
  go_enter Try.func15, Try.ntmps15
  go_wp2_with fail
  refine (clone_any _ B L w ho hL).mono ?_
  rintro e w2 ⟨v, rfl, ho2, hb2⟩
  obtain ⟨A2, cp2, rfl, _⟩ := sl_of_own ho2
  go_wp2_with fail
  go_ret
  exact ⟨_, rfl, ho2, hb2⟩
/-! The plain law. -/
def okP (k : Nat) (x : Int × Int) : Bool := decide (x.1 ≤ x.2) && decide (x.2 ≤ (k : Int))
def okR (k : Nat) (R : List (Int × Int)) (j : Nat) : List (Int × Int) := (R.take (min j 6)).filter (okP k)
theorem okR_snoc (k : Nat) (R : List (Int × Int)) (j : Nat) (hj : j < R.length) : okR k R (j + 1) = okR k R j ++ (if decide (j < 6) && okP k (R.getD j (0, 0)) then [R.getD j (0, 0)] else []) := by
  have e : R.getD j (0, 0) = R[j] := by simp [List.getD, hj]
  rw [e]
  unfold okR
  by_cases h : j < 6
  · rw [show min (j + 1) 6 = j + 1 by omega, show min j 6 = j by omega, List.take_succ_eq_append_getElem hj, List.filter_append]
    congr 1
    simp [h, List.filter_cons]
  · rw [show min (j + 1) 6 = 6 by omega, show min j 6 = 6 by omega]
    simp [h]
theorem okR_len (k : Nat) (R : List (Int × Int)) (j : Nat) : (okR k R j).length ≤ 6 := Nat.le_trans (List.length_filter_le _ _) (by simp; omega)
theorem okR_mem (k : Nat) (R : List (Int × Int)) (j : Nat) : ∀ x ∈ okR k R j, x.1 ≤ x.2 ∧ x.2 ≤ k := by
  intro x hx
  have := (List.mem_filter.1 hx).2
  simpa [okP] using this
def lo1 (x : Int × Int) : Int := if x.1 < 1 then 1 else x.1
def nums (x : Int × Int) : List Int := (List.range (x.2 + 1 - lo1 x).toNat).map (fun (t : Nat) => lo1 x + (t : Int))
theorem nums_mem (x : Int × Int) (i : Int) : i ∈ nums x ↔ lo1 x ≤ i ∧ i ≤ x.2 := by
  simp only [nums, List.mem_map, List.mem_range]
  constructor
  · rintro ⟨t, ht, rfl⟩; omega
  · intro h; exact ⟨(i - lo1 x).toNat, by omega, by omega⟩
theorem nums_len (k : Nat) (x : Int × Int) (h : x.2 ≤ k) : (nums x).length ≤ k := by simp [nums]; unfold lo1; split <;> omega
def keysOf (L : List (Int × Int)) : List Int := L.flatMap nums
theorem keys_len (k : Nat) (L : List (Int × Int)) (h : ∀ x ∈ L, x.1 ≤ x.2 ∧ x.2 ≤ k) : (keysOf L).length ≤ L.length * k := by
  induction L with
  | nil => simp [keysOf]
  | cons x r ih =>
    have := ih (fun y hy => h y (by simp [hy]))
    have h2 := nums_len k x (h x (by simp)).2
    simp only [keysOf, List.flatMap_cons, List.length_append, List.length_cons] at this ⊢
    rw [Nat.succ_mul]
    omega
open Go.Maps in
theorem addKey_fold (xs : List Lit) (hx : ∀ x ∈ xs, WideAt.IsKeyLit x) : ∀ acc : List Lit, acc.Nodup → (∀ x ∈ acc, WideAt.IsKeyLit x) → (xs.foldl addKey acc).Nodup ∧ ∀ a, a ∈ xs.foldl addKey acc ↔ a ∈ acc ∨ a ∈ xs := by
  induction xs with
  | nil => intro acc h _; exact ⟨h, fun a => by simp⟩
  | cons y r ih =>
    intro acc h hk
    have hy := hx y (by simp)
    have hany : acc.any (fun z => z.sameKey y) = true ↔ y ∈ acc := by
      rw [List.any_eq_true]
      constructor
      · rintro ⟨z, hz, e⟩; rw [(WideAt.sameKey_iff hy).1 e] at hz; exact hz
      · intro hm; exact ⟨y, hm, WideAt.sameKey_self hy⟩
    rw [List.foldl_cons]
    by_cases hm : y ∈ acc
    · rw [show addKey acc y = acc by unfold addKey; rw [if_pos (hany.2 hm)]]
      obtain ⟨h1, h2⟩ := ih (fun x hx' => hx x (by simp [hx'])) acc h hk
      refine ⟨h1, fun a => ?_⟩
      rw [h2 a, List.mem_cons]
      constructor
      · rintro (h | h)
        · exact .inl h
        · exact .inr (.inr h)
      · rintro (h | rfl | h)
        · exact .inl h
        · exact .inl hm
        · exact .inr h
    · rw [show addKey acc y = acc ++ [y] by unfold addKey; rw [if_neg (fun e => hm (hany.1 e))]]
      obtain ⟨h1, h2⟩ := ih (fun x hx' => hx x (by simp [hx'])) (acc ++ [y]) (by
        rw [List.nodup_append]
        exact ⟨h, by simp, fun a ha b hb => by simp at hb; subst hb; rintro rfl; exact hm ha⟩) (fun x hx' => by
        rcases List.mem_append.1 hx' with h | h
        · exact hk x h
        · simp at h; subst h; exact hy)
      refine ⟨h1, fun a => ?_⟩
      rw [h2 a, List.mem_append, List.mem_singleton, List.mem_cons]
      constructor
      · rintro ((h | h) | h)
        · exact .inl h
        · exact .inr (.inl h)
        · exact .inr (.inr h)
      · rintro (h | h | h)
        · exact .inl (.inl h)
        · exact .inl (.inr h)
        · exact .inr h
open Go.Maps in
theorem gives_size (k : Nat) (L : List (Int × Int)) (h : ∀ x ∈ L, x.1 ≤ x.2 ∧ x.2 ≤ k) (h0 : ∀ x ∈ L, 0 ≤ x.1) : ((keysOf L).map kint |>.foldl addKey []).length = ((sentL k).filter (inR L)).length := by
  obtain ⟨h1, h2⟩ := addKey_fold ((keysOf L).map kint) (fun x hx => by obtain ⟨y, _, rfl⟩ := List.mem_map.1 hx; trivial) [] (by simp) (fun x hx => by simp at hx)
  have h3 : (((sentL k).filter (inR L)).map (fun p => kint p.num)).Nodup := by
    have hs : (sentL k).Pairwise (fun a b => a.num ≠ b.num) := by
      unfold sentL
      rw [List.pairwise_map]
      exact List.Pairwise.imp (fun {a b} hab => by simp [sentP]; omega) (List.nodup_range (n := k))
    unfold List.Nodup
    rw [List.pairwise_map]
    exact (hs.filter _).imp (fun {a b} hab => kint_inj hab)
  have hp := (List.perm_ext_iff_of_nodup h1 h3).2 (fun a => ?_)
  · rw [hp.length_eq, List.length_map]
  · rw [h2 a]
    simp only [List.not_mem_nil, false_or, List.mem_map, keysOf, List.mem_flatMap, List.mem_filter, sentL, List.mem_range]
    constructor
    · rintro ⟨i, ⟨x, hx, hi⟩, rfl⟩
      have hb := h x hx
      rw [nums_mem] at hi
      have hl : 1 ≤ lo1 x ∧ x.1 ≤ lo1 x := by unfold lo1; split <;> omega
      refine ⟨sentP (i - 1).toNat, ⟨⟨(i - 1).toNat, by omega, rfl⟩, ?_⟩, ?_⟩
      · unfold inR
        rw [List.any_eq_true]
        refine ⟨x, hx, ?_⟩
        simp [sentP]
        omega
      · simp only [sentP]
        rw [show (((i - 1).toNat : Nat) : Int) + 1 = i by omega]
    · rintro ⟨p, ⟨⟨j, hj, rfl⟩, hi⟩, rfl⟩
      unfold inR at hi
      rw [List.any_eq_true] at hi
      obtain ⟨x, hx, hi⟩ := hi
      have hx0 := h0 x hx
      have hs : (sentP j).num = j + 1 := rfl
      refine ⟨(sentP j).num, ⟨x, hx, ?_⟩, rfl⟩
      rw [nums_mem]
      simp [hs] at hi ⊢
      unfold lo1
      split <;> omega
theorem gives_has (k : Nat) (L : List (Int × Int)) (h0 : ∀ x ∈ L, 0 ≤ x.1) : ∀ p ∈ (sentL k).filter (inR L), (keysOf L).contains p.num = true := by
  intro p hp
  obtain ⟨hp, hi⟩ := List.mem_filter.1 hp
  simp only [sentL, List.mem_map, List.mem_range] at hp
  obtain ⟨j, hj, rfl⟩ := hp
  unfold inR at hi
  rw [List.any_eq_true] at hi
  obtain ⟨x, hx, hi⟩ := hi
  have hx0 := h0 x hx
  have hs : (sentP j).num = j + 1 := rfl
  rw [List.contains_iff_mem]
  simp only [keysOf, List.mem_flatMap]
  refine ⟨x, hx, ?_⟩
  rw [nums_mem]
  simp [hs] at hi ⊢
  unfold lo1
  split <;> omega
theorem fil_not (f : Pk → Bool) (L : List Pk) : (L.filter (fun p => !f p)).filter f = [] ∧ (L.filter (fun p => !f p)).filter (fun p => !f p) = L.filter (fun p => !f p) ∧ (L.filter (fun p => !f p)).length + (L.filter f).length = L.length := by
  refine ⟨?_, ?_, ?_⟩
  · rw [List.filter_eq_nil_iff]
    intro p hp
    have := (List.mem_filter.1 hp).2
    simpa using this
  · rw [List.filter_eq_self]
    intro p hp
    exact (List.mem_filter.1 hp).2
  · induction L with
    | nil => rfl
    | cons a r ih =>
      rw [List.filter_cons, List.filter_cons]
      cases f a <;> simp <;> omega

end Go.Proofs.Ytohjifbkjfnkfaa
