/-
  What a reader reads of bytes that were written: a front, objects behind it, in plain words.
-/
import Derived.Test.YthmdbkefbbjfmaaIputw
import Derived.Test.YthmdbkefbbjfmaaIgrams
namespace Go.Proofs.Ythmdbkefbbjfmaa
open Go.RowKit
set_option linter.unusedVariables false
set_option linter.unusedSimpArgs false


theorem num_on (n : Int) (rest : List Int) (h0 : 0 ≤ n) (h : vsz n ≠ 0) : numS (vform n (vsz n) ++ rest, 0) = (n, (rest, 0)) := by
  unfold numS
  rw [if_pos rfl, takeR_some (vform_take n rest h0 h)]
theorem join2 (a b : Int) : joinN [a, b] = vform a (vsz a) ++ vform b (vsz b) := by simp [joinN]
theorem join1 (a : Int) : joinN [a] = vform a (vsz a) := by simp [joinN]
theorem join3 (a b c : Int) : joinN [a, b, c] = vform a (vsz a) ++ (vform b (vsz b) ++ vform c (vsz c)) := by simp [joinN]
theorem fit_of {l : List Int} (h : fitB l = true) {n : Int} (hn : n ∈ l) : vsz n ≠ 0 := fitB_yes h n hn
theorem text_on (l rest : List Int) (hl : l.length ≤ 2048) : textS (txtB l ++ rest, 0) = (l, (rest, 0)) := by
  unfold textS
  rw [if_pos rfl]
  have hz : vsz (l.length : Int) ≠ 0 := vsz_some (by omega)
  have ht : vtake (txtB l ++ rest) = some ((l.length : Int), l ++ rest) := by
    unfold txtB
    rw [List.append_assoc]
    exact vform_take _ _ (by omega) hz
  rw [vtext_some _ ht, if_neg (by omega), if_neg (by simp; omega)]
  simp
theorem front_on (f : Bool) (id g pr : Int) (rest : List Int) (hi : 0 ≤ id) (hg : 0 ≤ g) (h : (beginR f id g pr).2 = 0) : frontS ((beginR f id g pr).1 ++ rest, 0) = (some (f, id, g, pr), (rest, 0)) := by
  unfold beginR at h ⊢
  cases f
  · simp only [Bool.false_eq_true, if_false] at h ⊢
    by_cases hf : fitB [16, id, g] = true
    · rw [if_pos hf]
      have f1 := fit_of hf (n := 16) (by simp)
      have f2 := fit_of hf (n := id) (by simp)
      have f3 := fit_of hf (n := g) (by simp)
      rw [join3]
      simp only [List.append_assoc]
      unfold frontS
      rw [num_on 16 _ (by decide) f1]
      simp only
      rw [if_neg (by simp), if_neg (by decide), if_pos trivial, num_on id _ hi f2]
      simp only
      rw [num_on g _ hg f3]
      simp [oneS]
    · rw [if_neg hf] at h; simp at h
  · simp only [if_true] at h ⊢
    by_cases hf : fitB [5, id] = true ∧ g = 0 ∧ pr = 0
    · rw [if_pos hf]
      obtain ⟨hf, rfl, rfl⟩ := hf
      have f1 := fit_of hf (n := 5) (by simp)
      have f2 := fit_of hf (n := id) (by simp)
      rw [join2]
      simp only [List.append_assoc]
      unfold frontS
      rw [num_on 5 _ (by decide) f1]
      simp only
      rw [if_neg (by simp), if_pos trivial, num_on id _ hi f2]
    · rw [if_neg hf] at h; simp at h
theorem next_len (f : Bool) (hg hp G O pr : Int) (gr : Bool) (l : List Int) (h : (nextR f hg hp G O pr gr l).2 = 0) : l.length ≤ 2048 ∧ (nextR f hg hp G O pr gr l).1 ≠ [] := by
  unfold nextR at h ⊢
  by_cases h1 : 2048 < l.length
  · rw [if_pos h1] at h; simp at h
  · rw [if_neg h1] at h ⊢
    refine ⟨by omega, ?_⟩
    have hp : ∀ O, fitB [O] = true → joinN [O] ≠ [] := fun O hO e => by
      have h2 := congrArg List.length e
      rw [join1] at h2
      have hz := fit_of hO (n := O) (by simp)
      have := vform_len O (vsz O) (vsz_in O hz)
      rw [this] at h2
      exact hz (by simpa using h2)
    cases f
    · simp only [Bool.false_eq_true, if_false] at h ⊢
      split
      · rename_i h2
        have := hp O h2.2.1
        intro e
        simp at e
        exact this e.1
      · rename_i h2; rw [if_neg h2] at h; simp at h
    · simp only [if_true] at h ⊢
      split
      · simp
      · rename_i h2; rw [if_neg h2] at h; simp at h
theorem rd_on (f : Bool) (hg hp G O pr : Int) (l rest : List Int) (hG : 0 ≤ G) (hO : 0 ≤ O) (h : (nextR f hg hp G O pr false l).2 = 0) : rdS f hg hp ((nextR f hg hp G O pr false l).1 ++ rest, 0) = ((G, O, pr), (txtB l ++ rest, 0)) := by
  unfold nextR at h ⊢
  by_cases h1 : 2048 < l.length
  · rw [if_pos h1] at h; simp at h
  · rw [if_neg h1] at h ⊢
    cases f
    · simp only [Bool.false_eq_true, if_false] at h ⊢
      by_cases h2 : True ∧ fitB [O] = true ∧ G = hg ∧ pr = hp ∧ G ≤ 4611686018427387903
      · rw [if_pos (by simpa using h2)]
        obtain ⟨_, hf, rfl, rfl, _⟩ := h2
        have f1 := fit_of hf (n := O) (by simp)
        rw [join1]
        simp only [List.append_assoc]
        unfold rdS
        rw [if_neg (by decide), num_on O _ hO f1]
      · rw [if_neg (by simpa using h2)] at h; simp at h
    · simp only [if_true] at h ⊢
      by_cases h2 : True ∧ fitB [G, O] = true
      · rw [if_pos (by simpa using h2)]
        obtain ⟨_, hf⟩ := h2
        have f1 := fit_of hf (n := G) (by simp)
        have f2 := fit_of hf (n := O) (by simp)
        rw [join2]
        simp only [List.append_assoc]
        unfold rdS
        rw [if_pos rfl, num_on G _ hG f1]
        simp only
        rw [num_on O _ hO f2]
        simp [oneS]
      · rw [if_neg (by simpa using h2)] at h; simp at h
theorem obj_on (f : Bool) (hg hp : Int) (sm : Bool) (lg lo G O pr : Int) (l rest : List Int) (hG : 0 ≤ G) (hO : 0 ≤ O) (h : (nextR f hg hp G O pr false l).2 = 0) :
    objS f hg hp sm lg lo ((nextR f hg hp G O pr false l).1 ++ rest, 0) = if (sm && !lessP lg lo G O) = true then ((G, O, pr), [], (txtB l ++ rest, 4)) else ((G, O, pr), l, (rest, 0)) := by
  have e := rd_on f hg hp G O pr l rest hG hO h
  unfold objS
  rw [e]
  simp only
  rw [if_neg (by simp)]
  split
  · rfl
  · rw [text_on l rest (next_len _ _ _ _ _ _ _ _ h).1]
/-- What was read, once it is known how many rounds there were. -/
theorem rounds_one {k n : Nat} {s : RS} (h1 : ∀ j, j < k → (iterR j s).cont = true) (h2 : (iterR k s).cont = false) (h3 : ∀ j, j < n → (iterR j s).cont = true) (h4 : (iterR n s).cont = false) : k = n := by
  rcases Nat.lt_trichotomy k n with h | h | h
  · have := h3 k h; rw [h2] at this; cases this
  · exact h
  · have := h1 n h; rw [h4] at this; cases this
theorem falls_law (f : Bool) (id g pr G O P G' O' P' : Int) (l l' : List Int) (hi : 0 ≤ id) (hg : 0 ≤ g) (hG : 0 ≤ G) (hO : 0 ≤ O) (hG' : 0 ≤ G') (hO' : 0 ≤ O')
    (hb : (beginR f id g pr).2 = 0) (ha : (nextR f g pr G O P false l).2 = 0) (hx : (nextR f g pr G' O' P' false l').2 = 0)
    (k : Nat) (h1 : ∀ j, j < k → (iterR j (rs0 ((beginR f id g pr).1 ++ ((nextR f g pr G O P false l).1 ++ (nextR f g pr G' O' P' false l').1)))).cont = true)
    (h2 : (iterR k (rs0 ((beginR f id g pr).1 ++ ((nextR f g pr G O P false l).1 ++ (nextR f g pr G' O' P' false l').1)))).cont = false) :
    (lessP G O G' O' = true → (iterR k (rs0 ((beginR f id g pr).1 ++ ((nextR f g pr G O P false l).1 ++ (nextR f g pr G' O' P' false l').1)))).e = 0 ∧ (iterR k (rs0 ((beginR f id g pr).1 ++ ((nextR f g pr G O P false l).1 ++ (nextR f g pr G' O' P' false l').1)))).out = [((G, O, P), l), ((G', O', P'), l')]) ∧
    (lessP G O G' O' = false → (iterR k (rs0 ((beginR f id g pr).1 ++ ((nextR f g pr G O P false l).1 ++ (nextR f g pr G' O' P' false l').1)))).e = 4 ∧ (iterR k (rs0 ((beginR f id g pr).1 ++ ((nextR f g pr G O P false l).1 ++ (nextR f g pr G' O' P' false l').1)))).out = [((G, O, P), l)]) := by
  obtain ⟨_, hqa⟩ := next_len _ _ _ _ _ _ _ _ ha
  obtain ⟨_, hqx⟩ := next_len _ _ _ _ _ _ _ _ hx
  have hB := front_on f id g pr ((nextR f g pr G O P false l).1 ++ (nextR f g pr G' O' P' false l').1) hi hg hb
  have hA := obj_on f g pr false 0 0 G O P l (nextR f g pr G' O' P' false l').1 hG hO ha
  have hX := obj_on f g pr true G O G' O' P' l' [] hG' hO' hx
  rw [List.append_nil] at hX
  obtain ⟨FB, hFB⟩ : ∃ x, x = (beginR f id g pr).1 := ⟨_, rfl⟩
  obtain ⟨QA, hQA⟩ : ∃ x, x = (nextR f g pr G O P false l).1 := ⟨_, rfl⟩
  obtain ⟨QX, hQX⟩ : ∃ x, x = (nextR f g pr G' O' P' false l').1 := ⟨_, rfl⟩
  rw [← hFB, ← hQA, ← hQX] at h1 h2 hB ⊢
  rw [← hQA, ← hQX] at hA
  rw [← hQX] at hX hqx
  rw [← hQA] at hqa
  have i1 : iterR 1 (rs0 (FB ++ (QA ++ QX))) = ⟨true, (f, id, g, pr), false, 0, 0, QA ++ QX, [], 0⟩ := by
    show stepR (rs0 _) = _
    unfold stepR stepF rs0
    simp only [if_true]
    rw [hB]
    rfl
  have i2 : iterR 2 (rs0 (FB ++ (QA ++ QX))) = ⟨true, (f, id, g, pr), true, G, O, QX, [((G, O, P), l)], 0⟩ := by
    show stepR (iterR 1 _) = _
    rw [i1]
    unfold stepR stepO
    rw [if_neg (by simp)]
    simp only
    rw [hA]
    rfl
  have c0 : (iterR 0 (rs0 (FB ++ (QA ++ QX)))).cont = true := by simp [iterR, RS.cont, rs0]
  have c1 : (iterR 1 (rs0 (FB ++ (QA ++ QX)))).cont = true := by rw [i1]; simp [RS.cont, hqa]
  have c2 : (iterR 2 (rs0 (FB ++ (QA ++ QX)))).cont = true := by rw [i2]; simp [RS.cont, hqx]
  have call : ∀ j, j < 3 → (iterR j (rs0 (FB ++ (QA ++ QX)))).cont = true := fun j hj => by
    match j, hj with
    | 0, _ => exact c0
    | 1, _ => exact c1
    | 2, _ => exact c2
  constructor
  · intro hl
    have i3 : iterR 3 (rs0 (FB ++ (QA ++ QX))) = ⟨true, (f, id, g, pr), true, G', O', [], [((G, O, P), l), ((G', O', P'), l')], 0⟩ := by
      show stepR (iterR 2 _) = _
      rw [i2]
      unfold stepR stepO
      rw [if_neg (by simp)]
      simp only
      rw [hX, hl]
      rfl
    obtain rfl := rounds_one h1 h2 call (by rw [i3]; rfl)
    rw [i3]
    exact ⟨rfl, rfl⟩
  · intro hl
    have i3 : iterR 3 (rs0 (FB ++ (QA ++ QX))) = ⟨true, (f, id, g, pr), true, G, O, QX, [((G, O, P), l)], 4⟩ := by
      show stepR (iterR 2 _) = _
      rw [i2]
      unfold stepR stepO
      rw [if_neg (by simp)]
      simp only
      rw [hX, hl]
      rfl
    obtain rfl := rounds_one h1 h2 call (by rw [i3]; rfl)
    rw [i3]
    exact ⟨rfl, rfl⟩
/-- A row of objects that reads as a list. -/
def Obr (w : World) (A : Option Addr) (n : Nat) (L : List Obv) : Prop :=
  L.length = n ∧ ∀ k, k < n → ∃ b off, A = some ⟨b, off, none⟩ ∧ b < w.heap.size ∧ (∀ j, j < 5 → w.cell? ⟨b, off + (k * 5 + j), none⟩ = (obc (L.getD k ((0, 0, 0), [], undef)))[j]?) ∧ Rd w .u8 (L.getD k ((0, 0, 0), [], undef)).2.2 (L.getD k ((0, 0, 0), [], undef)).2.1
theorem obcells_at (L : List Obv) (k j : Nat) (hk : k < L.length) (hj : j < 5) : (obcells L).getD (k * 5 + j) undef = (obc (L.getD k ((0, 0, 0), [], undef))).getD j undef := by
  induction L generalizing k with
  | nil => simp at hk
  | cons p r ih =>
    have hl : (obc p).length = 5 := rfl
    cases k with
    | zero => simp [obcells, List.flatMap_cons, List.getD, List.getElem?_append_left (show j < (obc p).length by omega)]
    | succ k =>
      have := ih k (by simpa using hk)
      simp only [obcells] at this
      simp only [obcells, List.flatMap_cons, List.getD, List.getElem?_append_right (show (obc p).length ≤ (k + 1) * 5 + j by omega), hl]
      rw [show (k + 1) * 5 + j - 5 = k * 5 + j by omega]
      simpa [List.getD] using this
theorem obr_of_own {w : World} {base n : Nat} {v : Value} {L : List Obv} (h : w.ownsRow base 29 5 v n (obcells L)) (hO : ObsOk w L) : ∃ A cap, v = .slice A L.length cap ∧ L.length ≤ cap ∧ cap ≤ maxLen ∧ Obr w A L.length L := by
  have hn : n = L.length := by have := h.1; rw [obcells_len] at this; omega
  subst hn
  obtain ⟨A, cap, e, h1, h2, h3⟩ := sl_of_own h
  refine ⟨A, cap, e, h1, h2, rfl, fun k hk => ?_⟩
  obtain ⟨b, off, ea, hb, hc⟩ := h3 k hk
  have e : L.getD k ((0, 0, 0), [], undef) = L[k] := by simp [List.getD, hk]
  refine ⟨b, off, ea, hb, fun j hj => ?_, by rw [e]; exact (hO _ (List.getElem_mem hk)).1⟩
  have hlen : j < (obc (L.getD k ((0, 0, 0), [], undef))).length := hj
  refine (hc j hj).trans ?_
  rw [List.getElem?_eq_getElem hlen]
  have := obcells_at L k j hk hj
  rw [List.getD_eq_getElem?_getD (l := obc _), List.getElem?_eq_getElem hlen] at this
  exact congrArg some this
set_option maxHeartbeats 2000000 in
set_option maxRecDepth 100000 in
theorem samel (A A' : Option Addr) (n cap cap' : Nat) (L L' : List Obv) (w : World) (h : Obr w A n L) (h' : Obr w A' n L') (he : obOut L = obOut L') (hn : n ≤ 1000000) (hc : n ≤ cap) (hc' : n ≤ cap') (hm : cap ≤ maxLen) (hm' : cap' ≤ maxLen) :
    Calls Try.prog 18 #[.slice A n cap, .slice A' n cap'] w fun e w' => e = .returned (.bool true) ∧ ∃ m, w.drewN m = w' := by
  have hq : cap ≤ 9223372036854775807 := by unfold maxLen at hm; omega
  have hq' : cap' ≤ 9223372036854775807 := by unfold maxLen at hm'; omega
  clear hm hm'
  have H := Lib.hid h
  have H' := Lib.hid h'
  have HE := Lib.hid he
  clear h h' he
  go_enter Try.func18, Try.ntmps18
  go_wp2_with fail
  go_loopw [13] (fun i wr => ∃ (k m : Nat), k ≤ n ∧ i = .int .i64 k ∧ wr = w.drewN m) (fun i _ => n - (intOf i).toNat)
  case atStart => exact ⟨0, 0, Nat.zero_le _, rfl, rfl⟩
  case round =>
    obtain ⟨k, m, hkn, rfl, rfl⟩ := hrel
    by_cases hlt : k < n
    · obtain ⟨b, off, rfl, hb, hx, hv⟩ := H.out.2 k hlt
      obtain ⟨b', off', rfl, hb', hx', hv'⟩ := H'.out.2 k hlt
      have hl : k < L.length := by rw [H.out.1]; exact hlt
      have hl' : k < L'.length := by rw [H'.out.1]; exact hlt
      have e0 : (L.getD k ((0, 0, 0), [], undef)).1 = (L'.getD k ((0, 0, 0), [], undef)).1 ∧ (L.getD k ((0, 0, 0), [], undef)).2.1 = (L'.getD k ((0, 0, 0), [], undef)).2.1 := by
        have e1 := congrArg (fun l => l[k]?) HE.out
        simp only [obOut, List.getElem?_map, List.getElem?_eq_getElem hl, List.getElem?_eq_getElem hl', Option.map_some, Option.some.injEq, Prod.mk.injEq] at e1
        simp only [List.getD, List.getElem?_eq_getElem hl, List.getElem?_eq_getElem hl', Option.getD_some]
        exact e1
      obtain ⟨x, hxx⟩ : ∃ x, x = L.getD k ((0, 0, 0), [], undef) := ⟨_, rfl⟩
      obtain ⟨x', hxx'⟩ : ∃ x, x = L'.getD k ((0, 0, 0), [], undef) := ⟨_, rfl⟩
      rw [← hxx] at hx hv e0
      rw [← hxx'] at hx' hv' e0
      clear hxx hxx'
      obtain ⟨⟨G, O, P⟩, d, V⟩ := x
      obtain ⟨x1, d', V'⟩ := x'
      obtain ⟨rfl, rfl⟩ := e0
      simp only at hv hv'
      have c0 : w.cell? ⟨b, off + k * 5, none⟩ = some (.int .u64 G) := by simpa [obc] using hx 0 (by decide)
      have c1 : w.cell? ⟨b, off + k * 5 + 1, none⟩ = some (.int .u64 O) := by simpa [obc, Nat.add_assoc] using hx 1 (by decide)
      have c2 : w.cell? ⟨b, off + k * 5 + 2, none⟩ = some (.int .u8 P) := by simpa [obc, Nat.add_assoc] using hx 2 (by decide)
      have c3 : w.cell? ⟨b, off + k * 5 + 3, none⟩ = some (.bool false) := by simpa [obc, Nat.add_assoc] using hx 3 (by decide)
      have c4 : w.cell? ⟨b, off + k * 5 + 4, none⟩ = some V := by simpa [obc, Nat.add_assoc] using hx 4 (by decide)
      have d0 : w.cell? ⟨b', off' + k * 5, none⟩ = some (.int .u64 G) := by simpa [obc] using hx' 0 (by decide)
      have d1 : w.cell? ⟨b', off' + k * 5 + 1, none⟩ = some (.int .u64 O) := by simpa [obc, Nat.add_assoc] using hx' 1 (by decide)
      have d2 : w.cell? ⟨b', off' + k * 5 + 2, none⟩ = some (.int .u8 P) := by simpa [obc, Nat.add_assoc] using hx' 2 (by decide)
      have d3 : w.cell? ⟨b', off' + k * 5 + 3, none⟩ = some (.bool false) := by simpa [obc, Nat.add_assoc] using hx' 3 (by decide)
      have d4 : w.cell? ⟨b', off' + k * 5 + 4, none⟩ = some V' := by simpa [obc, Nat.add_assoc] using hx' 4 (by decide)
      clear hx hx'
      have HV := Lib.hid hv
      have HV' := Lib.hid hv'
      obtain ⟨Av, cv, rfl⟩ := hv.form
      obtain ⟨Av', cv', rfl⟩ := hv'.form
      clear hv hv'
      go_wp2_with fail
      go_quiet ((go_at_call 17; first | exact quiet_one (same_yes _ _ d _ HV.out HV'.out) | exact quiet_add (same_yes _ _ d _ HV.out HV'.out)))
      go_wp2_with fail
      go_roundw
      case rel => exact ⟨k + 1, _, by omega, by go_num, by first | rfl | rw [World.drewN_drewN]⟩
      case measure => simp [intOf]; omega
    · go_wp2_with fail
      go_ret
      exact ⟨rfl, m, rfl⟩

end Go.Proofs.Ythmdbkefbbjfmaa
