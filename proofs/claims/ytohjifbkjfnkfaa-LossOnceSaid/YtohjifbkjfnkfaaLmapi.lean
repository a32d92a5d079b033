/-
  A map of the call's own from numbers to numbers, told by a function that is nought where there is no entry.
-/
import Derived.Test.YtohjifbkjfnkfaaLmap
import Derived.Maps.RangeWalk
namespace Go.Proofs.Ytohjifbkjfnkfaa
open Go.RowKit
set_option linter.unusedVariables false
set_option linter.unusedSimpArgs false


open Go.Maps (Keyed int_keyed keyOf_int_mk)
open Go.Maps
theorem zeroI (w : World) : (zeroValue 3).run Try.prog w = .ok (.int .i64 0) w := by kernel_rfl
/-- What a map reads as. -/
def FunOf (D : DataW Unit) (f : Int → Int) : Prop := IsMap D ∧ (∀ x, D.atKey (kint x) (.lit (.int .i64 0)) = .lit (.int .i64 (f x))) ∧ (∀ x, Maps.has D (kint x) = decide (f x ≠ 0))
def MapF (w : World) (b n : Nat) (f : Int → Int) : Prop := ∃ D : DataW Unit, w.ownsMap Try.prog 22 (plainElem (H := Unit) Try.prog 3) b n D ∧ FunOf D f
def upd (f : Int → Int) (x v : Int) : Int → Int := fun y => if y = x then v else f y
theorem funOf_put {D : DataW Unit} {f : Int → Int} (h : FunOf D f) (x v : Int) (hv : v ≠ 0) : FunOf (D.put (kint x) (.lit (.int .i64 v))) (upd f x v) := by
  obtain ⟨h1, h2, h3⟩ := h
  refine ⟨h1.put _ _, fun y => ?_, fun y => ?_⟩
  · by_cases e : y = x
    · subst e
      rw [atKey_put_same h1 (show WideAt.IsKeyLit (kint y) from trivial)]
      simp [upd]
    · rw [atKey_put_other (kint_inj e), h2 y]
      simp [upd, e]
  · by_cases e : y = x
    · subst e
      rw [has_put_same h1 (show WideAt.IsKeyLit (kint y) from trivial)]
      simp [upd, hv]
    · rw [has_put_other (kint_inj e), h3 y]
      simp [upd, e]
theorem MapF.grown {w w' : World} {b n : Nat} {f : Int → Int} {r : Option Nat} (h : MapF w b n f) (hg : w.grownBy w' r) (hne : some b ≠ r) : MapF w' b n f := by
  obtain ⟨D, h1, h2⟩ := h
  exact ⟨D, h1.kept hg hne, h2⟩
theorem MapF.below {w w' : World} {b n : Nat} {f : Int → Int} (h : MapF w b n f) (hb : Below w.heap.size w w') : MapF w' b n f := h.grown (grown_below hb none) (by simp)
theorem MapF.lt {w : World} {b n : Nat} {f : Int → Int} (h : MapF w b n f) : b < w.heap.size := by
  obtain ⟨D, h1, _⟩ := h
  exact h1.lt
theorem MapF.mono {w : World} {b n n' : Nat} {f : Int → Int} (h : MapF w b n f) (hn : n ≤ n') : MapF w b n' f := by
  obtain ⟨D, h1, h2⟩ := h
  exact ⟨D, h1.mono hn, h2⟩
theorem mapF_made (w : World) : MapF (w.alloc (.map #[] 0)) w.heap.size 0 (fun _ => 0) := ⟨_, World.ownsMap_made w Try.prog 22 _, isMap_empty, fun x => rfl, fun x => rfl⟩
theorem own_map_ne {w : World} {b base n m : Nat} {f : Int → Int} {e : TypeId} {size : Nat} {v : Value} {xs : List Value} (h : w.ownsRow base e size v n xs) (hs : MapF w b m f) : v.ownBlock ≠ some b := by
  rcases h.2 with ⟨rfl, _⟩ | ⟨g', cap, cur, rfl, _, hh, _⟩
  · simp [Value.ownBlock]
  · intro he
    have : g' = b := by simpa [Value.ownBlock] using he
    subst this
    obtain ⟨D, ⟨es, cl, h1, _⟩, _⟩ := hs
    rw [hh] at h1
    cases h1
theorem wpList_look_map (w : World) {ops : Array Oper} {rest : List Oper} {o : Oper} {a : Act} {Q : Exit → Act → World → Prop}
    (hg : o.guard = none) (m x : Operand) (hop : o.op = Op.lookup 48 m x false) (b n : Nat) (f : Int → Int)
    (hm : a.eval m = .map (some b)) (hown : MapF w b n f) (k : Int) (hx : a.eval x = .int .u64 k) (hn : 0 ≤ k ∧ k ≤ 18446744073709551615)
    (hK : wpList Try.prog ops Q rest (a.put o.dst (.int .i64 (f k))) w) : wpList Try.prog ops Q (o :: rest) a w := by
  obtain ⟨D, h1, h2⟩ := hown
  refine wpList_lookup_own_int w hg m x 48 hop 22 3 .i64 lawU Try.underlying48 Try.underlying3 (zeroI w) b n D hm h1 _ (kint k) hx (keyOf_int_mk Try.underlying22 (wf_u64' hn)) ?_
  intro c hat _
  rw [h2.2.1 k] at hat
  injection hat with hat
  injection hat with _ hat
  rw [← hat]
  exact hK
theorem wpList_put_map (w : World) {ops : Array Oper} {rest : List Oper} {o : Oper} {a : Act} {Q : Exit → Act → World → Prop}
    (hg : o.guard = none) (m x v : Operand) (hop : o.op = Op.mapUpdate 48 m x v) (b n : Nat) (f : Int → Int)
    (hm : a.eval m = .map (some b)) (hown : MapF w b n f) (hl : n < 1000000) (k c : Int) (hx : a.eval x = .int .u64 k) (hv : a.eval v = .int .i64 c) (hn : 0 ≤ k ∧ k ≤ 18446744073709551615) (hc : c ≠ 0 ∧ 0 ≤ c ∧ c ≤ 100)
    (hK : ∀ w', MapF w' b (n + 1) (upd f k c) → w.grownBy w' (some b) → wpList Try.prog ops Q rest (a.put o.dst undef) w') : wpList Try.prog ops Q (o :: rest) a w := by
  obtain ⟨D, h1, h2⟩ := hown
  refine wpList_mapUpdate_own w hg m x v 48 hop 22 3 lawU Try.underlying48 (plainElem (H := Unit) Try.prog 3) b n D hm h1 (by unfold maxLen; omega) _ _ (kint k) hx hv (keyOf_int_mk Try.underlying22 (wf_u64' hn)) (.lit (.int .i64 c)) [] (plainElem_int Try.underlying3 (Go.WalkArith.wf_i64 (by omega))) ?_
  intro w' h3 h4
  exact hK w' ⟨_, h3, funOf_put h2 k c hc.1⟩ h4
/-- A loop over the map under way: which numbers are still to come. -/
def RanF (w : World) (b r n : Nat) (f : Int → Int) (left : Int → Bool) : Prop := ∃ (D : DataW Unit) (lf : Lit → Bool) (cnt : Nat), w.ranges Try.prog 22 (plainElem (H := Unit) Try.prog 3) b r n D lf cnt ∧ FunOf D f ∧ (∀ x, lf (kint x) = left x)
theorem RanF.owns {w : World} {b r n : Nat} {f : Int → Int} {left : Int → Bool} (h : RanF w b r n f left) : MapF w b n f := by
  obtain ⟨D, lf, cnt, h1, h2, _⟩ := h
  exact ⟨D, h1.owns, h2⟩
theorem wpList_range_map (w : World) {ops : Array Oper} {rest : List Oper} {o : Oper} {a : Act} {Q : Exit → Act → World → Prop} (hg : o.guard = none) (m : Operand) (hop : o.op = Op.range 48 m) (b n : Nat) (f : Int → Int)
    (hm : a.eval m = .map (some b)) (hown : MapF w b n f)
    (hK : ∀ w', RanF w' b w.heap.size n f (fun x => decide (f x ≠ 0)) → w.grownBy w' none → wpList Try.prog ops Q rest (a.put o.dst (.pointer (some ⟨w.heap.size, 0, none⟩))) w') :
    wpList Try.prog ops Q (o :: rest) a w := by
  obtain ⟨D, h1, h2⟩ := hown
  refine wpList_range_own w hg m 48 hop 22 3 lawU Try.underlying48 _ b n D hm h1 ?_
  intro w' h3 h4 _
  exact hK w' ⟨D, _, _, h3, h2, h2.2.2⟩ h4
theorem wpList_next_map (w : World) {ops : Array Oper} {rest : List Oper} {o : Oper} {a : Act} {Q : Exit → Act → World → Prop} (hg : o.guard = none) (it : Operand) (hop : o.op = Op.next it false) (b r n : Nat) (f : Int → Int) (left : Int → Bool)
    (hit : a.eval it = .pointer (some ⟨r, 0, none⟩)) (h : RanF w b r n f left)
    (hDone : (∀ x, left x = false) → wpList Try.prog ops Q rest (a.put o.dst (.tuple #[.bool false])) w)
    (hMore : ∀ (x : Int) (w' : World), (0 ≤ x ∧ x ≤ 18446744073709551615) → left x = true → f x ≠ 0 → RanF w' b r n f (fun z => left z && !decide (z = x)) → w'.rangeLeft b r < w.rangeLeft b r → w.grownBy w' (some r) →
      (Instr.entry (.pointer (some ⟨r, 0, none⟩))).run Try.prog w' = .ok (.tuple #[.int .u64 x, .int .i64 (f x)]) w' → wpList Try.prog ops Q rest (a.put o.dst (.tuple #[.bool true, .int .u64 x, .int .i64 (f x)])) w') :
    wpList Try.prog ops Q (o :: rest) a w := by
  obtain ⟨D, lf, cnt, h1, h2, h3⟩ := h
  refine wpList_next_ranges_ii w hg it hop 22 3 .u64 .i64 lawU Try.underlying22 Try.underlying3 b r n D lf cnt hit h1 ?_ ?_
  · intro _ hl
    exact hDone (fun x => by rw [← h3 x]; exact hl _)
  · intro x c w' cnt' hwx hwc hlx hat hrg hlt hg' _ hen
    have hc : f x = c := by
      have e1 := hat (.lit (.int .i64 0))
      have e2 := h2.2.1 x
      unfold kint at e2
      rw [e1] at e2
      injection e2 with e2
      injection e2 with _ e2
      exact e2.symm
    have hne : f x ≠ 0 := by
      have h4 := h2.2.2 x
      have h5 : Maps.has D (kint x) = true := by
        obtain ⟨es, clock, since, seen, c0, hb, F, hs, hD, hr, _, _, _, hl2, _⟩ := h1
        obtain ⟨y, hy, e⟩ := hl2 _ hlx
        have := World.ownsMap.entries ⟨es, clock, hb, F, hs, rfl⟩ lawU
        rw [hD]
        exact List.any_eq_true.2 ⟨_, mem_sorted.2 (List.mem_map.2 ⟨y, hy, rfl⟩), by rw [e]; exact WideAt.sameKey_self (show WideAt.IsKeyLit (kint x) from trivial)⟩
      rw [h4] at h5
      simpa using h5
    subst hc
    refine hMore x w' (bounds_u64 hwx) (by rw [← h3 x]; exact hlx) hne ⟨D, _, cnt', hrg, h2, fun z => ?_⟩ (by rw [hrg.left_eq, h1.left_eq]; exact hlt) hg' hen
    rw [h3 z]
    congr 1
    by_cases e : z = x
    · subst e
      simp [WideAt.sameKey_self (show WideAt.IsKeyLit (kint z) from trivial), kint, Lit.sameKey]
    · simp [e, kint, Lit.sameKey]
theorem RanF.grown {w w' : World} {b r n : Nat} {f : Int → Int} {left : Int → Bool} {row : Option Nat} (h : RanF w b r n f left) (hg : w.grownBy w' row) (h1 : some b ≠ row) (h2 : some r ≠ row) : RanF w' b r n f left := by
  obtain ⟨D, lf, cnt, h3, h4, h5⟩ := h
  exact ⟨D, lf, cnt, h3.kept hg h1 h2, h4, h5⟩
theorem RanF.lt {w : World} {b r n : Nat} {f : Int → Int} {left : Int → Bool} (h : RanF w b r n f left) : r < w.heap.size ∧ r ≠ b := by
  obtain ⟨D, lf, cnt, h3, h4, h5⟩ := h
  exact ⟨h3.lt, h3.ne⟩

end Go.Proofs.Ytohjifbkjfnkfaa
