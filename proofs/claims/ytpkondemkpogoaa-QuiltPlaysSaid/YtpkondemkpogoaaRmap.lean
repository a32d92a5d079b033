/-
  A map of the reference quilt's: bytes by their places. No condition.
-/
import Derived.Test.YtpkondemkpogoaaQapart
import Derived.Maps.RangeWalk
namespace Go.Proofs.Ytpkondemkpogoaa
open Go.RowKit
set_option linter.unusedVariables false
set_option linter.unusedSimpArgs false

open Go.Maps (Keyed int_keyed keyOf_int_mk)
open Go.Maps
theorem zero5 (w : World) : (zeroValue 5).run Try.prog w = .ok (.int .u8 0) w := by kernel_rfl
def lkp : List (Int × Int) → Int → Option Int
  | [], _ => none
  | x :: r, n => if x.1 = n then some x.2 else lkp r n
def keys (es : List (Int × Int)) : List Int := es.map (·.1)
def mapOf (es : List (Int × Int)) : DataW Unit := es.foldl (fun m x => m.put (kint x.1) (.lit (.int .u8 x.2))) (.map [])
theorem lkp_mem {es : List (Int × Int)} {n : Int} : (lkp es n).isSome = true ↔ n ∈ keys es := by
  induction es with
  | nil => simp [lkp, keys]
  | cons x r ih =>
    unfold lkp
    split
    · next h => simp [keys, h]
    · next h =>
      rw [ih]
      simp only [keys, List.map_cons, List.mem_cons]
      constructor
      · exact .inr
      · rintro (e | e)
        · exact absurd e.symm h
        · exact e
theorem lkp_none {es : List (Int × Int)} {n : Int} (h : n ∉ keys es) : lkp es n = none := by
  cases hc : lkp es n with
  | none => rfl
  | some v => exact absurd (lkp_mem.1 (by rw [hc]; rfl)) h
theorem lkp_app (es : List (Int × Int)) (k v n : Int) (h : k ∉ keys es) : lkp (es ++ [(k, v)]) n = if n = k then some v else lkp es n := by
  induction es with
  | nil =>
    simp only [List.nil_append, lkp]
    by_cases e : n = k
    · subst e; simp
    · rw [if_neg (fun e2 => e e2.symm), if_neg e]
  | cons x r ih =>
    have hx : k ≠ x.1 := fun e => h (by simp [keys, e])
    have hr : k ∉ keys r := fun e => h (by simp only [keys, List.map_cons, List.mem_cons]; exact .inr e)
    simp only [List.cons_append, lkp]
    rw [ih hr]
    by_cases e : x.1 = n
    · rw [if_pos e, if_pos e, if_neg (fun e2 => hx (e2.symm.trans e.symm))]
    · rw [if_neg e, if_neg e]
theorem fold_at (n : Int) (z : DataW Unit) : ∀ (es : List (Int × Int)) (m : DataW Unit), IsMap m → (keys es).Nodup →
    (es.foldl (fun m x => m.put (kint x.1) (.lit (.int .u8 x.2))) m).atKey (kint n) z = (match lkp es n with | some v => .lit (.int .u8 v) | none => m.atKey (kint n) z) ∧
    has (es.foldl (fun m x => m.put (kint x.1) (.lit (.int .u8 x.2))) m) (kint n) = ((lkp es n).isSome || has m (kint n)) := by
  intro es
  induction es with
  | nil => intro m _ _; exact ⟨rfl, by simp [lkp]⟩
  | cons x r ih =>
    intro m hm hd
    simp only [keys, List.map_cons, List.nodup_cons] at hd
    obtain ⟨h1, h2⟩ := ih (m.put (kint x.1) (.lit (.int .u8 x.2))) (hm.put _ _) hd.2
    rw [List.foldl_cons, h1, h2, show lkp (x :: r) n = if x.1 = n then some x.2 else lkp r n from rfl]
    by_cases e : x.1 = n
    · rw [if_pos e]
      have hn : lkp r n = none := lkp_none (by rw [← e]; exact hd.1)
      subst e
      rw [hn]
      refine ⟨?_, ?_⟩
      · simp only
        rw [atKey_put_same hm (show WideAt.IsKeyLit (kint x.1) from trivial)]
      · rw [has_put_same hm (show WideAt.IsKeyLit (kint x.1) from trivial)]
        simp
    · rw [if_neg e]
      refine ⟨?_, ?_⟩
      · cases hl : lkp r n with
        | some v => rfl
        | none => simp only; rw [atKey_put_other (kint_inj (Ne.symm e))]
      · rw [has_put_other (kint_inj (Ne.symm e))]
theorem fold_size : ∀ (es : List (Int × Int)) (m : DataW Unit), Tidy m → (keys es).Nodup → (∀ k ∈ keys es, has m (kint k) = false) →
    Maps.size (es.foldl (fun m x => m.put (kint x.1) (.lit (.int .u8 x.2))) m) = Maps.size m + es.length := by
  intro es
  induction es with
  | nil => intro m _ _ _; rfl
  | cons x r ih =>
    intro m hm hd hh
    simp only [keys, List.map_cons, List.nodup_cons] at hd
    rw [List.foldl_cons, ih _ (hm.put (show WideAt.IsKeyLit (kint x.1) from trivial) _) hd.2 (fun k hk => by
      have hne : k ≠ x.1 := fun e => hd.1 (e ▸ hk)
      rw [has_put_other (kint_inj hne)]
      exact hh k (by simp only [keys, List.map_cons, List.mem_cons]; exact .inr hk)), size_put hm, hh x.1 (by simp [keys])]
    simp only [Bool.false_eq_true, if_false, List.length_cons]
    omega
theorem map_at {es : List (Int × Int)} (h : (keys es).Nodup) (n : Int) : (mapOf es).atKey (kint n) (.lit (.int .u8 0)) = .lit (.int .u8 ((lkp es n).getD 0)) := by
  have h1 := (fold_at n (.lit (.int .u8 0)) es (.map []) isMap_empty h).1
  unfold mapOf
  rw [h1]
  cases lkp es n <;> rfl
theorem map_has {es : List (Int × Int)} (h : (keys es).Nodup) (n : Int) : has (mapOf es) (kint n) = (lkp es n).isSome := by
  have h1 := (fold_at n (.lit (.int .u8 0)) es (.map []) isMap_empty h).2
  unfold mapOf
  rw [h1, show has (.map [] : DataW Unit) (kint n) = false from rfl, Bool.or_false]
theorem map_size {es : List (Int × Int)} (h : (keys es).Nodup) : Maps.size (mapOf es) = es.length := by
  have h1 := fold_size es (.map []) tidy_empty h (fun _ _ => rfl)
  unfold mapOf
  rw [h1, show Maps.size (.map [] : DataW Unit) = 0 from rfl, Nat.zero_add]
def RMap (w : World) (b : Nat) (es : List (Int × Int)) : Prop := w.ownsMap Try.prog 27 (plainElem (H := Unit) Try.prog 5) b es.length (mapOf es) ∧ (keys es).Nodup
theorem RMap.grown {w w' : World} {b : Nat} {es : List (Int × Int)} {r : Option Nat} (h : RMap w b es) (hg : w.grownBy w' r) (hne : some b ≠ r) : RMap w' b es := ⟨World.ownsMap.kept h.1 hg hne, h.2⟩
theorem RMap.below {w w' : World} {b : Nat} {es : List (Int × Int)} (h : RMap w b es) (hb : Below w.heap.size w w') : RMap w' b es := h.grown (grown_below hb none) (by simp)
theorem RMap.lt {w : World} {b : Nat} {es : List (Int × Int)} (h : RMap w b es) : b < w.heap.size := World.ownsMap.lt h.1
theorem rmap_made (w : World) : RMap (w.alloc (.map #[] 0)) w.heap.size [] := ⟨World.ownsMap_made w Try.prog 27 _, List.nodup_nil⟩
theorem RMap.keep {w w' : World} {b : Nat} {es : List (Int × Int)} (h : RMap w b es) (k : KeepM w w') : RMap w' b es := by
  obtain ⟨⟨xs, clock, hb, r⟩, hd⟩ := h
  exact ⟨⟨xs, clock, k b xs clock hb, r⟩, hd⟩
theorem blk_rmap_ne {w : World} {b g : Nat} {es : List (Int × Int)} {t : TypeId} {cs : Array Value} (h : Blk w g t cs) (hs : RMap w b es) : g ≠ b := by
  rintro rfl
  obtain ⟨⟨xs, cl, h1, _⟩, _⟩ := hs
  unfold Blk at h
  rw [h] at h1
  cases h1
theorem own_rmap_ne {w : World} {b base n : Nat} {es : List (Int × Int)} {e : TypeId} {size : Nat} {v : Value} {xs : List Value} (h : w.ownsRow base e size v n xs) (hs : RMap w b es) : v.ownBlock ≠ some b := by
  rcases h.2 with ⟨rfl, _⟩ | ⟨g', cap, cur, rfl, _, hh, _⟩
  · simp [Value.ownBlock]
  · intro he
    have : g' = b := by simpa [Value.ownBlock] using he
    subst this
    exact blk_rmap_ne hh hs rfl
theorem RMap.len {w : World} {b : Nat} {es : List (Int × Int)} (h : RMap w b es) (t : TypeId) : (Builtin.len_ #[57] t #[.map (some b)]).run Try.prog w = .ok (.int .i64 es.length) w := by
  have h1 := World.ownsMap.len h.1 Try.underlying57 t
  rw [map_size h.2] at h1
  exact h1
theorem wpList_ok57 (w : World) {ops : Array Oper} {rest : List Oper} {o : Oper} {a : Act} {Q : Exit → Act → World → Prop}
    (hg : o.guard = none) (m x : Operand) (hop : o.op = Op.lookup 57 m x true) (b : Nat) (es : List (Int × Int))
    (hm : a.eval m = .map (some b)) (hown : RMap w b es) (n : Int) (hx : a.eval x = .int .u64 n) (hn : 0 ≤ n ∧ n ≤ 18446744073709551615)
    (hK : wpList Try.prog ops Q rest (a.put o.dst (.tuple #[.int .u8 ((lkp es n).getD 0), .bool (lkp es n).isSome])) w) : wpList Try.prog ops Q (o :: rest) a w := by
  refine wpList_lookup_own_ok_int w hg m x 57 hop 27 5 .u8 lawU Try.underlying57 Try.underlying5 (zero5 w) b _ _ hm hown.1 _ (kint n) hx (keyOf_int_mk Try.underlying27 (wf_u64' hn)) ?_
  intro c hat _
  rw [map_at hown.2] at hat
  injection hat with hat
  injection hat with _ hat
  rw [← hat, map_has hown.2]
  exact hK
theorem RMap.look {w : World} {b : Nat} {es : List (Int × Int)} (h : RMap w b es) {n : Int} (hn : 0 ≤ n ∧ n ≤ 18446744073709551615) : (Instr.lookup 57 (.map (some b)) (.int .u64 n) false).run Try.prog w = .ok (.int .u8 ((lkp es n).getD 0)) w := by
  obtain ⟨c, hrun, hat, hwc⟩ := h.1.lookup_int lawU Try.underlying57 Try.underlying5 (zero5 w) (keyOf_int_mk Try.underlying27 (wf_u64' hn))
  rw [show (Lit.int .u64 n) = kint n from rfl, map_at h.2] at hat
  injection hat with hat
  injection hat with _ hat
  rw [← hat] at hrun
  exact hrun
theorem wpList_put57 (w : World) {ops : Array Oper} {rest : List Oper} {o : Oper} {a : Act} {Q : Exit → Act → World → Prop}
    (hg : o.guard = none) (m x v : Operand) (hop : o.op = Op.mapUpdate 57 m x v) (b : Nat) (es : List (Int × Int))
    (hm : a.eval m = .map (some b)) (hown : RMap w b es) (hl : es.length < 1000000) (n c : Int) (hx : a.eval x = .int .u64 n) (hv : a.eval v = .int .u8 c) (hn : 0 ≤ n ∧ n ≤ 18446744073709551615) (hc : 0 ≤ c ∧ c ≤ 255) (hnew : n ∉ keys es)
    (hK : ∀ w', RMap w' b (es ++ [(n, c)]) → w.grownBy w' (some b) → wpList Try.prog ops Q rest (a.put o.dst undef) w') : wpList Try.prog ops Q (o :: rest) a w := by
  refine wpList_mapUpdate_own w hg m x v 57 hop 27 5 lawU Try.underlying57 (plainElem (H := Unit) Try.prog 5) b es.length _ hm hown.1 (by unfold maxLen; omega) _ _ (kint n) hx hv (keyOf_int_mk Try.underlying27 (wf_u64' hn)) (.lit (.int .u8 c)) [] (plainElem_int Try.underlying5 (Go.WalkArith.wf_u8 hc)) ?_
  intro w' h1 h2
  refine hK w' ⟨?_, ?_⟩ h2
  · have e : mapOf (es ++ [(n, c)]) = (mapOf es).put (kint n) (.lit (.int .u8 c)) := by unfold mapOf; rw [List.foldl_append]; rfl
    rw [e, List.length_append]
    exact h1
  · unfold keys
    rw [List.map_append, List.nodup_append]
    exact ⟨hown.2, by simp, fun a ha b hb e => by simp at hb; subst hb; subst e; exact hnew ha⟩
/-- A loop over the map under way: which places are still to come. -/
def RanB (w : World) (b r : Nat) (es : List (Int × Int)) (left : Int → Bool) : Prop := ∃ (lf : Lit → Bool) (cnt : Nat), w.ranges Try.prog 27 (plainElem (H := Unit) Try.prog 5) b r es.length (mapOf es) lf cnt ∧ (keys es).Nodup ∧ (∀ x, lf (kint x) = left x)
theorem RanB.owns {w : World} {b r : Nat} {es : List (Int × Int)} {left : Int → Bool} (h : RanB w b r es left) : RMap w b es := by
  obtain ⟨lf, cnt, h1, h2, _⟩ := h
  exact ⟨h1.owns, h2⟩
theorem wpList_range57 (w : World) {ops : Array Oper} {rest : List Oper} {o : Oper} {a : Act} {Q : Exit → Act → World → Prop} (hg : o.guard = none) (m : Operand) (hop : o.op = Op.range 57 m) (b : Nat) (es : List (Int × Int))
    (hm : a.eval m = .map (some b)) (hown : RMap w b es)
    (hK : ∀ w', RanB w' b w.heap.size es (fun x => (lkp es x).isSome) → w.grownBy w' none → wpList Try.prog ops Q rest (a.put o.dst (.pointer (some ⟨w.heap.size, 0, none⟩))) w') :
    wpList Try.prog ops Q (o :: rest) a w := by
  refine wpList_range_own w hg m 57 hop 27 5 lawU Try.underlying57 _ b es.length _ hm hown.1 ?_
  intro w' h3 h4 _
  exact hK w' ⟨_, _, h3, hown.2, fun x => map_has hown.2 x⟩ h4
theorem wpList_next57 (w : World) {ops : Array Oper} {rest : List Oper} {o : Oper} {a : Act} {Q : Exit → Act → World → Prop} (hg : o.guard = none) (it : Operand) (hop : o.op = Op.next it false) (b r : Nat) (es : List (Int × Int)) (left : Int → Bool)
    (hit : a.eval it = .pointer (some ⟨r, 0, none⟩)) (h : RanB w b r es left)
    (hDone : (∀ x, left x = false) → wpList Try.prog ops Q rest (a.put o.dst (.tuple #[.bool false])) w)
    (hMore : ∀ (x c : Int) (w' : World), (0 ≤ x ∧ x ≤ 18446744073709551615) → left x = true → x ∈ keys es → RanB w' b r es (fun z => left z && !decide (z = x)) → w'.rangeLeft b r < w.rangeLeft b r → w.grownBy w' (some r) →
      (Instr.entry (.pointer (some ⟨r, 0, none⟩))).run Try.prog w' = .ok (.tuple #[.int .u64 x, .int .u8 c]) w' → wpList Try.prog ops Q rest (a.put o.dst (.tuple #[.bool true, .int .u64 x, .int .u8 c])) w') :
    wpList Try.prog ops Q (o :: rest) a w := by
  obtain ⟨lf, cnt, h1, h2, h3⟩ := h
  refine wpList_next_ranges_ii w hg it hop 27 5 .u64 .u8 lawU Try.underlying27 Try.underlying5 b r es.length _ lf cnt hit h1 ?_ ?_
  · intro _ hl
    exact hDone (fun x => by rw [← h3 x]; exact hl _)
  · intro x c w' cnt' hwx hwc hlx hat hrg hlt hg' _ hen
    have h5 : Maps.has (mapOf es) (kint x) = true := by
      obtain ⟨xs, clock, since, seen, c0, hb, F, hs, hD, hr, _, _, _, hl2, _⟩ := h1
      obtain ⟨y, hy, e⟩ := hl2 _ hlx
      rw [hD]
      exact List.any_eq_true.2 ⟨_, mem_sorted.2 (List.mem_map.2 ⟨y, hy, rfl⟩), by rw [e]; exact WideAt.sameKey_self (show WideAt.IsKeyLit (kint x) from trivial)⟩
    rw [map_has h2] at h5
    refine hMore x c w' (bounds_u64 hwx) (by rw [← h3 x]; exact hlx) (lkp_mem.1 h5) ⟨_, cnt', hrg, h2, fun z => ?_⟩ (by rw [hrg.left_eq, h1.left_eq]; exact hlt) hg' hen
    rw [h3 z]
    congr 1
    by_cases e : z = x
    · subst e
      simp [WideAt.sameKey_self (show WideAt.IsKeyLit (kint z) from trivial), kint, Lit.sameKey]
    · simp [e, kint, Lit.sameKey]
theorem RanB.grown {w w' : World} {b r : Nat} {es : List (Int × Int)} {left : Int → Bool} {row : Option Nat} (h : RanB w b r es left) (hg : w.grownBy w' row) (h1 : some b ≠ row) (h2 : some r ≠ row) : RanB w' b r es left := by
  obtain ⟨lf, cnt, h3, h4, h5⟩ := h
  exact ⟨lf, cnt, h3.kept hg h1 h2, h4, h5⟩

end Go.Proofs.Ytpkondemkpogoaa
