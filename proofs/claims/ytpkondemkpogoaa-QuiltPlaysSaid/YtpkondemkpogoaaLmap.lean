/-
  A map of the call's own that is used as a set of numbers.
-/
import Derived.Test.YtpkondemkpogoaaOpen
import Derived.Maps.OwnSet
import Derived.Maps.OwnOps
namespace Go.Proofs.Ytpkondemkpogoaa
open Go.RowKit
set_option linter.unusedVariables false
set_option linter.unusedSimpArgs false


open Go.Maps (Keyed int_keyed keyOf_int_mk)
open Go.Maps
theorem lawU : Keyed Try.prog 27 := int_keyed Try.underlying27
theorem zeroB (w : World) : (zeroValue 4).run Try.prog w = .ok (.bool false) w := by kernel_rfl
def kint (x : Int) : Lit := .int .u64 x
theorem wf_u64' {x : Int} (h : 0 ≤ x ∧ x ≤ 18446744073709551615) : (Lit.int .u64 x).wf = true := Go.WalkArith.wf_u64 h
/-- A map that is used as a set: its keys, as they came. -/
def SetU (w : World) (b : Nat) (ks : List Int) : Prop := w.ownsMap Try.prog 27 (plainElem (H := Unit) Try.prog 4) b ks.length (setOf (.lit (.bool true)) (ks.map kint))
theorem kint_inj {x y : Int} (h : x ≠ y) : kint x ≠ kint y := fun e => by unfold kint at e; injection e with _ e; exact h e
theorem atKey_fold (x : Int) : ∀ (ks : List Int) (m : DataW Unit), IsMap m → ((ks.map kint).foldl (fun m x => m.put x (.lit (.bool true))) m).atKey (kint x) (.lit (.bool false)) = if ks.contains x then .lit (.bool true) else m.atKey (kint x) (.lit (.bool false)) := by
  intro ks
  induction ks with
  | nil => intro m _; rfl
  | cons y r ih =>
    intro m hm
    rw [List.map_cons, List.foldl_cons, ih _ (hm.put _ _)]
    by_cases h : x = y
    · subst h
      rw [atKey_put_same hm (show WideAt.IsKeyLit (kint x) from trivial)]
      simp
    · rw [atKey_put_other (kint_inj h)]
      simp [h]
theorem atKey_set (ks : List Int) (x : Int) : (setOf (.lit (.bool true)) (ks.map kint) : DataW Unit).atKey (kint x) (.lit (.bool false)) = .lit (.bool (ks.contains x)) := by
  unfold setOf
  rw [atKey_fold x ks _ isMap_empty]
  cases ks.contains x <;> rfl
theorem plainElem_bool_inv {v : Value} {c : Bool} {ps : List MemPlace} (h : plainElem (H := Unit) Try.prog 4 v = some (.lit (.bool c), ps)) : v = .bool c := by
  unfold plainElem at h
  rw [Try.underlying4] at h
  cases v <;> simp at h
  rw [h.1]
theorem SetU.look {w : World} {b : Nat} {ks : List Int} (h : SetU w b ks) {x : Int} (hx : 0 ≤ x ∧ x ≤ 18446744073709551615) : (Instr.lookup 42 (.map (some b)) (.int .u64 x) false).run Try.prog w = .ok (.bool (ks.contains x)) w := by
  obtain ⟨v, ps, hrun, hv⟩ := World.ownsMap.lookup h lawU Try.underlying42 (zeroB w) (plainElem_bool Try.underlying4 false) (keyOf_int_mk Try.underlying27 (wf_u64' hx))
  rw [show (Lit.int .u64 x) = kint x from rfl, atKey_set] at hv
  rw [plainElem_bool_inv hv] at hrun
  exact hrun
theorem wpList_look_set (w : World) {ops : Array Oper} {rest : List Oper} {o : Oper} {a : Act} {Q : Exit → Act → World → Prop}
    (hg : o.guard = none) (m x : Operand) (hop : o.op = Op.lookup 42 m x false) (b : Nat) (ks : List Int)
    (hm : a.eval m = .map (some b)) (hown : SetU w b ks) (n : Int) (hx : a.eval x = .int .u64 n) (hn : 0 ≤ n ∧ n ≤ 18446744073709551615)
    (hK : wpList Try.prog ops Q rest (a.put o.dst (.bool (ks.contains n))) w) : wpList Try.prog ops Q (o :: rest) a w := by
  refine wpList_plain hg fun K' hK' => ?_
  have hrun := hown.look hn
  unfold Oper.wp
  simp [execOp, hop, hm, hx, hrun, Result.andThen]
  exact hK' _ _ (by simpa using hK)
theorem wpList_put_set (w : World) {ops : Array Oper} {rest : List Oper} {o : Oper} {a : Act} {Q : Exit → Act → World → Prop}
    (hg : o.guard = none) (m x v : Operand) (hop : o.op = Op.mapUpdate 42 m x v) (b : Nat) (ks : List Int)
    (hm : a.eval m = .map (some b)) (hown : SetU w b ks) (hl : ks.length < 1000000) (n : Int) (hx : a.eval x = .int .u64 n) (hv : a.eval v = .bool true) (hn : 0 ≤ n ∧ n ≤ 18446744073709551615)
    (hK : ∀ w', SetU w' b (ks ++ [n]) → w.grownBy w' (some b) → wpList Try.prog ops Q rest (a.put o.dst undef) w') : wpList Try.prog ops Q (o :: rest) a w := by
  refine wpList_mapUpdate_own w hg m x v 42 hop 27 4 lawU Try.underlying42 (plainElem (H := Unit) Try.prog 4) b ks.length _ hm hown (by unfold maxLen; omega) _ _ (kint n) hx hv (keyOf_int_mk Try.underlying27 (wf_u64' hn)) (.lit (.bool true)) [] (plainElem_bool Try.underlying4 true) ?_
  intro w' h1 h2
  refine hK w' ?_ h2
  unfold SetU
  rw [List.map_append, List.map_cons, List.map_nil, setOf_snoc, List.length_append]
  exact h1
theorem setU_made (w : World) : SetU (w.alloc (.map #[] 0)) w.heap.size [] := World.ownsMap_made w Try.prog 27 _
theorem SetU.grown {w w' : World} {b : Nat} {ks : List Int} {r : Option Nat} (h : SetU w b ks) (hg : w.grownBy w' r) (hne : some b ≠ r) : SetU w' b ks := World.ownsMap.kept h hg hne
theorem SetU.below {w w' : World} {b : Nat} {ks : List Int} (h : SetU w b ks) (hb : Below w.heap.size w w') : SetU w' b ks := h.grown (grown_below hb none) (by simp)
theorem SetU.lt {w : World} {b : Nat} {ks : List Int} (h : SetU w b ks) : b < w.heap.size := World.ownsMap.lt h
theorem own_set_ne {w : World} {b base n : Nat} {ks : List Int} {e : TypeId} {size : Nat} {v : Value} {xs : List Value} (h : w.ownsRow base e size v n xs) (hs : SetU w b ks) : v.ownBlock ≠ some b := by
  rcases h.2 with ⟨rfl, _⟩ | ⟨g', cap, cur, rfl, _, hh, _⟩
  · simp [Value.ownBlock]
  · intro he
    have : g' = b := by simpa [Value.ownBlock] using he
    subst this
    obtain ⟨es, cl, h1, _⟩ := hs
    rw [hh] at h1
    cases h1
theorem blk_set_ne {w : World} {b g : Nat} {ks : List Int} {t : TypeId} {cs : Array Value} (h : Blk w g t cs) (hs : SetU w b ks) : g ≠ b := by
  rintro rfl
  obtain ⟨es, cl, h1, _⟩ := hs
  unfold Blk at h
  rw [h] at h1
  cases h1
/-- How many different keys. -/
theorem setU_size (ks : List Int) : Maps.size (setOf (.lit (.bool true)) (ks.map kint) : DataW Unit) = ((ks.map kint).foldl addKey []).length := size_setOf _ _ (fun x hx => by obtain ⟨y, _, rfl⟩ := List.mem_map.1 hx; trivial)
theorem wpList_len_set (w : World) {ops : Array Oper} {rest : List Oper} {o : Oper} {a : Act} {Q : Exit → Act → World → Prop} (hg : o.guard = none) (m : Operand) (hop : o.op = Op.call { callee := Callee.builtin Builtin.len, args := #[m], argTypes := #[42] })
    (b : Nat) (ks : List Int) (hm : a.eval m = .map (some b)) (hown : SetU w b ks)
    (hK : wpList Try.prog ops Q rest (a.put o.dst (.int .i64 (((ks.map kint).foldl addKey []).length))) w) : wpList Try.prog ops Q (o :: rest) a w :=
  wpList_len_own w hg m 42 hop 27 4 Try.underlying42 _ b _ _ hm hown (by rw [setU_size]; exact hK)

end Go.Proofs.Ytpkondemkpogoaa
