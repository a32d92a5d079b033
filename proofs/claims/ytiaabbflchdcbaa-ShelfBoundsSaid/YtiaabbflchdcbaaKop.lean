/-
  The operations on a map, met by an equation on their run; the entry of a loop's round; m[k] += x. Plain lemmas; no condition.
-/
import Derived.Test.YtiaabbflchdcbaaKmap
namespace Go.Proofs.Ytiaabbflchdcbaa
open Go.RowKit
set_option linter.unusedVariables false
set_option linter.unusedSimpArgs false

open Go.MapKept Go.ChangeMaps
open Go.Maps (Keyed)
section
variable {P : Program} {w : World} {ops : Array Oper} {rest : List Oper} {o : Oper} {a : Act} {Q : Exit → Act → World → Prop}
theorem yieldsIf_look {S : World → Prop} (hw : Region.wanted o (yielded ops a.tmps) = true) (t : TypeId) (m x : Operand) (c : Bool) (hop : o.op = Op.lookup t m x c) (mv xv : Value) (hm : a.eval m = mv) (hx : a.eval x = xv) (v : Value)
    (hS : ∀ w, S w → (Instr.lookup t mv xv c).run P w = .ok v w) : YieldsIf P ops S o v a :=
  .inl ⟨hw, fun w hw' => by simp [execOp, hop, hm, hx, hS w hw', Result.andThen]⟩
theorem wp_look {K : Act → World → Prop} (t : TypeId) (m x : Operand) (c : Bool) (hop : o.op = Op.lookup t m x c) (mv : Value) (xv : Value) (hm : a.eval m = mv) (hx : a.eval x = xv) (v : Value) (w' : World) (hrun : (Instr.lookup t mv xv c).run P w = .ok v w') (h : K (a.put o.dst v) w') : o.wp P a w K Q := by
  unfold Oper.wp
  simp [execOp, hop, resolve, invoke, builtin, hm, hx, hrun, Result.andThen]
  exact h
theorem wpList_look (hgd : o.guard = none) (t : TypeId) (m x : Operand) (c : Bool) (hop : o.op = Op.lookup t m x c) (mv : Value) (xv : Value) (hm : a.eval m = mv) (hx : a.eval x = xv) (v : Value) (w' : World) (hrun : (Instr.lookup t mv xv c).run P w = .ok v w') (h : wpList P ops Q rest (a.put o.dst v) w') : wpList P ops Q (o :: rest) a w :=
  wpList_plain hgd fun _ hK => wp_look t m x c hop mv xv hm hx v w' hrun (hK _ _ h)
theorem step_look {K : Act → World → Prop} {E : Prop} (hgd : o.guard = none) (t : TypeId) (m x : Operand) (c : Bool) (hop : o.op = Op.lookup t m x c) (mv : Value) (xv : Value) (hm : a.eval m = mv) (hx : a.eval x = xv) (v : Value) (w' : World) (hrun : (Instr.lookup t mv xv c).run P w = .ok v w') (h : K (a.put o.dst v) w') : if Region.wanted o (yielded ops a.tmps) = true then Oper.wp P o a w K Q else E := by
  have hw : Region.wanted o (yielded ops a.tmps) = true := by simp [Region.wanted, hgd]
  rw [if_pos hw]
  exact wp_look t m x c hop mv xv hm hx v w' hrun h
theorem wp_range {K : Act → World → Prop} (t : TypeId) (m : Operand) (hop : o.op = Op.range t m) (mv : Value) (hm : a.eval m = mv) (v : Value) (w' : World) (hrun : (Instr.range t mv).run P w = .ok v w') (h : K (a.put o.dst v) w') : o.wp P a w K Q := by
  unfold Oper.wp
  simp [execOp, hop, resolve, invoke, builtin, hm, hrun, Result.andThen]
  exact h
theorem wpList_range (hgd : o.guard = none) (t : TypeId) (m : Operand) (hop : o.op = Op.range t m) (mv : Value) (hm : a.eval m = mv) (v : Value) (w' : World) (hrun : (Instr.range t mv).run P w = .ok v w') (h : wpList P ops Q rest (a.put o.dst v) w') : wpList P ops Q (o :: rest) a w :=
  wpList_plain hgd fun _ hK => wp_range t m hop mv hm v w' hrun (hK _ _ h)
theorem step_range {K : Act → World → Prop} {E : Prop} (hgd : o.guard = none) (t : TypeId) (m : Operand) (hop : o.op = Op.range t m) (mv : Value) (hm : a.eval m = mv) (v : Value) (w' : World) (hrun : (Instr.range t mv).run P w = .ok v w') (h : K (a.put o.dst v) w') : if Region.wanted o (yielded ops a.tmps) = true then Oper.wp P o a w K Q else E := by
  have hw : Region.wanted o (yielded ops a.tmps) = true := by simp [Region.wanted, hgd]
  rw [if_pos hw]
  exact wp_range t m hop mv hm v w' hrun h
theorem wp_next {K : Act → World → Prop} (it : Operand) (hop : o.op = Op.next it false) (iv : Value) (hi : a.eval it = iv) (v : Value) (w' : World) (hrun : (Instr.next iv false o.type).run P w = .ok v w') (h : K (a.put o.dst v) w') : o.wp P a w K Q := by
  unfold Oper.wp
  simp [execOp, hop, resolve, invoke, builtin, hi, hrun, Result.andThen]
  exact h
theorem wpList_next (hgd : o.guard = none) (it : Operand) (hop : o.op = Op.next it false) (iv : Value) (hi : a.eval it = iv) (v : Value) (w' : World) (hrun : (Instr.next iv false o.type).run P w = .ok v w') (h : wpList P ops Q rest (a.put o.dst v) w') : wpList P ops Q (o :: rest) a w :=
  wpList_plain hgd fun _ hK => wp_next it hop iv hi v w' hrun (hK _ _ h)
theorem step_next {K : Act → World → Prop} {E : Prop} (hgd : o.guard = none) (it : Operand) (hop : o.op = Op.next it false) (iv : Value) (hi : a.eval it = iv) (v : Value) (w' : World) (hrun : (Instr.next iv false o.type).run P w = .ok v w') (h : K (a.put o.dst v) w') : if Region.wanted o (yielded ops a.tmps) = true then Oper.wp P o a w K Q else E := by
  have hw : Region.wanted o (yielded ops a.tmps) = true := by simp [Region.wanted, hgd]
  rw [if_pos hw]
  exact wp_next it hop iv hi v w' hrun h
theorem wp_entry {K : Act → World → Prop} (it : Operand) (hop : o.op = Op.entry it) (iv : Value) (hi : a.eval it = iv) (v : Value) (w' : World) (hrun : (Instr.entry iv).run P w = .ok v w') (h : K (a.put o.dst v) w') : o.wp P a w K Q := by
  unfold Oper.wp
  simp [execOp, hop, resolve, invoke, builtin, hi, hrun, Result.andThen]
  exact h
theorem wpList_entry (hgd : o.guard = none) (it : Operand) (hop : o.op = Op.entry it) (iv : Value) (hi : a.eval it = iv) (v : Value) (w' : World) (hrun : (Instr.entry iv).run P w = .ok v w') (h : wpList P ops Q rest (a.put o.dst v) w') : wpList P ops Q (o :: rest) a w :=
  wpList_plain hgd fun _ hK => wp_entry it hop iv hi v w' hrun (hK _ _ h)
theorem step_entry {K : Act → World → Prop} {E : Prop} (hgd : o.guard = none) (it : Operand) (hop : o.op = Op.entry it) (iv : Value) (hi : a.eval it = iv) (v : Value) (w' : World) (hrun : (Instr.entry iv).run P w = .ok v w') (h : K (a.put o.dst v) w') : if Region.wanted o (yielded ops a.tmps) = true then Oper.wp P o a w K Q else E := by
  have hw : Region.wanted o (yielded ops a.tmps) = true := by simp [Region.wanted, hgd]
  rw [if_pos hw]
  exact wp_entry it hop iv hi v w' hrun h
theorem wp_mset {K : Act → World → Prop} (t : TypeId) (m x y : Operand) (hop : o.op = Op.mapUpdate t m x y) (mv : Value) (xv : Value) (yv : Value) (hm : a.eval m = mv) (hx : a.eval x = xv) (hy : a.eval y = yv) (w' : World) (hrun : (Instr.mapUpdate t mv xv yv).run P w = .ok () w') (h : K (a.put o.dst undef) w') : o.wp P a w K Q := by
  unfold Oper.wp
  simp [execOp, hop, resolve, invoke, builtin, hm, hx, hy, hrun, Result.andThen]
  exact h
theorem wpList_mset (hgd : o.guard = none) (t : TypeId) (m x y : Operand) (hop : o.op = Op.mapUpdate t m x y) (mv : Value) (xv : Value) (yv : Value) (hm : a.eval m = mv) (hx : a.eval x = xv) (hy : a.eval y = yv) (w' : World) (hrun : (Instr.mapUpdate t mv xv yv).run P w = .ok () w') (h : wpList P ops Q rest (a.put o.dst undef) w') : wpList P ops Q (o :: rest) a w :=
  wpList_plain hgd fun _ hK => wp_mset t m x y hop mv xv yv hm hx hy w' hrun (hK _ _ h)
theorem step_mset {K : Act → World → Prop} {E : Prop} (hgd : o.guard = none) (t : TypeId) (m x y : Operand) (hop : o.op = Op.mapUpdate t m x y) (mv : Value) (xv : Value) (yv : Value) (hm : a.eval m = mv) (hx : a.eval x = xv) (hy : a.eval y = yv) (w' : World) (hrun : (Instr.mapUpdate t mv xv yv).run P w = .ok () w') (h : K (a.put o.dst undef) w') : if Region.wanted o (yielded ops a.tmps) = true then Oper.wp P o a w K Q else E := by
  have hw : Region.wanted o (yielded ops a.tmps) = true := by simp [Region.wanted, hgd]
  rw [if_pos hw]
  exact wp_mset t m x y hop mv xv yv hm hx hy w' hrun h
theorem wp_mentry {K : Act → World → Prop} (t : TypeId) (m x : Operand) (hop : o.op = Op.mapEntry t m x) (mv : Value) (xv : Value) (hm : a.eval m = mv) (hx : a.eval x = xv) (v : Value) (w' : World) (hrun : (Instr.mapEntry t mv xv).run P w = .ok v w') (h : K (a.put o.dst v) w') : o.wp P a w K Q := by
  unfold Oper.wp
  simp [execOp, hop, resolve, invoke, builtin, hm, hx, hrun, Result.andThen]
  exact h
theorem wpList_mentry (hgd : o.guard = none) (t : TypeId) (m x : Operand) (hop : o.op = Op.mapEntry t m x) (mv : Value) (xv : Value) (hm : a.eval m = mv) (hx : a.eval x = xv) (v : Value) (w' : World) (hrun : (Instr.mapEntry t mv xv).run P w = .ok v w') (h : wpList P ops Q rest (a.put o.dst v) w') : wpList P ops Q (o :: rest) a w :=
  wpList_plain hgd fun _ hK => wp_mentry t m x hop mv xv hm hx v w' hrun (hK _ _ h)
theorem step_mentry {K : Act → World → Prop} {E : Prop} (hgd : o.guard = none) (t : TypeId) (m x : Operand) (hop : o.op = Op.mapEntry t m x) (mv : Value) (xv : Value) (hm : a.eval m = mv) (hx : a.eval x = xv) (v : Value) (w' : World) (hrun : (Instr.mapEntry t mv xv).run P w = .ok v w') (h : K (a.put o.dst v) w') : if Region.wanted o (yielded ops a.tmps) = true then Oper.wp P o a w K Q else E := by
  have hw : Region.wanted o (yielded ops a.tmps) = true := by simp [Region.wanted, hgd]
  rw [if_pos hw]
  exact wp_mentry t m x hop mv xv hm hx v w' hrun h
theorem wp_mstore {K : Act → World → Prop} (t : TypeId) (m x y : Operand) (hop : o.op = Op.entryStore t m x y) (mv : Value) (xv : Value) (yv : Value) (hm : a.eval m = mv) (hx : a.eval x = xv) (hy : a.eval y = yv) (w' : World) (hrun : (Instr.entryStore t mv xv yv).run P w = .ok () w') (h : K (a.put o.dst undef) w') : o.wp P a w K Q := by
  unfold Oper.wp
  simp [execOp, hop, resolve, invoke, builtin, hm, hx, hy, hrun, Result.andThen]
  exact h
theorem wpList_mstore (hgd : o.guard = none) (t : TypeId) (m x y : Operand) (hop : o.op = Op.entryStore t m x y) (mv : Value) (xv : Value) (yv : Value) (hm : a.eval m = mv) (hx : a.eval x = xv) (hy : a.eval y = yv) (w' : World) (hrun : (Instr.entryStore t mv xv yv).run P w = .ok () w') (h : wpList P ops Q rest (a.put o.dst undef) w') : wpList P ops Q (o :: rest) a w :=
  wpList_plain hgd fun _ hK => wp_mstore t m x y hop mv xv yv hm hx hy w' hrun (hK _ _ h)
theorem step_mstore {K : Act → World → Prop} {E : Prop} (hgd : o.guard = none) (t : TypeId) (m x y : Operand) (hop : o.op = Op.entryStore t m x y) (mv : Value) (xv : Value) (yv : Value) (hm : a.eval m = mv) (hx : a.eval x = xv) (hy : a.eval y = yv) (w' : World) (hrun : (Instr.entryStore t mv xv yv).run P w = .ok () w') (h : K (a.put o.dst undef) w') : if Region.wanted o (yielded ops a.tmps) = true then Oper.wp P o a w K Q else E := by
  have hw : Region.wanted o (yielded ops a.tmps) = true := by simp [Region.wanted, hgd]
  rw [if_pos hw]
  exact wp_mstore t m x y hop mv xv yv hm hx hy w' hrun h
theorem wp_mdel {K : Act → World → Prop} (t k : TypeId) (m x : Operand) (hop : o.op = Op.call { callee := Callee.builtin Builtin.delete, args := #[m, x], argTypes := #[t, k] }) (mv : Value) (xv : Value) (hm : a.eval m = mv) (hx : a.eval x = xv) (v : Value) (w' : World) (hrun : (Builtin.delete_ #[t, k] o.type #[mv, xv]).run P w = .ok v w') (h : K (a.put o.dst v) w') : o.wp P a w K Q := by
  unfold Oper.wp
  simp [execOp, hop, resolve, invoke, builtin, hm, hx, hrun, Result.andThen]
  exact h
theorem wpList_mdel (hgd : o.guard = none) (t k : TypeId) (m x : Operand) (hop : o.op = Op.call { callee := Callee.builtin Builtin.delete, args := #[m, x], argTypes := #[t, k] }) (mv : Value) (xv : Value) (hm : a.eval m = mv) (hx : a.eval x = xv) (v : Value) (w' : World) (hrun : (Builtin.delete_ #[t, k] o.type #[mv, xv]).run P w = .ok v w') (h : wpList P ops Q rest (a.put o.dst v) w') : wpList P ops Q (o :: rest) a w :=
  wpList_plain hgd fun _ hK => wp_mdel t k m x hop mv xv hm hx v w' hrun (hK _ _ h)
theorem step_mdel {K : Act → World → Prop} {E : Prop} (hgd : o.guard = none) (t k : TypeId) (m x : Operand) (hop : o.op = Op.call { callee := Callee.builtin Builtin.delete, args := #[m, x], argTypes := #[t, k] }) (mv : Value) (xv : Value) (hm : a.eval m = mv) (hx : a.eval x = xv) (v : Value) (w' : World) (hrun : (Builtin.delete_ #[t, k] o.type #[mv, xv]).run P w = .ok v w') (h : K (a.put o.dst v) w') : if Region.wanted o (yielded ops a.tmps) = true then Oper.wp P o a w K Q else E := by
  have hw : Region.wanted o (yielded ops a.tmps) = true := by simp [Region.wanted, hgd]
  rw [if_pos hw]
  exact wp_mdel t k m x hop mv xv hm hx v w' hrun h
end
section
variable {P : Program} {k e t : TypeId} {w : World} {b : Nat} {L : List (Value × Value)}
/-- A step of the loop, with what 'entry' reads behind it. -/
theorem KR.next_e {r : Nat} {M : List (Value × Value)} (h : KR P k w b r L M) (ty : TypeId) :
    (M = [] ∧ (Instr.next (.pointer (some ⟨r, 0, none⟩)) false ty).run P w = .ok (.tuple #[.bool false]) w) ∨
    ∃ A x B w', M = A ++ x :: B ∧ x ∈ L ∧ (Instr.next (.pointer (some ⟨r, 0, none⟩)) false ty).run P w = .ok (.tuple #[.bool true, x.1, x.2]) w' ∧ KR P k w' b r L (A ++ B) ∧ w.grownBy w' (some r) ∧ w'.heap.size = w.heap.size ∧
      (Instr.entry (.pointer (some ⟨r, 0, none⟩))).run P w' = .ok (.tuple #[x.1, x.2]) w' := by
  have hne := h.ne
  obtain ⟨es, clock, since, seen, c0, hb, hS, hL, hk, hr, hold, hsc, hsk, hM⟩ := h
  rcases run_next_at (P := P) w ty r b since c0 seen es clock hr hb hold hsc with ⟨h0, hrun⟩ | ⟨y, hy, w1, hal, hrun⟩
  · rcases KR.next (P := P) (k := k) (L := L) (M := M) ⟨es, clock, since, seen, c0, hb, hS, hL, hk, hr, hold, hsc, hsk, hM⟩ ty with h1 | ⟨A, x, B, w', h1, h2, h3, h4⟩
    · exact .inl h1
    · rw [hrun] at h3; simp at h3
  · rcases KR.next (P := P) (k := k) (L := L) (M := M) ⟨es, clock, since, seen, c0, hb, hS, hL, hk, hr, hold, hsc, hsk, hM⟩ ty with ⟨h1, h2⟩ | ⟨A, x, B, w', h1, h2, h3, h4, h5, h6⟩
    · rw [hrun] at h2; simp at h2
    · rw [hrun] at h3
      have e1 : x.1 = y.key ∧ x.2 = y.val ∧ w' = setBlock w1 r (.mapIter (some b) since (seen.push y.born) clock) := by
        simp only [Result.ok.injEq, Value.tuple.injEq, Array.mk.injEq, List.cons.injEq, and_true, true_and] at h3
        exact ⟨h3.1.1.symm, h3.1.2.symm, h3.2.symm⟩
      obtain ⟨ea, eb, ew⟩ := e1
      refine .inr ⟨A, x, B, w', h1, h2, by rw [hrun, ea, eb, ew], h4, h5, h6, ?_⟩
      have hr1 : w1.heap[r]? = some (.mapIter (some b) since seen c0) := by rcases hal with rfl | rfl <;> exact hr
      have hb1 : w1.heap[b]? = some (.map es clock) := by rcases hal with rfl | rfl <;> exact hb
      have hset := heap_set (o' := .mapIter (some b) since (seen.push y.born) clock) hr1
      have hb' : (setBlock w1 r (.mapIter (some b) since (seen.push y.born) clock)).heap[b]? = some (.map es clock) := (hset.2 b (fun e1 => hne e1.symm)).trans hb1
      rw [ew, ea, eb]
      exact run_entry_at _ r b since seen es clock y hset.1 hb' (mem_left hy).1 ((stamped_iff es clock).1 hS).2.1
theorem modify_same {es : Array MapEntry} {j : Nat} {e0 : MapEntry} (f : MapEntry → MapEntry) (h : es[j]? = some e0) (hf : f e0 = e0) : es.modify j f = es := by
  apply Array.ext_getElem?
  intro i
  rw [Array.getElem?_modify]
  split
  · next e => subst e; rw [h]; simp [hf]
  · rfl
theorem find_stamp {es : List MapEntry} (hd : (es.map (·.born)).Nodup) {j : Nat} {e0 : MapEntry} (h : es[j]? = some e0) : es.findIdx? (fun e => (e.born : Int) == (e0.born : Int)) = some j := by
  obtain ⟨hj, he⟩ := List.getElem?_eq_some_iff.1 h
  rw [List.findIdx?_eq_some_iff_getElem]
  refine ⟨hj, by rw [he]; simp, fun i hi => ?_⟩
  have hil : i < es.length := by omega
  intro hc
  have hc' : es[i].born = e0.born := by
    have : ((es[i].born : Int) == (e0.born : Int)) = true := hc
    have := beq_iff_eq.1 this
    omega
  have := nodup_ix (x := e0.born) hd (by rw [List.getElem?_map, List.getElem?_eq_getElem hil]; simp [hc']) (by rw [List.getElem?_map, h]; rfl)
  omega
theorem run_mstore {W : World} {es : Array MapEntry} {clock : Nat} {j : Nat} {e0 : MapEntry} (hb : W.heap[b]? = some (.map es clock)) (hd : (es.toList.map (·.born)).Nodup) (h : es.toList[j]? = some e0) (v : Value) :
    (Instr.entryStore t (.map (some b)) (.int .i64 e0.born) v).run P W = .ok () (setBlock W b (.map (es.modify j fun e => { e with val := v }) clock)) := by
  have hf : es.findIdx? (fun e => (e.born : Int) == (e0.born : Int)) = some j := by
    have e := List.findIdx?_toArray (fun e : MapEntry => (e.born : Int) == (e0.born : Int)) es.toList
    rw [Array.toArray_toList] at e
    rw [e]; exact find_stamp hd h
  simp [Instr.entryStore, MapKept.run_getObj_map hb, asInt, asIntOf, hf, MapKept.run_setObj_map _ hb, Result.andThen, setBlock]
/-- 'm[k] += x' at a key that is there: the entry, then the store. -/
theorem KM.entry_old {A B : List (Value × Value)} {key v0 : Value} (h : KM P k w b (A ++ (key, v0) :: B)) (K : Keyed P k) (ht : P.underlying t = some (.map k e)) (v : Value) :
    ∃ (st : Int) (w' : World), (Instr.mapEntry t (.map (some b)) key).run P w = .ok (.tuple #[v0, .int .i64 st]) w' ∧ KM P k w' b (A ++ (key, v0) :: B) ∧ w.grownBy w' (some b) ∧ w'.heap.size = w.heap.size ∧
      ∀ W, W.heap[b]? = w'.heap[b]? → ∃ W', (Instr.entryStore t (.map (some b)) (.int .i64 st) v).run P W = .ok () W' ∧ KM P k W' b (A ++ (key, v) :: B) ∧ W.grownBy W' (some b) ∧ W'.heap.size = W.heap.size := by
  have hd := h.apart
  obtain ⟨es, clock, hb, hS, hL, hk⟩ := h
  have hkey : KeyOk P k key := hk (key, v0) (by simp)
  have hk2 : ∀ x ∈ ents es.toList, KeyOk P k x.1 := by rw [hL]; exact hk
  rcases km_find K hk2 hkey w with ⟨h1, h2⟩ | ⟨j, e0, h1, h2, h3⟩
  · exact absurd rfl (h2 (key, v0) (by rw [hL]; simp))
  · obtain ⟨kl, hkl⟩ := hkey
    have hj : es[j]? = some e0 := by simpa using h2
    have hjl : j < es.toList.length := (List.getElem?_eq_some_iff.1 h2).1
    have hjA : j = A.length := by
      refine nodup_mid (v' := e0.val) hd ?_
      rw [← hL]
      simp [ents, hj, h3]
    have hv0 : e0.val = v0 := by
      have : (ents es.toList)[j]? = some (e0.key, e0.val) := by simp [ents, hj]
      rw [hL, hjA] at this
      simp at this
      exact this.2.symm
    have hm : es.modify j (fun e => { e with key := key }) = es := modify_same _ hj (by rw [← h3])
    have hb1 : (setBlock w b (.map es clock)).heap[b]? = some (.map es clock) := heap_setBlock_same hb _
    refine ⟨e0.born, setBlock w b (.map es clock), ?_, ⟨es, clock, hb1, hS, hL, hk⟩, grown_block hb, by simp [setBlock], fun W hW => ?_⟩
    · simp [Instr.mapEntry, run_underlying ht, MapKept.run_getObj_map hb, K.check w false hkl, h1, hj, h3, K.stays w hkl, MapKept.run_setObj_map _ hb, Result.andThen, setBlock, hm, hv0, goInt]
    · have hbW : W.heap[b]? = some (.map es clock) := by rw [hW, hb1]
      refine ⟨_, run_mstore hbW hS.2.1 h2 v, ⟨es.modify j fun e => { e with val := v }, clock, heap_setBlock_same hbW _, stamped_modify hS _ _ (fun _ _ => rfl) (fun _ _ _ => rfl), ?_, ?_⟩, grown_block hbW, by simp [setBlock]⟩
      · unfold ents at hL ⊢
        rw [Array.toList_modify, modify_eq_set _ _ _ _ h2, List.map_set, hL, hjA]
        simp [h3]
      · intro x hx
        simp only [List.mem_append, List.mem_cons] at hx
        rcases hx with hx | rfl | hx
        · exact hk x (by simp [hx])
        · exact ⟨kl, hkl⟩
        · exact hk x (by simp [hx])
/-- .. at a key that isn't there. -/
theorem KM.entry_new (h : KM P k w b L) (K : Keyed P k) (ht : P.underlying t = some (.map k e)) {z : Value} (hz : (zeroValue e).run P w = .ok z w) {key : Value} (hkey : KeyOk P k key) (hn : ∀ x ∈ L, x.1 ≠ key) (v : Value) :
    ∃ (st : Int) (w' : World), (Instr.mapEntry t (.map (some b)) key).run P w = .ok (.tuple #[z, .int .i64 st]) w' ∧ KM P k w' b (L ++ [(key, z)]) ∧ w.grownBy w' (some b) ∧ w'.heap.size = w.heap.size ∧
      ∀ W, W.heap[b]? = w'.heap[b]? → ∃ W', (Instr.entryStore t (.map (some b)) (.int .i64 st) v).run P W = .ok () W' ∧ KM P k W' b (L ++ [(key, v)]) ∧ W.grownBy W' (some b) ∧ W'.heap.size = W.heap.size := by
  obtain ⟨es, clock, hb, hS, rfl, hk⟩ := h
  rcases km_find K hk hkey w with ⟨h1, h2⟩ | ⟨j, e0, h1, h2, h3⟩
  · have hkey' := hkey
    obtain ⟨kl, hkl⟩ := hkey
    have hS2 : Stamped (es.push ⟨key, z, clock⟩) (clock + 1) := stamped_push hS (fun x hx => h2 (x.key, x.val) (List.mem_map.2 ⟨x, hx, rfl⟩))
    have hb1 : (setBlock w b (.map (es.push ⟨key, z, clock⟩) (clock + 1))).heap[b]? = some (.map (es.push ⟨key, z, clock⟩) (clock + 1)) := heap_setBlock_same hb _
    have hkk : ∀ u, ∀ x ∈ ents es.toList ++ [(key, u)], KeyOk P k x.1 := fun u x hx => by
      rcases List.mem_append.1 hx with hx | hx
      · exact hk x hx
      · simp only [List.mem_singleton] at hx
        subst hx
        exact hkey'
    refine ⟨clock, setBlock w b (.map (es.push ⟨key, z, clock⟩) (clock + 1)), ?_, ⟨_, _, hb1, hS2, by simp [ents], hkk z⟩, grown_block hb, by simp [setBlock], fun W hW => ?_⟩
    · simp [Instr.mapEntry, run_underlying ht, MapKept.run_getObj_map hb, K.check w false hkl, h1, hz, MapKept.run_setObj_map _ hb, Result.andThen, setBlock, goInt]
    · have hbW := hW.trans hb1
      have hl : (es.push ⟨key, z, clock⟩).toList[es.toList.length]? = some ⟨key, z, clock⟩ := by simp
      refine ⟨_, run_mstore hbW hS2.2.1 hl v, ⟨_, _, heap_setBlock_same hbW _, stamped_modify hS2 _ _ (fun _ _ => rfl) (fun _ _ _ => rfl), ?_, hkk v⟩, grown_block hbW, by simp [setBlock]⟩
      unfold ents
      rw [Array.toList_modify, modify_eq_set _ _ _ _ hl, List.map_set, Array.toList_push, List.map_append]
      simp
  · exact absurd h3 (hn (e0.key, e0.val) (List.mem_map.2 ⟨e0, List.mem_of_getElem? h2, rfl⟩))
end

end Go.Proofs.Ytiaabbflchdcbaa
