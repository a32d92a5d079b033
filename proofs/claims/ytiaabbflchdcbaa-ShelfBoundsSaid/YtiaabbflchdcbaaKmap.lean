/-
  A map of the call's own with keys of any kind: its entries as a list, in the order in which they came; look-up, store, delete, range. Plain lemmas; no condition.
-/
import Derived.Test.YtiaabbflchdcbaaBase
import Derived.Maps.RangeWalk
namespace Go.Proofs.Ytiaabbflchdcbaa
open Go.RowKit
set_option linter.unusedVariables false
set_option linter.unusedSimpArgs false

open Go.MapKept Go.ChangeMaps
open Go.Maps (Keyed)

theorem nodup_ix {α : Type} : ∀ {l : List α} {i j : Nat} {x : α}, l.Nodup → l[i]? = some x → l[j]? = some x → i = j
  | [], i, j, x, _, h, _ => by simp at h
  | a :: l, 0, 0, x, _, _, _ => rfl
  | a :: l, 0, j + 1, x, hd, h1, h2 => by
    simp only [List.getElem?_cons_zero, Option.some.injEq, List.getElem?_cons_succ] at h1 h2
    subst h1
    exact absurd (List.mem_of_getElem? h2) (List.nodup_cons.1 hd).1
  | a :: l, i + 1, 0, x, hd, h1, h2 => by
    simp only [List.getElem?_cons_zero, Option.some.injEq, List.getElem?_cons_succ] at h1 h2
    subst h2
    exact absurd (List.mem_of_getElem? h1) (List.nodup_cons.1 hd).1
  | a :: l, i + 1, j + 1, x, hd, h1, h2 => by
    simp only [List.getElem?_cons_succ] at h1 h2
    rw [nodup_ix (List.nodup_cons.1 hd).2 h1 h2]
def ents (es : List MapEntry) : List (Value × Value) := es.map fun x => (x.key, x.val)
def KeyOk (P : Program) (k : TypeId) (v : Value) : Prop := ∃ l, keyOf P k v = some l
/-- Block b is a map; L are its entries, in the order in which they came. -/
def KM (P : Program) (k : TypeId) (w : World) (b : Nat) (L : List (Value × Value)) : Prop :=
  ∃ es clock, w.heap[b]? = some (.map es clock) ∧ Stamped es clock ∧ ents es.toList = L ∧ ∀ x ∈ L, KeyOk P k x.1
section
variable {P : Program} {k e t : TypeId} {w w' : World} {b : Nat} {L : List (Value × Value)}
theorem KM.lt (h : KM P k w b L) : b < w.heap.size := by
  obtain ⟨es, clock, hb, _⟩ := h
  exact (Array.getElem?_eq_some_iff.1 hb).1
theorem KM.kept {r : Option Nat} (h : KM P k w b L) (hg : w.grownBy w' r) (hne : some b ≠ r) : KM P k w' b L := by
  have hlt := h.lt
  obtain ⟨es, clock, hb, x⟩ := h
  exact ⟨es, clock, (hg.block b hlt hne).trans hb, x⟩
theorem KM.below (h : KM P k w b L) (hb : Below w.heap.size w w') : KM P k w' b L := h.kept (grown_below hb none) (by simp)
theorem KM.alloc (h : KM P k w b L) (o : Obj) : KM P k (w.alloc o) b L := h.below ((Below.refl _ _).alloc (Nat.le_refl _) o)
theorem KM.drewN (h : KM P k w b L) (n : Nat) : KM P k (w.drewN n) b L := h
theorem KM.drew (h : KM P k w b L) : KM P k w.drew b L := h
theorem KM.set_ (h : KM P k w b L) {g : Nat} {t : TypeId} {cs : Array Value} (hg : Blk w g t cs) (i : Nat) (u : Value) : KM P k (w.setCell ⟨g, i, none⟩ u) b L := by
  refine h.kept (grown_set (grown_refl w (some g)) i u) (fun e => ?_)
  simp only [Option.some.injEq] at e
  subst e
  obtain ⟨es, clock, hb, _⟩ := h
  unfold Blk at hg
  rw [hg] at hb
  cases hb
theorem blk_km_ne {g : Nat} {t : TypeId} {cs : Array Value} (hg : Blk w g t cs) (h : KM P k w b L) : g ≠ b := by
  rintro rfl
  obtain ⟨es, clock, hb, _⟩ := h
  unfold Blk at hg
  rw [hg] at hb
  cases hb
theorem own_km_ne {base n : Nat} {e : TypeId} {size : Nat} {v : Value} {xs : List Value} (h : w.ownsRow base e size v n xs) (hs : KM P k w b L) : v.ownBlock ≠ some b := by
  rcases h.2 with ⟨rfl, _⟩ | ⟨g', cap, cur, rfl, _, hh, _⟩
  · simp [Value.ownBlock]
  · intro he
    have : g' = b := by simpa [Value.ownBlock] using he
    subst this
    exact blk_km_ne hh hs rfl
theorem km_made (P : Program) (k : TypeId) (w : World) : KM P k (w.alloc (.map #[] 0)) w.heap.size [] := ⟨#[], 0, heap_alloc_new w _, stamped_empty 0, rfl, by simp⟩
theorem KM.apart (h : KM P k w b L) : (L.map (·.1)).Nodup := by
  obtain ⟨es, clock, hb, ⟨_, _, h3⟩, rfl, _⟩ := h
  unfold ents
  rw [List.map_map]
  exact h3
/-- What is found at a key. -/
theorem km_find (K : Keyed P k) {es : Array MapEntry} (hk : ∀ x ∈ ents es.toList, KeyOk P k x.1) {key : Value} (hkey : KeyOk P k key) (w : World) :
    ((Instr.findKey k key es.toList).run P w = .ok none w ∧ ∀ x ∈ ents es.toList, x.1 ≠ key) ∨ ∃ j e, (Instr.findKey k key es.toList).run P w = .ok (some (j, e.val)) w ∧ es.toList[j]? = some e ∧ e.key = key := by
  obtain ⟨kl, hkl⟩ := hkey
  rcases K.find w hkl es.toList (fun x hx => hk (x.key, x.val) (List.mem_map.2 ⟨x, hx, rfl⟩)) with ⟨h1, h2⟩ | ⟨j, e, h1, h2, h3⟩
  · refine .inl ⟨h1, fun x hx => ?_⟩
    obtain ⟨y, hy, rfl⟩ := List.mem_map.1 hx
    exact h2 y hy
  · exact .inr ⟨j, e, h1, h2, h3⟩
theorem KM.look_no (h : KM P k w b L) (K : Keyed P k) (ht : P.underlying t = some (.map k e)) {z : Value} (hz : (zeroValue e).run P w = .ok z w) {key : Value} (hkey : KeyOk P k key) (hn : ∀ x ∈ L, x.1 ≠ key) (c : Bool) :
    (Instr.lookup t (.map (some b)) key c).run P w = .ok (if c then .tuple #[z, .bool false] else z) w := by
  obtain ⟨es, clock, hb, hS, rfl, hk⟩ := h
  rcases km_find K hk hkey w with ⟨h1, h2⟩ | ⟨j, e0, h1, h2, h3⟩
  · obtain ⟨kl, hkl⟩ := hkey
    simp [Instr.lookup, run_underlying ht, MapKept.run_getObj_map hb, K.check w _ hkl, h1, hz, Result.andThen]
  · exact absurd h3 (hn (e0.key, e0.val) (List.mem_map.2 ⟨e0, List.mem_of_getElem? h2, rfl⟩))
theorem KM.look_yes (h : KM P k w b L) (K : Keyed P k) (ht : P.underlying t = some (.map k e)) {key v : Value} (hm : (key, v) ∈ L) (c : Bool) :
    (Instr.lookup t (.map (some b)) key c).run P w = .ok (if c then .tuple #[v, .bool true] else v) w := by
  have hd := h.apart
  obtain ⟨es, clock, hb, hS, rfl, hk⟩ := h
  have hkey : KeyOk P k key := hk _ hm
  rcases km_find K hk hkey w with ⟨h1, h2⟩ | ⟨j, e0, h1, h2, h3⟩
  · exact absurd rfl (h2 _ hm)
  · obtain ⟨kl, hkl⟩ := hkey
    have hv : e0.val = v := by
      have hm0 : (e0.key, e0.val) ∈ ents es.toList := List.mem_map.2 ⟨e0, List.mem_of_getElem? h2, rfl⟩
      obtain ⟨i, hi, e1⟩ := List.mem_iff_getElem.1 hm
      obtain ⟨i', hi', e2⟩ := List.mem_iff_getElem.1 hm0
      have : i = i' := nodup_ix (x := key) hd (by rw [List.getElem?_map, List.getElem?_eq_getElem hi, e1]; rfl) (by rw [List.getElem?_map, List.getElem?_eq_getElem hi', e2, ← h3]; rfl)
      subst this
      rw [e1] at e2
      injection e2 with _ e2
      exact e2.symm
    subst hv
    simp [Instr.lookup, run_underlying ht, MapKept.run_getObj_map hb, K.check w _ hkl, h1, Result.andThen]
theorem grown_block {es : Array MapEntry} {clock : Nat} {o' : Obj} (hb : w.heap[b]? = some (.map es clock)) : w.grownBy (setBlock w b o') (some b) :=
  ⟨rfl, rfl, rfl, by simp [setBlock], fun i _ hi => heap_setBlock_other hb _ (fun e => hi (by rw [e]))⟩
theorem KM.put_new (h : KM P k w b L) (K : Keyed P k) (ht : P.underlying t = some (.map k e)) {key : Value} (hkey : KeyOk P k key) (hn : ∀ x ∈ L, x.1 ≠ key) (v : Value) :
    ∃ w', (Instr.mapUpdate t (.map (some b)) key v).run P w = .ok () w' ∧ KM P k w' b (L ++ [(key, v)]) ∧ w.grownBy w' (some b) ∧ w'.heap.size = w.heap.size := by
  obtain ⟨es, clock, hb, hS, rfl, hk⟩ := h
  rcases km_find K hk hkey w with ⟨h1, h2⟩ | ⟨j, e0, h1, h2, h3⟩
  · have hkey' := hkey
    obtain ⟨kl, hkl⟩ := hkey
    refine ⟨setBlock w b (.map (es.push ⟨key, v, clock⟩) (clock + 1)), ?_, ⟨es.push ⟨key, v, clock⟩, clock + 1, heap_setBlock_same hb _, stamped_push hS (fun x hx => h2 (x.key, x.val) (List.mem_map.2 ⟨x, hx, rfl⟩)), ?_, ?_⟩, grown_block hb, by simp [setBlock]⟩
    · simp [Instr.mapUpdate, run_underlying ht, MapKept.run_getObj_map hb, K.check w false hkl, h1, MapKept.run_setObj_map _ hb, Result.andThen, setBlock]
    · simp [ents]
    · intro x hx
      rcases List.mem_append.1 hx with hx | hx
      · exact hk x hx
      · simp only [List.mem_singleton] at hx
        subst hx
        exact hkey'
  · exact absurd h3 (hn (e0.key, e0.val) (List.mem_map.2 ⟨e0, List.mem_of_getElem? h2, rfl⟩))
theorem nodup_mid {A B : List (Value × Value)} {key v v' : Value} {j : Nat} (hd : ((A ++ (key, v) :: B).map (·.1)).Nodup) (hj : (A ++ (key, v) :: B)[j]? = some (key, v')) : j = A.length := by
  exact nodup_ix (x := key) hd (by rw [List.getElem?_map, hj]; rfl) (by rw [List.getElem?_map, List.getElem?_append_right (Nat.le_refl _)]; simp)
theorem KM.put_old {A B : List (Value × Value)} {key v0 : Value} (h : KM P k w b (A ++ (key, v0) :: B)) (K : Keyed P k) (ht : P.underlying t = some (.map k e)) (v : Value) :
    ∃ w', (Instr.mapUpdate t (.map (some b)) key v).run P w = .ok () w' ∧ KM P k w' b (A ++ (key, v) :: B) ∧ w.grownBy w' (some b) ∧ w'.heap.size = w.heap.size := by
  have hd := h.apart
  obtain ⟨es, clock, hb, hS, hL, hk⟩ := h
  have hkey : KeyOk P k key := hk (key, v0) (by simp)
  have hk2 : ∀ x ∈ ents es.toList, KeyOk P k x.1 := by rw [hL]; exact hk
  rcases km_find K hk2 hkey w with ⟨h1, h2⟩ | ⟨j, e0, h1, h2, h3⟩
  · exact absurd rfl (h2 (key, v0) (by rw [hL]; simp))
  · obtain ⟨kl, hkl⟩ := hkey
    have hj : es[j]? = some e0 := by simpa using h2
    have hjl : j < es.toList.length := (List.getElem?_eq_some_iff.1 h2).1
    have hjA : j = A.length := by
      refine nodup_mid (v' := e0.val) hd ?_
      rw [← hL]
      simp [ents, hj, h3]
    have hkeyf : ∀ e', es[j]? = some e' → ({ e' with key := key, val := v } : MapEntry).key = e'.key := fun e' he' => by rw [hj] at he'; cases he'; exact h3.symm
    refine ⟨setBlock w b (.map (es.modify j (fun e' => { e' with key := key, val := v })) clock), ?_, ⟨es.modify j (fun e' => { e' with key := key, val := v }), clock, heap_setBlock_same hb _, stamped_modify hS _ _ (fun _ _ => rfl) (fun e' _ he' => hkeyf e' he'), ?_, ?_⟩, grown_block hb, by simp [setBlock]⟩
    · simp [Instr.mapUpdate, run_underlying ht, MapKept.run_getObj_map hb, K.check w false hkl, h1, hj, h3, K.stays w hkl, MapKept.run_setObj_map _ hb, Result.andThen, setBlock]
    · unfold ents at hL ⊢
      rw [Array.toList_modify, modify_eq_set _ _ _ _ h2, List.map_set, hL, hjA]
      simp
    · intro x hx
      simp only [List.mem_append, List.mem_cons] at hx
      rcases hx with hx | rfl | hx
      · exact hk x (by simp [hx])
      · exact ⟨kl, hkl⟩
      · exact hk x (by simp [hx])
theorem KM.len (h : KM P k w b L) (ht : P.underlying t = some (.map k e)) (ty : TypeId) : (Builtin.len_ #[t] ty #[.map (some b)]).run P w = .ok (.int .i64 L.length) w := by
  obtain ⟨es, clock, hb, hS, rfl, hk⟩ := h
  simp [Builtin.len_, run_underlying ht, MapKept.run_getObj_map hb, Result.andThen, ents, goInt]
/-- A loop over the map is under way; M are those that are still to come. -/
def KR (P : Program) (k : TypeId) (w : World) (b r : Nat) (L M : List (Value × Value)) : Prop :=
  ∃ es clock since seen c0, w.heap[b]? = some (.map es clock) ∧ Stamped es clock ∧ ents es.toList = L ∧ (∀ x ∈ L, KeyOk P k x.1) ∧ w.heap[r]? = some (.mapIter (some b) since seen c0) ∧ (∀ x ∈ es.toList, x.born < since) ∧ since ≤ c0 ∧ since ≤ clock ∧
    ents (es.toList.filter fun x => !seen.contains x.born) = M
theorem KR.km {r : Nat} {M : List (Value × Value)} (h : KR P k w b r L M) : KM P k w b L := by
  obtain ⟨es, clock, since, seen, c0, h1, h2, h3, h4, _⟩ := h
  exact ⟨es, clock, h1, h2, h3, h4⟩
theorem KR.ne {r : Nat} {M : List (Value × Value)} (h : KR P k w b r L M) : r ≠ b := by
  rintro rfl
  obtain ⟨es, clock, since, seen, c0, h1, h2, h3, h4, h5, _⟩ := h
  rw [h1] at h5
  cases h5
theorem KR.lt {r : Nat} {M : List (Value × Value)} (h : KR P k w b r L M) : r < w.heap.size := by
  obtain ⟨es, clock, since, seen, c0, h1, h2, h3, h4, h5, _⟩ := h
  exact (Array.getElem?_eq_some_iff.1 h5).1
theorem KR.kept {r : Nat} {M : List (Value × Value)} {row : Option Nat} (h : KR P k w b r L M) (hg : w.grownBy w' row) (h1 : some b ≠ row) (h2 : some r ≠ row) : KR P k w' b r L M := by
  have hl1 := h.km.lt
  have hl2 := h.lt
  obtain ⟨es, clock, since, seen, c0, k1, k2, k3, k4, k5, k6⟩ := h
  exact ⟨es, clock, since, seen, c0, (hg.block b hl1 h1).trans k1, k2, k3, k4, (hg.block r hl2 h2).trans k5, k6⟩
theorem KR.below {r : Nat} {M : List (Value × Value)} (h : KR P k w b r L M) (hb : Below w.heap.size w w') : KR P k w' b r L M := h.kept (grown_below hb none) (by simp) (by simp)
theorem KM.range (h : KM P k w b L) (ht : P.underlying t = some (.map k e)) :
    ∃ w', (Instr.range t (.map (some b))).run P w = .ok (.pointer (some ⟨w.heap.size, 0, none⟩)) w' ∧ KR P k w' b w.heap.size L L ∧ Below w.heap.size w w' ∧ w'.heap.size = w.heap.size + 1 := by
  have hlt := h.lt
  obtain ⟨es, clock, hb, hS, rfl, hk⟩ := h
  refine ⟨_, run_range_map w t k e b es clock ht hb, ⟨es, clock, clock, #[], clock, ((MapKept.heap_alloc w _).2 b hlt).trans hb, hS, rfl, hk, (MapKept.heap_alloc w _).1, hS.1, Nat.le_refl _, Nat.le_refl _, ?_⟩, (Below.refl _ _).alloc (Nat.le_refl _) _, by simp⟩
  rw [List.filter_eq_self.2 (fun x _ => by simp)]
theorem KR.next {r : Nat} {M : List (Value × Value)} (h : KR P k w b r L M) (ty : TypeId) :
    (M = [] ∧ (Instr.next (.pointer (some ⟨r, 0, none⟩)) false ty).run P w = .ok (.tuple #[.bool false]) w) ∨
    ∃ A x B w', M = A ++ x :: B ∧ x ∈ L ∧ (Instr.next (.pointer (some ⟨r, 0, none⟩)) false ty).run P w = .ok (.tuple #[.bool true, x.1, x.2]) w' ∧ KR P k w' b r L (A ++ B) ∧ w.grownBy w' (some r) ∧ w'.heap.size = w.heap.size := by
  have hne := h.ne
  obtain ⟨es, clock, since, seen, c0, hb, hS, rfl, hk, hr, hold, hsc, hsk, rfl⟩ := h
  rcases run_next_at (P := P) w ty r b since c0 seen es clock hr hb hold hsc with ⟨h0, hrun⟩ | ⟨e, he, w1, hal, hrun⟩
  · refine .inl ⟨?_, hrun⟩
    have h1 : (leftOf es seen).toList = [] := by
      rw [← List.length_eq_zero_iff, Array.length_toList]; exact h0
    unfold leftOf at h1
    rw [Array.toList_filter] at h1
    rw [h1]
    rfl
  · have he' : e ∈ es.toList.filter fun x => !seen.contains x.born := by
      unfold leftOf at he
      rw [Array.toList_filter] at he
      exact he
    have hem : e ∈ es.toList := (List.mem_filter.1 he').1
    obtain ⟨A, B, hAB⟩ := List.append_of_mem he'
    have hr1 : w1.heap[r]? = some (.mapIter (some b) since seen c0) := by rcases hal with rfl | rfl <;> exact hr
    have hb1 : w1.heap[b]? = some (.map es clock) := by rcases hal with rfl | rfl <;> exact hb
    have hset := heap_set (o' := .mapIter (some b) since (seen.push e.born) clock) hr1
    have hb' : (setBlock w1 r (.mapIter (some b) since (seen.push e.born) clock)).heap[b]? = some (.map es clock) := (hset.2 b (fun e1 => hne e1.symm)).trans hb1
    refine .inr ⟨ents A, (e.key, e.val), ents B, _, by rw [hAB]; simp [ents], List.mem_map.2 ⟨e, hem, rfl⟩, hrun, ⟨es, clock, since, seen.push e.born, clock, hb', hS, rfl, hk, hset.1, hold, hsk, hsk, ?_⟩, ?_, ?_⟩
    · have hd : ((A ++ e :: B).map (·.born)).Nodup := by
        rw [← hAB]
        exact hS.2.1.sublist (List.filter_sublist.map _)
      have e1 : (es.toList.filter fun x => !(seen.push e.born).contains x.born) = (es.toList.filter fun x => !seen.contains x.born).filter fun x => x.born != e.born := by
        rw [List.filter_filter]
        congr 1
        funext x
        rw [contains_push]
        cases seen.contains x.born <;> cases h : (x.born == e.born) <;> simp_all
      rw [e1, hAB, List.filter_append, List.filter_cons]
      simp only [bne_self_eq_false, Bool.false_eq_true, if_false]
      rw [List.map_append, List.map_cons, List.nodup_append] at hd
      obtain ⟨d1, d2, d3⟩ := hd
      rw [List.nodup_cons] at d2
      have f1 : (A.filter fun x => x.born != e.born) = A := List.filter_eq_self.2 (fun x hx => by
        have := d3 x.born (List.mem_map.2 ⟨x, hx, rfl⟩) e.born (by simp)
        simpa using this)
      have f2 : (B.filter fun x => x.born != e.born) = B := List.filter_eq_self.2 (fun x hx => by
        have : x.born ≠ e.born := fun h => d2.1 (List.mem_map.2 ⟨x, hx, h⟩)
        simpa using this)
      rw [f1, f2]
      simp [ents]
    · rcases hal with rfl | rfl <;> exact ⟨rfl, rfl, rfl, by simp [setBlock], fun i _ hi => hset.2 i (fun e1 => hi (by rw [e1]))⟩
    · rcases hal with rfl | rfl <;> simp [setBlock]
theorem run_drop (K : Keyed P k) (ht : P.underlying t = some (.map k e)) {es : Array MapEntry} {clock : Nat} (hb : w.heap[b]? = some (.map es clock)) (hS : Stamped es clock) {A B : List (Value × Value)} {key v : Value} (hL : ents es.toList = A ++ (key, v) :: B) (hk : ∀ x ∈ A ++ (key, v) :: B, KeyOk P k x.1) (ty : TypeId) :
    ∃ es', (Builtin.delete_ #[t, k] ty #[.map (some b), key]).run P w = .ok (.tuple #[]) (setBlock w b (.map es' clock)) ∧ Stamped es' clock ∧ ∃ X y Y, es.toList = X ++ y :: Y ∧ y.key = key ∧ es'.toList = X ++ Y ∧ ents X = A ∧ ents Y = B := by
  have hkey : KeyOk P k key := hk (key, v) (by simp)
  have hk2 : ∀ x ∈ ents es.toList, KeyOk P k x.1 := by rw [hL]; exact hk
  rcases km_find K hk2 hkey w with ⟨h1, h2⟩ | ⟨j, e0, h1, h2, h3⟩
  · exact absurd rfl (h2 (key, v) (by rw [hL]; simp))
  · obtain ⟨kl, hkl⟩ := hkey
    have hj : es[j]? = some e0 := by simpa using h2
    have hjl : j < es.toList.length := (List.getElem?_eq_some_iff.1 h2).1
    have hjs : j < es.size := by simpa using hjl
    have hd : ((A ++ (key, v) :: B).map (·.1)).Nodup := by
      rw [← hL]
      unfold ents
      rw [List.map_map]
      exact hS.2.2
    have hjA : j = A.length := by
      refine nodup_mid (v' := e0.val) hd ?_
      rw [← hL]
      simp [ents, hj, h3]
    have hsub : (es.eraseIdxIfInBounds j).toList = es.toList.eraseIdx j := by
      unfold Array.eraseIdxIfInBounds
      rw [dif_pos hjs]
      simp
    have hsplit : es.toList = es.toList.take j ++ e0 :: es.toList.drop (j + 1) := by
      have e1 := (List.getElem?_eq_some_iff.1 h2).2
      rw [← e1, List.getElem_cons_drop, List.take_append_drop]
    refine ⟨es.eraseIdxIfInBounds j, ?_, stamped_erase hS j, es.toList.take j, e0, es.toList.drop (j + 1), hsplit, h3, by rw [hsub, List.eraseIdx_eq_take_drop_succ], ?_, ?_⟩
    · simp [Builtin.delete_, run_underlying ht, MapKept.run_getObj_map hb, K.check w _ hkl, h1, MapKept.run_setObj_map _ hb, Result.andThen, setBlock]
    · have := congrArg (List.take A.length) hL
      rw [List.take_left' rfl] at this
      rw [← this, hjA]
      simp [ents, List.map_take]
    · have := congrArg (List.drop (A.length + 1)) hL
      rw [show A ++ (key, v) :: B = (A ++ [(key, v)]) ++ B by simp, List.drop_left' (by simp)] at this
      rw [← this, hjA]
      simp [ents, List.map_drop]
theorem KM.drop {A B : List (Value × Value)} {key v : Value} (h : KM P k w b (A ++ (key, v) :: B)) (K : Keyed P k) (ht : P.underlying t = some (.map k e)) (ty : TypeId) :
    ∃ w', (Builtin.delete_ #[t, k] ty #[.map (some b), key]).run P w = .ok (.tuple #[]) w' ∧ KM P k w' b (A ++ B) ∧ w.grownBy w' (some b) ∧ w'.heap.size = w.heap.size := by
  obtain ⟨es, clock, hb, hS, hL, hk⟩ := h
  obtain ⟨es', hrun, hS', X, y, Y, e1, e2, e3, e4, e5⟩ := run_drop K ht hb hS hL hk ty
  refine ⟨_, hrun, ⟨es', clock, heap_setBlock_same hb _, hS', by rw [e3]; simp [ents, ← e4, ← e5], fun x hx => hk x ?_⟩, grown_block hb, by simp [setBlock]⟩
  rcases List.mem_append.1 hx with hx | hx
  · exact List.mem_append_left _ hx
  · exact List.mem_append_right _ (List.mem_cons_of_mem _ hx)
theorem KM.drop_no (h : KM P k w b L) (K : Keyed P k) (ht : P.underlying t = some (.map k e)) {key : Value} (hkey : KeyOk P k key) (hn : ∀ x ∈ L, x.1 ≠ key) (ty : TypeId) :
    ∃ w', (Builtin.delete_ #[t, k] ty #[.map (some b), key]).run P w = .ok (.tuple #[]) w' ∧ KM P k w' b L ∧ w.grownBy w' (some b) ∧ w'.heap.size = w.heap.size := by
  obtain ⟨es, clock, hb, hS, rfl, hk⟩ := h
  rcases km_find K hk hkey w with ⟨h1, h2⟩ | ⟨j, e0, h1, h2, h3⟩
  · obtain ⟨kl, hkl⟩ := hkey
    refine ⟨setBlock w b (.map es clock), ?_, ⟨es, clock, heap_setBlock_same hb _, hS, rfl, hk⟩, grown_block hb, by simp [setBlock]⟩
    simp [Builtin.delete_, run_underlying ht, MapKept.run_getObj_map hb, K.check w _ hkl, h1, MapKept.run_setObj_map _ hb, Result.andThen, setBlock]
  · exact absurd h3 (hn (e0.key, e0.val) (List.mem_map.2 ⟨e0, List.mem_of_getElem? h2, rfl⟩))
theorem KR.drop {r : Nat} {M A B : List (Value × Value)} {key v : Value} (h : KR P k w b r (A ++ (key, v) :: B) M) (K : Keyed P k) (ht : P.underlying t = some (.map k e)) (hM : ∀ x ∈ M, x.1 ≠ key) (ty : TypeId) :
    ∃ w', (Builtin.delete_ #[t, k] ty #[.map (some b), key]).run P w = .ok (.tuple #[]) w' ∧ KR P k w' b r (A ++ B) M ∧ w.grownBy w' (some b) ∧ w'.heap.size = w.heap.size := by
  have hne := h.ne
  obtain ⟨es, clock, since, seen, c0, hb, hS, hL, hk, hr, hold, hsc, hsk, rfl⟩ := h
  obtain ⟨es', hrun, hS', X, y, Y, e1, e2, e3, e4, e5⟩ := run_drop K ht hb hS hL hk ty
  have hy : seen.contains y.born = true := by
    cases hc : seen.contains y.born with
    | true => rfl
    | false =>
      refine absurd e2 (hM (y.key, y.val) (List.mem_map.2 ⟨y, List.mem_filter.2 ⟨by rw [e1]; simp, by rw [hc]; rfl⟩, rfl⟩))
  refine ⟨_, hrun, ⟨es', clock, since, seen, c0, heap_setBlock_same hb _, hS', by rw [e3]; simp [ents, ← e4, ← e5], fun x hx => hk x ?_, (heap_setBlock_other hb _ hne).trans hr, fun x hx => hold x ?_, hsc, hsk, ?_⟩, grown_block hb, by simp [setBlock]⟩
  · rcases List.mem_append.1 hx with hx | hx
    · exact List.mem_append_left _ hx
    · exact List.mem_append_right _ (List.mem_cons_of_mem _ hx)
  · rw [e3] at hx
    rw [e1]
    rcases List.mem_append.1 hx with hx | hx
    · exact List.mem_append_left _ hx
    · exact List.mem_append_right _ (List.mem_cons_of_mem _ hx)
  · rw [e3, e1, List.filter_append, List.filter_append, List.filter_cons, hy]
    simp
end

end Go.Proofs.Ytiaabbflchdcbaa
