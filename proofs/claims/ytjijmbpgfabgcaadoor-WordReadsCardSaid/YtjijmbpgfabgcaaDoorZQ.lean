/-
  Structs of many cells, stored, loaded and handed back as one: a block's cells are turned at once. Plain lemmas; no condition.
  The reference's Read: its state while letters are read. No condition.
-/
import Derived.Test.YtjijmbpgfabgcaaDoorZA
import Derived.Laws.Tables
import Derived.Test.YtjijmbpgfabgcaaDoorZRrighty
import Derived.Test.YtjijmbpgfabgcaaDoorZRtt
import Derived.Test.YtjijmbpgfabgcaaDoorZWread
import Derived.Test.YtjijmbpgfabgcaaDoorZB
import Derived.Test.YtjijmbpgfabgcaaDoorZWplus
namespace Go.Proofs.YtjijmbpgfabgcaaDoor
open Go.RowKit
set_option linter.unusedVariables false
set_option linter.unusedSimpArgs false

section
variable {a w w' : World} {g g' : Nat} {t t' : TypeId} {cs cs' old : Array Value} {B : Nat} {r : Option Nat}
theorem Blk.row (h : Blk w g t old) (cs : Array Value) : Blk (w.setRow g cs) g t cs := setRow_heap w g old cs t (0, 0) h
theorem Blk.row_far (h : Blk w g' t' cs') (hn : g' ≠ g) (cs : Array Value) : Blk (w.setRow g cs) g' t' cs' := (setRow_other w g g' cs hn).trans h
theorem grown_row (h : a.grownBy w (some g)) (cs : Array Value) : a.grownBy (w.setRow g cs) (some g) :=
  ⟨h.os, h.tape, h.output, by rw [setRow_size]; exact h.size, fun i hi hne => (setRow_other w g i cs (fun e => hne (by rw [e]))).trans (h.block i hi hne)⟩
theorem row_grown (w : World) (g : Nat) (cs : Array Value) : w.grownBy (w.setRow g cs) (some g) := grown_row (grown_refl w (some g)) cs
theorem below_row (h : Below B a w) (hg : B ≤ g) (cs : Array Value) : Below B a (w.setRow g cs) :=
  ⟨h.os, h.tape, h.output, by rw [setRow_size]; exact h.size, fun i hi => (setRow_other w g i cs (by omega)).trans (h.block i hi)⟩
theorem results_row3 {P : Program} {fn : Func} {p u v : Tmp} {ty : TypeId} (h : fn.results = #[.cell p ty, .tmp u, .tmp v]) (tmps : Array Value) (d : TypeDesc)
    (hp : tmps.getD p undef = .pointer (some ⟨g, 0, none⟩)) (hg : Blk w g t cs)
    (hu : P.underlying ty = some d) (hd : (match d with | .struct _ | .array _ _ => true | _ => false) = true) (hi : (P.info? ty).map (·.size) = some cs.size) :
    (results fn tmps).run P w = .ok (.tuple #[.agg cs, tmps.getD u undef, tmps.getD v undef]) w := by
  have hp' : tmps[p]?.getD undef = .pointer (some ⟨g, 0, none⟩) := by simpa using hp
  simp [results, h, hp', asAddr, run_loadVar_row w g t ty cs (0, 0) d hg hu hd hi, Sem.run_bind, Result.andThen]
theorem results_row2 {P : Program} {fn : Func} {p u : Tmp} {ty : TypeId} (h : fn.results = #[.cell p ty, .tmp u]) (tmps : Array Value) (d : TypeDesc)
    (hp : tmps.getD p undef = .pointer (some ⟨g, 0, none⟩)) (hg : Blk w g t cs)
    (hu : P.underlying ty = some d) (hd : (match d with | .struct _ | .array _ _ => true | _ => false) = true) (hi : (P.info? ty).map (·.size) = some cs.size) :
    (results fn tmps).run P w = .ok (.tuple #[.agg cs, tmps.getD u undef]) w := by
  have hp' : tmps[p]?.getD undef = .pointer (some ⟨g, 0, none⟩) := by simpa using hp
  simp [results, h, hp', asAddr, run_loadVar_row w g t ty cs (0, 0) d hg hu hd hi, Sem.run_bind, Result.andThen]
end

end Go.Proofs.YtjijmbpgfabgcaaDoor
namespace Go.Proofs.YtjijmbpgfabgcaaDoor
open Go.RowKit
set_option linter.unusedVariables false
set_option linter.unusedSimpArgs false

abbrev ZA28 : Array Value := #[.int .u64 0, .int .u64 0, .int .u64 0, .slice none 0 0, .int .u8 0, .int .u8 0, .int .u64 0, .int .u64 0, .int .u64 0, .int .u64 0, .bool false, .int .u64 0, .slice none 0 0, .int .u64 0, .int .u64 0, .slice none 0 0]
theorem za_one : ZA28.all (·.oneCell') = true := by kernel_rfl
theorem infoR28 : (Tryd.prog.info? 28).map (·.size) = some 16 := by kernel_rfl
theorem parse_step {c : Int} {L : List Int} {x y : M} {b r : List Int} (h : stepL c x b = some (y, r)) : parse (c :: L) x b = parse L y r := by simp [parse, h]
theorem parse_fail {c : Int} {L : List Int} {x : M} {b : List Int} (h : stepL c x b = none) : parse (c :: L) x b = none := by simp [parse, h]
theorem it_ne_own {w : World} {B e s n k pos : Nat} {v : Value} {xs : List Value} {L : List Int} (h : w.ownsRow B e s v n xs) (hi : ItAt w k L pos) : v.ownBlock ≠ some k := by
  rcases h.2 with ⟨rfl, _⟩ | ⟨g', cap, cur, rfl, _, hh, _⟩
  · simp [Value.ownBlock]
  · intro he
    have e1 : g' = k := by simpa [Value.ownBlock] using he
    exact hi.ne hh e1
theorem rdt_it {w w' : World} {k pos : Nat} {v : Value} {l L : List Int} (h : RdT w v l) (hi : ItAt w k L pos) (hg : w.grownBy w' (some k)) : RdT w' v l := by
  refine h.kept hg (fun b hb e => ?_)
  simp only [Option.some.injEq] at e
  subst e
  rcases h.shape with ⟨cap, rfl, _⟩ | ⟨b', off, cap, cs, rfl, k1, _⟩
  · simp [Value.ownBlock] at hb
  · simp only [Value.ownBlock, Option.some.injEq] at hb
    subst hb
    exact hi.ne k1 rfl
/-- What holds between letters: the result's block, the letters' iterator, what is still to be read, what is behind, the message. -/
structure RS (w : World) (B rb kb ib : Nat) (L : List Int) (pos : Nat) (x : M) (vb : Value) (bl : List Int) (ve : Value) (be : List Int) : Prop where
  res : Blk w rb 28 ZA28
  it : ItAt w ib L pos
  b : RdT w vb bl
  e : RdT w ve be
  msg : ∃ nv rv vv, Blk w kb 28 (x.cells nv rv vv) ∧ RdT w nv x.nm ∧ RdT w rv x.rs ∧ w.ownsRow B 22 1 vv x.vs.length (x.vs.map (Value.int .u64))
section
variable {w w' : World} {B rb kb ib pos : Nat} {L bl be bl' : List Int} {x x' : M} {vb ve vb' : Value}
theorem RS.kept (h : RS w B rb kb ib L pos x vb bl ve be) (hb : Below w.heap.size w w') : RS w' B rb kb ib L pos x vb bl ve be := by
  obtain ⟨h1, h2, h3, h4, nv, rv, vv, h5, h6, h7, h8⟩ := h
  exact ⟨h1.same hb, h2.below hb, h3.below hb, h4.below hb, nv, rv, vv, h5.same hb, h6.below hb, h7.below hb, own_same h8 hb⟩
theorem RS.withb (h : RS w B rb kb ib L pos x vb bl ve be) (hr : RdT w vb' bl') : RS w B rb kb ib L pos x vb' bl' ve be := { h with b := hr }
theorem RS.frozen (h : RS w B rb kb ib L pos x vb bl ve be) (i : Nat) : w.frozen? ⟨kb, i, none⟩ = false := by
  obtain ⟨nv, rv, vv, hO, _⟩ := h.msg
  exact hO.frozen i
theorem RS.old (h : RS w B rb kb ib L pos x vb bl ve be) (i : Nat) (hi : i < 16) : ∃ v, w.cell? ⟨kb, i, none⟩ = some v := by
  obtain ⟨nv, rv, vv, hO, _⟩ := h.msg
  exact ⟨_, (hO.cell i).trans (Array.getElem?_eq_getElem (by simpa using hi))⟩
theorem RS.set (h : RS w B rb kb ib L pos x vb bl ve be) (hne : rb ≠ kb) (i : Nat) (v : Value) (hc : ∀ nv rv vv, (x.cells nv rv vv).setIfInBounds i v = x'.cells nv rv vv) (h1 : x'.nm = x.nm) (h2 : x'.rs = x.rs) (h3 : x'.vs = x.vs) :
    RS (w.setCell ⟨kb, i, none⟩ v) B rb kb ib L pos x' vb bl ve be := by
  obtain ⟨k1, k2, k3, k4, nv, rv, vv, hO, k6, k7, k8⟩ := h
  refine ⟨k1.far hne v, it_set k2 (k2.ne hO) v, rdt_set k3 hO (by decide) i v, rdt_set k4 hO (by decide) i v, nv, rv, vv, ?_, ?_, ?_, ?_⟩
  · rw [← hc]; exact hO.set_ i v
  · rw [h1]; exact rdt_set k6 hO (by decide) i v
  · rw [h2]; exact rdt_set k7 hO (by decide) i v
  · rw [h3]; exact own_far k8 (own_blk_ne k8 hO (by decide)) v
theorem RS.setn (h : RS w B rb kb ib L pos x vb bl ve be) (hne : rb ≠ kb) (v : Value) (l : List Int) (hv : RdT w v l) : RS (w.setCell ⟨kb, 3, none⟩ v) B rb kb ib L pos { x with nm := l } vb bl ve be := by
  obtain ⟨k1, k2, k3, k4, nv, rv, vv, hO, k6, k7, k8⟩ := h
  exact ⟨k1.far hne v, it_set k2 (k2.ne hO) v, rdt_set k3 hO (by decide) 3 v, rdt_set k4 hO (by decide) 3 v, v, rv, vv, hO.set_ 3 v, rdt_set hv hO (by decide) 3 v, rdt_set k7 hO (by decide) 3 v, own_far k8 (own_blk_ne k8 hO (by decide)) v⟩
theorem RS.setr (h : RS w B rb kb ib L pos x vb bl ve be) (hne : rb ≠ kb) (v : Value) (l : List Int) (hv : RdT w v l) : RS (w.setCell ⟨kb, 12, none⟩ v) B rb kb ib L pos { x with rs := l } vb bl ve be := by
  obtain ⟨k1, k2, k3, k4, nv, rv, vv, hO, k6, k7, k8⟩ := h
  exact ⟨k1.far hne v, it_set k2 (k2.ne hO) v, rdt_set k3 hO (by decide) 12 v, rdt_set k4 hO (by decide) 12 v, nv, v, vv, hO.set_ 12 v, rdt_set k6 hO (by decide) 12 v, rdt_set hv hO (by decide) 12 v, own_far k8 (own_blk_ne k8 hO (by decide)) v⟩
theorem RS.app {a : List Int} {n : Nat} {y : Int} {nv rv vv v4 : Value} {w4 : World} (k1 : Blk w rb 28 ZA28) (k2 : ItAt w ib L pos) (k3 : RdT w vb bl) (k4 : RdT w ve be) (hne : rb ≠ kb) (hO : Blk w kb 28 (x.cells nv rv vv)) (k6 : RdT w nv x.nm) (k7 : RdT w rv x.rs)
    (k8 : w.ownsRow B 22 1 vv n (a.map (Value.int .u64))) (hn : n = a.length) (hg : w.grownBy w4 vv.ownBlock) (hown : w4.ownsRow B 22 1 v4 (n + 1) (a.map (Value.int .u64) ++ [.int .u64 y])) :
    RS (w4.setCell ⟨kb, 15, none⟩ v4) B rb kb ib L pos { x with vs := a ++ [y] } vb bl ve be := by
  subst hn
  have O4 := hO.grown hg (fun e => own_blk_ne k8 hO (by decide) e.symm)
  have i4 := k2.kept hg (fun e => it_ne_own k8 k2 e.symm)
  refine ⟨(k1.grown hg (fun e => own_blk_ne k8 k1 (by decide) e.symm)).far hne v4, it_set i4 (i4.ne O4) v4, rdt_set (rdt_own22 k3 k8 hg) O4 (by decide) 15 v4, rdt_set (rdt_own22 k4 k8 hg) O4 (by decide) 15 v4, nv, rv, v4, O4.set_ 15 v4, rdt_set (rdt_own22 k6 k8 hg) O4 (by decide) 15 v4, rdt_set (rdt_own22 k7 k8 hg) O4 (by decide) 15 v4, own_far ?_ (own_blk_ne hown O4 (by decide)) v4⟩
  show w4.ownsRow B 22 1 v4 (a ++ [y]).length ((a ++ [y]).map (Value.int .u64))
  rw [List.length_append, List.map_append]
  exact hown
theorem RS.next {P : Program} (h : RS w B rb kb ib L pos x vb bl ve be) (hp : pos < L.length) (hL : ∀ c ∈ L, c ∈ LETS) :
    ∃ wi c, c ∈ LETS ∧ L.drop pos = c :: L.drop (pos + 1) ∧ (∀ ty, (Instr.next (.pointer (some ⟨ib, 0, none⟩)) true ty).run P w = .ok (.tuple #[.bool true, .int .i64 pos, .int .i32 c]) wi) ∧ RS wi B rb kb ib L (pos + 1) x vb bl ve be ∧ w.grownBy wi (some ib) := by
  obtain ⟨k1, k2, k3, k4, nv, rv, vv, hO, k6, k7, k8⟩ := h
  obtain ⟨wi, c, hc, hcm, hnx, hit, hg⟩ := k2.next (P := P) hp hL
  have e1 : L.drop pos = c :: L.drop (pos + 1) := by
    rw [List.drop_eq_getElem_cons hp, ← hc]
    congr 1
    simp [List.getD, hp]
  have nb : ∀ {g t cs}, Blk w g t cs → some g ≠ some ib := fun hb e => k2.ne hb (by simpa using e)
  exact ⟨wi, c, hL c hcm, e1, hnx, ⟨k1.grown hg (nb k1), hit, rdt_it k3 k2 hg, rdt_it k4 k2 hg, nv, rv, vv, hO.grown hg (nb hO), rdt_it k6 k2 hg, rdt_it k7 k2 hg, own_grown k8 hg (.inr (it_ne_own k8 k2))⟩, hg⟩
end
theorem vtext_codes (l : List Int) (m : Int) : (vtext l m).2.2 = 0 ∨ (vtext l m).2.2 = 2 ∨ (vtext l m).2.2 = 3 := by
  rcases ht : vtake l with _ | ⟨n, r⟩
  · rw [vtext_none _ ht]; simp
  · rw [vtext_some _ ht]; by_cases h1 : m < 0 ∨ m < n
    · rw [if_pos h1]; simp
    · rw [if_neg h1]; split <;> simp
theorem vtext_two {l : List Int} (hk : BytesOk l) (hl : l.length ≤ 65535) : ((vtext l 65536).2.2 = 0 → vtext l 1048576 = vtext l 65536) ∧ ((vtext l 65536).2.2 ≠ 0 → (vtext l 1048576).2.2 ≠ 0) := by
  rcases ht : vtake l with _ | ⟨n, r⟩
  · rw [vtext_none _ ht, vtext_none _ ht]; simp
  · have hr := vtake_rest hk ht
    rw [vtext_some _ ht, vtext_some _ ht]
    by_cases h1 : n ≤ 65536
    · rw [if_neg (show ¬((65536 : Int) < 0 ∨ 65536 < n) by omega), if_neg (show ¬((1048576 : Int) < 0 ∨ 1048576 < n) by omega)]
      exact ⟨fun _ => rfl, fun h => h⟩
    · rw [if_pos (show (65536 : Int) < 0 ∨ 65536 < n by omega)]
      refine ⟨fun h => by simp at h, fun _ => ?_⟩
      by_cases h2 : (1048576 : Int) < 0 ∨ 1048576 < n
      · rw [if_pos h2]; simp
      · rw [if_neg h2, if_pos (by omega)]; simp
theorem parse_ok0 {kd : Int} {l : List Int} (h : 0 ≤ kd ∧ kd ≤ 18446744073709551615) (hk : BytesOk l) (hl : l.length ≤ 65535) : RI 65535 0 kd (M.nil kd) l := ⟨nil_ok h, hk, hl, by simp [M.nil], by simp [M.nil], by simp [M.nil], rfl⟩

end Go.Proofs.YtjijmbpgfabgcaaDoor
