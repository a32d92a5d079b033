/-
  WordJoins: what stands in memory: the bytes so far, the messages so far. No condition.
-/
import Derived.Test.YtjijmbpgfabgcaaDoorZWjread
import Derived.Test.YtjijmbpgfabgcaaDoorZWmx
import Derived.Test.YtjijmbpgfabgcaaDoorZWfewf
import Derived.Deep.MidRow
namespace Go.Proofs.YtjijmbpgfabgcaaDoor
open Go.RowKit
set_option linter.unusedVariables false
set_option linter.unusedSimpArgs false

theorem infoM : (Tryd.prog.info? 28).map (fun i => (i.zero, i.size, i.bytes)) = some (some (.agg #[.int .u64 0, .int .u64 0, .int .u64 0, .slice none 0 0, .int .u8 0, .int .u8 0, .int .u64 0, .int .u64 0, .int .u64 0, .int .u64 0, .bool false, .int .u64 0, .slice none 0 0, .int .u64 0, .int .u64 0, .slice none 0 0]), 16, 168) := by kernel_rfl
theorem info28 : (Tryd.prog.info? 28).map (·.size) = some 16 := by kernel_rfl
/-- A message is loaded whole, wherever it lies. -/
theorem ld_mid {w : World} {b o : Nat} {cs : List Value} (h : ∀ j, j < 16 → w.cell? ⟨b, o + j, none⟩ = cs[j]?) (hl : cs.length = 16) : (Instr.loadAt 28 (.pointer (some ⟨b, o, none⟩))).run Tryd.prog w = .ok (.agg cs.toArray) w :=
  run_loadAt_mid w b o 28 cs _ (fun j v hv => by
    have hj : j < 16 := by rw [← hl]; exact (List.getElem?_eq_some_iff.1 hv).1
    rw [h j hj, hv]) Tryd.underlying28 rfl (by rw [info28, hl])
theorem ld_blk {w : World} {g : Nat} {cs : Array Value} (h : Blk w g 28 cs) (hl : cs.size = 16) : (Instr.loadAt 28 (.pointer (some ⟨g, 0, none⟩))).run Tryd.prog w = .ok (.agg cs) w := by
  have := ld_mid (w := w) (b := g) (o := 0) (cs := cs.toList) (fun j hj => by rw [Nat.zero_add, h.cell]; simp) (by simpa using hl)
  simpa using this
/-- A message that is kept, with its texts' values. -/
structure El where
  x : M
  n : Value
  r : Value
  v : Value
def El.cs (e : El) : List Value := (e.x.cells e.n e.r e.v).toList
def pB (E : List El) : List Int := E.flatMap fun e => bts e.x
def wC (E : List El) : List Value := E.flatMap El.cs
theorem cs_len (e : El) : e.cs.length = 16 := rfl
theorem wC_len (E : List El) : (wC E).length = E.length * 16 := by
  induction E with
  | nil => rfl
  | cons e E ih => simp only [wC, List.flatMap_cons, List.length_append, cs_len, List.length_cons] at ih ⊢; omega
theorem wC_get (E : List El) (k j : Nat) (hk : k < E.length) (hj : j < 16) : (wC E)[k * 16 + j]? = (E[k]).cs[j]? := by
  induction E generalizing k with
  | nil => simp at hk
  | cons e E ih =>
    simp only [wC, List.flatMap_cons]
    cases k with
    | zero => rw [List.getElem?_append_left (by rw [cs_len]; omega)]; simp
    | succ k =>
      rw [List.getElem?_append_right (by rw [cs_len]; omega), cs_len, show (k + 1) * 16 + j - 16 = k * 16 + j by omega]
      exact ih k (by simpa using hk)
def Apt (v u : Value) : Prop := ∀ b, v.ownBlock = some b → u.ownBlock ≠ some b
structure JS (w wr : World) (E : List El) (pv wv : Value) : Prop where
  p : wr.ownsRow w.heap.size 5 1 pv (pB E).length ((pB E).map (Value.int .u8))
  q : wr.ownsRow w.heap.size 28 16 wv E.length (wC E)
  e : ∀ z ∈ E, z.x.Ok ∧ Right z.x ∧ MX wr z.x z.n z.r z.v ∧ Apt z.n pv ∧ Apt z.r pv
  b : Below w.heap.size w wr
theorem JS.below {w wr w' : World} {E : List El} {pv wv : Value} (h : JS w wr E pv wv) (hb : Below wr.heap.size wr w') : JS w w' E pv wv :=
  ⟨own_same h.p hb, own_same h.q hb, fun z hz => ⟨(h.e z hz).1, (h.e z hz).2.1, (h.e z hz).2.2.1.below hb, (h.e z hz).2.2.2⟩, h.b.trans (hb.mono h.b.size)⟩
theorem pB_snoc (E : List El) (e : El) : pB (E ++ [e]) = pB E ++ bts e.x := by simp [pB]
theorem wC_snoc (E : List El) (e : El) : wC (E ++ [e]) = wC E ++ e.cs := by simp [wC]
theorem own_typ {w : World} {B B' e e' s s' n n' : Nat} {v v' : Value} {xs xs' : List Value} (h : w.ownsRow B e s v n xs) (h' : w.ownsRow B' e' s' v' n' xs') (hne : e ≠ e') : v'.ownBlock = none ∨ v.ownBlock ≠ v'.ownBlock := by
  rcases h'.2 with ⟨rfl, _⟩ | ⟨g, cap, cur, rfl, _, hh, _⟩
  · exact .inl rfl
  · exact .inr (own_blk_ne (g := g) h hh hne)
/-- While a message is joined on: the bytes, the messages, all texts, the new one's bytes. -/
structure ST (w wz : World) (pl : List Int) (ql : List Value) (qn : Nat) (EE : List El) (pv wv nv : Value) (nl : List Int) : Prop where
  p : wz.ownsRow w.heap.size 5 1 pv pl.length (pl.map (Value.int .u8))
  q : wz.ownsRow w.heap.size 28 16 wv qn ql
  e : ∀ z ∈ EE, MX wz z.x z.n z.r z.v ∧ Apt z.n pv ∧ Apt z.r pv
  o : RdT wz nv nl ∧ Apt nv pv
  b : Below w.heap.size w wz
section
variable {w wz w' : World} {pl nl : List Int} {ql : List Value} {qn : Nat} {EE : List El} {pv wv nv : Value}
theorem ST.below (h : ST w wz pl ql qn EE pv wv nv nl) (hb : Below wz.heap.size wz w') : ST w w' pl ql qn EE pv wv nv nl :=
  ⟨own_same h.p hb, own_same h.q hb, fun z hz => ⟨(h.e z hz).1.below hb, (h.e z hz).2⟩, ⟨h.o.1.below hb, h.o.2⟩, h.b.trans (hb.mono h.b.size)⟩
theorem apt_new {v u u' : Value} {n : Nat} (h : Apt v u) (hl : ∀ b, v.ownBlock = some b → b < n) (hu : u'.ownBlock = u.ownBlock ∨ u'.ownBlock = some n) : Apt v u' := fun b hb e => by
  rcases hu with hu | hu
  · exact h b hb (by rw [← hu, e])
  · have := hl b hb
    rw [hu] at e
    injection e with e
    omega
theorem ST.appP {pv' : Value} {pl' : List Int} (h : ST w wz pl ql qn EE pv wv nv nl) (hg : wz.grownBy w' pv.ownBlock) (ho : w'.ownsRow w.heap.size 5 1 pv' pl'.length (pl'.map (Value.int .u8))) (hat : pv'.ownBlock = pv.ownBlock ∨ pv'.ownBlock = some wz.heap.size) :
    ST w w' pl' ql qn EE pv' wv nv nl := by
  have ne : ∀ v : Value, Apt v pv → ∀ b, v.ownBlock = some b → some b ≠ pv.ownBlock := fun v hv b hb e => hv b hb e.symm
  refine ⟨ho, own_grown h.q hg (own_typ h.q h.p (by decide)), fun z hz => ?_, ⟨h.o.1.kept hg (ne _ h.o.2), apt_new h.o.2 h.o.1.olt hat⟩, h.b.grown hg h.b.size (fun b hb => (h.p.lt b hb).1)⟩
  obtain ⟨hM, h1, h2⟩ := h.e z hz
  obtain ⟨b, hv⟩ := hM.vs
  exact ⟨⟨hM.nm.kept hg (ne _ h1), hM.rs.kept hg (ne _ h2), b, own_grown hv hg (own_typ hv h.p (by decide))⟩, apt_new h1 hM.nm.olt hat, apt_new h2 hM.rs.olt hat⟩
theorem rdt_typ {B n : Nat} {v u : Value} {l : List Int} {xs : List Value} (h : RdT wz v l) (k : wz.ownsRow B 28 16 u n xs) : ∀ b, v.ownBlock = some b → some b ≠ u.ownBlock := fun b hb e => by
  rcases k.2 with ⟨rfl, _⟩ | ⟨g, cap, cur, rfl, _, hh, _⟩
  · cases e
  · have hg : b = g := by simpa [Value.ownBlock] using e
    subst hg
    exact h.ne hh (by decide) hb
theorem ST.appQ {wv' : Value} {ql' : List Value} {qn' : Nat} (h : ST w wz pl ql qn EE pv wv nv nl) (hg : wz.grownBy w' wv.ownBlock) (ho : w'.ownsRow w.heap.size 28 16 wv' qn' ql') : ST w w' pl ql' qn' EE pv wv' nv nl := by
  refine ⟨own_grown h.p hg (own_typ h.p h.q (by decide)), ho, fun z hz => ?_, ⟨h.o.1.kept hg (rdt_typ h.o.1 h.q), h.o.2⟩, h.b.grown hg h.b.size (fun b hb => (h.q.lt b hb).1)⟩
  obtain ⟨hM, h1, h2⟩ := h.e z hz
  obtain ⟨b, hv⟩ := hM.vs
  exact ⟨⟨hM.nm.kept hg (rdt_typ hM.nm h.q), hM.rs.kept hg (rdt_typ hM.rs h.q), b, own_grown hv hg (own_typ hv h.q (by decide))⟩, h1, h2⟩
end
theorem lit28 (w : World) (e : El) : (w.alloc (.cells (e.x.cells e.n e.r e.v) 28)).ownsRow 0 28 16 (.slice (some ⟨w.heap.size, 0, none⟩) 1 1) 1 e.cs := World.ownsRow_lit (size := 16) (e := 28) w (e.x.cells e.n e.r e.v) 1 (Nat.zero_le _) (by decide) rfl
theorem rdv28 {w : World} {B n c : Nat} {A : Option Addr} {xs : List Value} (h : w.ownsRow B 28 16 (.slice A n c) n xs) : RdV w 16 A n xs := by
  obtain ⟨A', c', e, _, _, hs⟩ := sl_of_own h
  simp only [Value.slice.injEq, true_and] at e
  obtain ⟨rfl, rfl⟩ := e
  exact ⟨h.1, hs⟩
theorem one28 (e : El) : ∀ u ∈ e.cs, e.n.oneCell' = true → e.r.oneCell' = true → e.v.oneCell' = true → u.oneCell' = true := fun u hu h1 h2 h3 => by
  simp only [El.cs, M.cells, List.mem_cons, List.not_mem_nil, or_false] at hu
  rcases hu with rfl | rfl | rfl | rfl | rfl | rfl | rfl | rfl | rfl | rfl | rfl | rfl | rfl | rfl | rfl | rfl <;> first | rfl | assumption

end Go.Proofs.YtjijmbpgfabgcaaDoor
