/-
  Steps of a region that draws its order: append at a literal row, append at a row of the call's own, each in whatever world the order comes to. Plain lemmas; no condition.
-/
import Derived.Test.YtbigbnfllkacoaaDoorOpen
import Derived.Deep.RegionLawGrows
namespace Go.Proofs.YtbigbnfllkacoaaDoor
open Go.RowKit
set_option linter.unusedVariables false
set_option linter.unusedSimpArgs false

theorem keepB_drewN {W w : World} (h : Below W.heap.size W w) (n : Nat) : Below W.heap.size W (w.drewN n) := below_drewN h n
theorem keepB_grown {W w w' : World} {r : Option Nat} (h : Below W.heap.size W w) (k : w.grownBy w' r) (hr : ∀ g, r = some g → W.heap.size ≤ g) : Below W.heap.size W w' := h.grown k h.size hr
theorem keepB_of_none {W w' : World} (k : W.grownBy w' none) : Below W.heap.size W w' := below_of_grown k (Nat.le_refl _) (fun _ h => by cases h)

/-- Append at a row that the region has laid itself, full to its end: it makes a new row. -/
theorem step_append_lit {P : Program} {ops : Array Oper} {o : Oper} {a : Act} {w X : World} {K : Act → World → Prop} {Q : Exit → Act → World → Prop} {E : Prop}
    (hg : o.guard = none) (s x : Operand) (t : TypeId) (hop : o.op = Op.call { callee := Callee.builtin Builtin.append, args := #[s, x], argTypes := #[t, t] })
    (e : TypeId) (i : TypeInfo) (z : Value) (bytes : Nat) (h1 : P.underlying t = some (.slice e)) (h2 : P.info? e = some i) (h3 : i.zero = some z) (h4 : i.size = 1) (h5 : i.bytes = bytes) (h6 : z.cells.size = 1)
    (cs : Array Value) (hs : a.eval s = .slice (some ⟨X.heap.size, 0, none⟩) cs.size cs.size) (hX : Below (X.alloc (.cells cs e)).heap.size (X.alloc (.cells cs e)) w)
    (A : Option Addr) (m c : Nat) (news : List Value) (hx : a.eval x = .slice A m c) (hr : RdV w 1 A m news) (h1c : ∀ u ∈ news, u.oneCell' = true) (hm : 0 < m)
    (b1 : cs.size + m ≤ maxLen) (b2 : (cs.size + m) * bytes ≤ 140737488355328)
    (hK : ∀ v' w', w'.ownsRow w.heap.size e 1 v' (cs.size + m) (cs.toList ++ news) → Below w.heap.size w w' → K (a.put o.dst v') w') :
    if Region.wanted o (yielded ops a.tmps) = true then Oper.wp P o a w K Q else E := by
  obtain ⟨b, off, rfl, _, hc⟩ := rd_cells w (by decide) hr hm
  have hb := (Blk.new X e cs).same hX
  refine step_append_grows hg s x t hop e i z 1 bytes h1 h2 h3 h4 h5 h6 (by decide) (some ⟨X.heap.size, 0, none⟩) cs.size cs.size cs.toList hs (fun h => by cases h) (by simp) (fun b' hb' j u hj => ?_)
    ⟨b, off, none⟩ m c news hx hr.1 hc h1c (by omega) b1 b2 (fun v' w' ho hg' => hK v' w' ho (keepB_of_none hg'))
  injection hb' with hb'
  subst hb'
  rw [addr_add, Nat.zero_add, hb.cell j, ← hj]
  simp
theorem szB {W X : World} (h : Below W.heap.size W X) : W.heap.size ≤ X.heap.size := h.size
theorem fin_grown {w w1 X w9 : World} {r : Option Nat} (hB : Below w.heap.size w w1) (hX : Below w1.heap.size w1 X) (hg : X.grownBy w9 r) (hr : ∀ b, r = some b → w.heap.size ≤ b) : Below w.heap.size w w9 :=
  (hB.trans (hX.mono hB.size)).grown hg (Nat.le_trans hB.size hX.size) hr
/-- Append at a row that was laid just before: what was there stays. -/
theorem lit_grown {W w' : World} {o : Obj} (h : (W.alloc o).grownBy w' (some W.heap.size)) : Below W.heap.size W w' :=
  ((Below.refl _ _).alloc (Nat.le_refl _) o).grown h (by simp) (fun k hk => by injection hk with hk; omega)

end Go.Proofs.YtbigbnfllkacoaaDoor
