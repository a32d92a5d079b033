/-
  A quilt in memory. Plain lemmas; no condition.
-/
import Derived.Test.YtpkondemkpogoaaQsort
namespace Go.Proofs.Ytpkondemkpogoaa
open Go.RowKit
set_option linter.unusedVariables false
set_option linter.unusedSimpArgs false


/-- The pieces' bytes, and in which blocks they may lie. -/
def PsOk (S : Nat → Prop) (w : World) (d : List PV) : Prop := ∀ x ∈ d, RdT w (pvv x) x.1.2 ∧ ∀ b, (pvv x).ownBlock = some b → S b
abbrev QM : Int := 4611686018427387903
/-- What is plain of a quilt's pieces. -/
structure Qk (rd : Int) (L : List Pat) : Prop where
  ch : Ch rd L
  lo : 0 ≤ rd
  hi : ∀ x ∈ L, pe x ≤ QM
  by_ : ∀ x ∈ L, BytesOk x.2
abbrev lp (d : List PV) : List Pat := d.map (·.1)
def qcells (V : Value) (rd hi la : Int) (kn : Bool) : Array Value := #[V, .int .u64 rd, .int .u64 hi, .int .u64 la, .bool kn]
structure QS (S : Nat → Prop) (B : Nat) (w : World) (g : Nat) (rb : Option Nat) (d : List PV) (rd hi la : Int) (kn : Bool) : Prop where
  lo : B ≤ g
  me : ∃ V, V.ownBlock = rb ∧ Blk w g 63 (qcells V rd hi la kn) ∧ OwnM w B 66 2 V d.length (pvc d)
  ps : PsOk S w d
theorem PsOk.kept {S : Nat → Prop} {w w' : World} {d : List PV} {row : Option Nat} (h : PsOk S w d) (hb : w.grownBy w' row) (hr : ∀ b, S b → some b ≠ row) : PsOk S w' d := fun x hx => by
  obtain ⟨h1, h2⟩ := h x hx
  exact ⟨h1.kept hb (fun b e => hr b (h2 b e)), h2⟩
theorem PsOk.below {S : Nat → Prop} {w w' : World} {d : List PV} (h : PsOk S w d) (hb : Below w.heap.size w w') : PsOk S w' d := fun x hx => ⟨(h x hx).1.below hb, (h x hx).2⟩
theorem PsOk.grown {S : Nat → Prop} {w w' : World} {d : List PV} {g : Nat} {t : TypeId} {cs : Array Value} (h : PsOk S w d) (hg : Blk w g t cs) (hn : t ≠ 5) (hb : w.grownBy w' (some g)) : PsOk S w' d := fun x hx => ⟨rdt_grown (h x hx).1 hg hn hb, (h x hx).2⟩
theorem PsOk.set {S : Nat → Prop} {w : World} {d : List PV} {g : Nat} {t : TypeId} {cs : Array Value} (h : PsOk S w d) (hg : Blk w g t cs) (hn : t ≠ 5) (i : Nat) (u : Value) : PsOk S (w.setCell ⟨g, i, none⟩ u) d := fun x hx => ⟨rdt_set (h x hx).1 hg hn i u, (h x hx).2⟩
theorem PsOk.mono {S S' : Nat → Prop} {w : World} {d : List PV} (h : PsOk S w d) (hS : ∀ b, S b → S' b) : PsOk S' w d := fun x hx => ⟨(h x hx).1, fun b hb => hS b ((h x hx).2 b hb)⟩
theorem PsOk.perm {S : Nat → Prop} {w : World} {d d' : List PV} (h : PsOk S w d) (hp : d'.Perm d) : PsOk S w d' := fun x hx => h x (hp.mem_iff.1 hx)
theorem PsOk.app {S : Nat → Prop} {w : World} {d d' : List PV} (h : PsOk S w d) (h' : PsOk S w d') : PsOk S w (d ++ d') := fun x hx => (List.mem_append.1 hx).elim (h x) (h' x)
theorem PsOk.nil (S : Nat → Prop) (w : World) : PsOk S w [] := fun x hx => by simp at hx
section
variable {S : Nat → Prop} {B : Nat} {w w' : World} {g : Nat} {rb : Option Nat} {d : List PV} {rd hi la : Int} {kn : Bool}
theorem QS.below (h : QS S B w g rb d rd hi la kn) (hb : Below w.heap.size w w') : QS S B w' g rb d rd hi la kn := by
  obtain ⟨V, h1, h2, h3⟩ := h.me
  exact ⟨h.lo, ⟨V, h1, h2.same hb, h3.below hb⟩, h.ps.below hb⟩
theorem QS.drewN (h : QS S B w g rb d rd hi la kn) (n : Nat) : QS S B (w.drewN n) g rb d rd hi la kn := h.below (below_drewN (Below.refl _ w) n)
theorem QS.drew (h : QS S B w g rb d rd hi la kn) : QS S B w.drew g rb d rd hi la kn := h.drewN 1
theorem QS.lt (h : QS S B w g rb d rd hi la kn) : g < w.heap.size := by obtain ⟨V, h1, h2, h3⟩ := h.me; exact h2.lt
theorem QS.rlt (h : QS S B w g rb d rd hi la kn) : ∀ b, rb = some b → B ≤ b ∧ b < w.heap.size ∧ b ≠ g := by
  obtain ⟨V, rfl, h2, h3⟩ := h.me
  intro b hb
  have h4 := h3.lt b hb
  exact ⟨h4.1, h4.2, fun e => h3.blk_ne h2 (by decide) (by rw [hb, e])⟩
theorem QS.mono {S' : Nat → Prop} (h : QS S B w g rb d rd hi la kn) (hS : ∀ b, S b → S' b) : QS S' B w g rb d rd hi la kn := ⟨h.lo, h.me, h.ps.mono hS⟩
theorem QS.base {B' : Nat} (h : QS S B w g rb d rd hi la kn) (hB : B' ≤ B) : QS S B' w g rb d rd hi la kn := by
  obtain ⟨V, h1, h2, h3⟩ := h.me
  exact ⟨Nat.le_trans hB h.lo, ⟨V, h1, h2, h3.low hB⟩, h.ps⟩
/-- It stays where another block turns. -/
theorem QS.kept {m : Nat} (h : QS S B w g rb d rd hi la kn) (hb : w.grownBy w' (some m)) (h1 : m ≠ g) (h2 : rb ≠ some m) (h3 : ∀ b, S b → b ≠ m) : QS S B w' g rb d rd hi la kn := by
  obtain ⟨V, rfl, k2, k3⟩ := h.me
  exact ⟨h.lo, ⟨V, rfl, k2.grown hb (by simpa using Ne.symm h1), k3.kept hb (.inr h2)⟩, h.ps.kept hb (fun b hS => by simpa using h3 b hS)⟩
end
/-- One piece of an owned row of pieces. -/
theorem pv_at {w : World} {B : Nat} {A : Option Addr} {n cap : Nat} {d : List PV} (h : OwnM w B 66 2 (.slice A n cap) n (pvc d)) (i : Nat) (hi : i < d.length) :
    ∃ b off, A = some ⟨b, off, none⟩ ∧ b < w.heap.size ∧ w.cell? ⟨b, off + i * 2, none⟩ = some (.int .u64 d[i].1.1) ∧ w.cell? ⟨b, off + i * 2 + 1, none⟩ = some (pvv d[i]) := by
  have hl := h.1
  rw [pvc_len] at hl
  obtain ⟨⟨_, h5⟩, _⟩ := h.rdv
  obtain ⟨b, off, e, hb, hc⟩ := h5 i (by omega)
  obtain ⟨g0, g1⟩ := pvc_get d i hi
  refine ⟨b, off, e, hb, ?_, ?_⟩
  · have := hc 0 (by decide)
    rw [Nat.add_zero] at this
    rw [this]
    simp [List.getD, g0]
  · have := hc 1 (by decide)
    rw [← Nat.add_assoc] at this
    rw [this]
    simp [List.getD, g1]
theorem pvv_len {w : World} {x : PV} (h : RdT w (pvv x) x.1.2) : ∃ A cap, pvv x = .slice A x.1.2.length cap ∧ x.1.2.length ≤ cap ∧ cap ≤ maxLen := by
  obtain ⟨⟨A, cap, e, h1, h2, _⟩, _⟩ := h
  exact ⟨A, cap, e, h1, h2⟩

end Go.Proofs.Ytpkondemkpogoaa
