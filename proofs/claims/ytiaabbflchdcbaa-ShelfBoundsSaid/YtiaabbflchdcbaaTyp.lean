/-
  Bytes with their block's kind: a slice of bytes lies in a block of bytes, nothing of it frozen, its capacity within the block; it stays where blocks of other kinds turn. Plain lemmas; no condition.
-/
import Derived.Test.YtiaabbflchdcbaaMid
namespace Go.Proofs.Ytiaabbflchdcbaa
open Go.RowKit
set_option linter.unusedVariables false
set_option linter.unusedSimpArgs false

def Typ (w : World) (v : Value) : Prop := ∀ a n c, v = .slice (some a) n c → a.spot = none ∧ ∃ cs, Blk w a.block 5 cs ∧ a.off + c ≤ cs.size
def RdT (w : World) (v : Value) (l : List Int) : Prop := Rd w .u8 v l ∧ Typ w v
theorem typ_nil (w : World) (n c : Nat) : Typ w (.slice none n c) := fun a n c e => by simp at e
theorem RdT.nil (w : World) : RdT w (.slice none 0 0) [] := ⟨Rd.nil _ _, typ_nil _ _ _⟩
section
variable {w w' : World} {v V : Value} {l : List Int} {g : Nat} {t : TypeId} {cs : Array Value} {row : Option Nat}
theorem RdT.form (h : RdT w v l) : ∃ A cap, v = .slice A l.length cap := h.1.form
/-- Its form, the block known. -/
theorem RdT.shape (h : RdT w v l) : (∃ cap, v = .slice none 0 cap ∧ l = []) ∨ ∃ b off cap cs, v = .slice (some ⟨b, off, none⟩) l.length cap ∧ Blk w b 5 cs ∧ off + cap ≤ cs.size ∧ l.length ≤ cap ∧ cap ≤ maxLen := by
  obtain ⟨⟨A, cap, rfl, h1, h2, h3, h4⟩, hT⟩ := h
  rcases A with _ | ⟨b, off, sp⟩
  · have := h3 rfl
    subst this
    exact .inl ⟨cap, rfl, rfl⟩
  · obtain ⟨e, cs, k1, k2⟩ := hT _ _ _ rfl
    simp only at e k1 k2
    subst e
    exact .inr ⟨b, off, cap, cs, rfl, k1, k2, h1, h2⟩
theorem RdT.olt (h : RdT w v l) : ∀ b, v.ownBlock = some b → b < w.heap.size := by
  intro b hb
  rcases h.shape with ⟨cap, rfl, _⟩ | ⟨b', off, cap, cs, rfl, k1, _⟩
  · simp [Value.ownBlock] at hb
  · simp only [Value.ownBlock, Option.some.injEq] at hb
    subst hb
    exact k1.lt
theorem typ_kept (h : Typ w v) (hb : w.grownBy w' row) (hr : ∀ b, v.ownBlock = some b → some b ≠ row) : Typ w' v := fun a n c e => by
  obtain ⟨h0, cs, h1, h2⟩ := h a n c e
  exact ⟨h0, cs, h1.grown hb (hr _ (by rw [e]; rfl)), h2⟩
theorem RdT.kept (h : RdT w v l) (hb : w.grownBy w' row) (hr : ∀ b, v.ownBlock = some b → some b ≠ row) : RdT w' v l := by
  have hT := typ_kept h.2 hb hr
  obtain ⟨⟨A, cap, rfl, h1, h2, h3, h4⟩, _⟩ := h
  refine ⟨⟨A, cap, rfl, h1, h2, h3, fun k hk => ?_⟩, hT⟩
  obtain ⟨b, off, rfl, hl, hc⟩ := h4 k hk
  refine ⟨b, off, rfl, Nat.lt_of_lt_of_le hl hb.size, fun j hj => ?_⟩
  have := hb.block b hl (hr b rfl)
  rw [← hc j hj]
  simp only [World.cell?, this]
theorem RdT.below (h : RdT w v l) (hb : Below w.heap.size w w') : RdT w' v l := h.kept (grown_below hb none) (fun _ _ => by simp)
theorem RdT.alloc (h : RdT w v l) (o : Obj) : RdT (w.alloc o) v l := h.below ((Below.refl _ _).alloc (Nat.le_refl _) o)
theorem RdT.drewN (h : RdT w v l) (n : Nat) : RdT (w.drewN n) v l := h
theorem RdT.drew (h : RdT w v l) : RdT w.drew v l := h
theorem RdT.ne (h : RdT w v l) (hg : Blk w g t cs) (hn : t ≠ 5) : v.ownBlock ≠ some g := by
  intro e
  rcases h.shape with ⟨cap, rfl, _⟩ | ⟨b', off, cap, cs, rfl, k1, _⟩
  · simp [Value.ownBlock] at e
  · simp only [Value.ownBlock, Option.some.injEq] at e
    exact k1.ne_ hg (Ne.symm hn) e
theorem rdt_grown (h : RdT w v l) (hg : Blk w g t cs) (hn : t ≠ 5) (hb : w.grownBy w' (some g)) : RdT w' v l := h.kept hb (fun b e => fun e' => h.ne hg hn (by rw [e, e']))
theorem rdt_set (h : RdT w v l) (hg : Blk w g t cs) (hn : t ≠ 5) (i : Nat) (u : Value) : RdT (w.setCell ⟨g, i, none⟩ u) v l := rdt_grown h hg hn (grown_set (grown_refl w _) i u)
theorem RdT.suf {b off n cap : Nat} (h : RdT w (.slice (some ⟨b, off, none⟩) n cap) l) {m : Nat} (hm : m ≤ l.length) : RdT w (.slice (some ⟨b, off + m, none⟩) (l.length - m) (cap - m)) (l.drop m) :=
  ⟨h.1.suf hm, fun a n' c' e => by
    simp only [Value.slice.injEq, Option.some.injEq] at e
    obtain ⟨_, cs, h1, h2⟩ := h.2 _ _ _ rfl
    obtain ⟨_, _, h3, _⟩ := h.1.rdv
    obtain ⟨rfl, rfl, rfl⟩ := e
    exact ⟨rfl, cs, h1, by simp only at h2 ⊢; omega⟩⟩
theorem RdT.pre {A : Option Addr} {n cap : Nat} (h : RdT w (.slice A n cap) l) {m : Nat} (hm : m ≤ l.length) : RdT w (.slice A m cap) (l.take m) :=
  ⟨h.1.pre hm, fun a n' c' e => by
    simp only [Value.slice.injEq] at e
    obtain ⟨rfl, rfl, rfl⟩ := e
    exact h.2 _ n _ rfl⟩
theorem RdT.emp {b off n cap : Nat} (h : RdT w (.slice (some ⟨b, off, none⟩) n cap) l) : RdT w (.slice (some ⟨b, off, none⟩) 0 0) [] :=
  ⟨Rd.emp w .u8 _ 0 (by decide), fun a n' c' e => by
    simp only [Value.slice.injEq, Option.some.injEq] at e
    obtain ⟨_, cs, h1, h2⟩ := h.2 _ _ _ rfl
    obtain ⟨rfl, rfl, rfl⟩ := e
    exact ⟨rfl, cs, h1, by simp only at h2 ⊢; omega⟩⟩
theorem rdt_of_own {base n : Nat} (h : w.ownsRow base 5 1 v n (l.map (Value.int .u8))) : RdT w v l := by
  refine ⟨rd_of_own h, fun a n' c' e => ?_⟩
  rcases h.2 with ⟨rfl, h0⟩ | ⟨g, cap, cur, rfl, hb, hg, hn, hc, hs, _⟩
  · simp at e
  · simp only [Value.slice.injEq, Option.some.injEq] at e
    obtain ⟨rfl, rfl, rfl⟩ := e
    exact ⟨rfl, cur, hg, by simp only; omega⟩
end
end Go.Proofs.Ytiaabbflchdcbaa
