/-
  A shelf in memory. No condition.
-/
import Derived.Test.YtiaabbflchdcbaaSdelw
import Derived.Test.YtiaabbflchdcbaaKop
namespace Go.Proofs.Ytiaabbflchdcbaa
open Go.RowKit
set_option linter.unusedVariables false
set_option linter.unusedSimpArgs false

/-- All blocks stay but those of S. -/
def KB (S : Nat → Prop) (a w : World) : Prop := w.os = a.os ∧ w.tape = a.tape ∧ w.output = a.output ∧ a.heap.size ≤ w.heap.size ∧ ∀ g, g < a.heap.size → ¬ S g → w.heap[g]? = a.heap[g]?
section
variable {S : Nat → Prop} {a b w w' : World} {r : Option Nat}
theorem KB.of (h : Below a.heap.size a w) : KB S a w := ⟨h.os, h.tape, h.output, h.size, fun g hg _ => h.block g hg⟩
theorem KB.sz (h : KB S a w) : a.heap.size ≤ w.heap.size := h.2.2.2.1
theorem KB.trans (h : KB S a b) (k : KB S b w) : KB S a w := ⟨k.1.trans h.1, k.2.1.trans h.2.1, k.2.2.1.trans h.2.2.1, Nat.le_trans h.sz k.sz, fun g hg hs => (k.2.2.2.2 g (Nat.lt_of_lt_of_le hg h.sz) hs).trans (h.2.2.2.2 g hg hs)⟩
theorem KB.grown (h : KB S a w) (hg : w.grownBy w' r) (hr : ∀ k, r = some k → S k ∨ a.heap.size ≤ k) : KB S a w' :=
  ⟨hg.os.trans h.1, hg.tape.trans h.2.1, hg.output.trans h.2.2.1, Nat.le_trans h.sz hg.size, fun g hl hs => (hg.block g (Nat.lt_of_lt_of_le hl h.sz) (fun e => by
    rcases hr g e.symm with h1 | h1
    · exact hs h1
    · omega)).trans (h.2.2.2.2 g hl hs)⟩
theorem KB.set (h : KB S a w) {p : Addr} (hp : S p.block) (u : Value) : KB S a (w.setCell p u) :=
  ⟨h.1, h.2.1, h.2.2.1, by simpa using h.sz, fun g hl hs => (Below.heap_setCell w p u g (fun e => hs (by rw [e]; exact hp))).trans (h.2.2.2.2 g hl hs)⟩
theorem KB.drewN (h : KB S a w) (n : Nat) : KB S a (w.drewN n) := h
theorem KB.mono {S' : Nat → Prop} (h : KB S a w) (hs : ∀ g, S g → S' g) : KB S' a w := ⟨h.1, h.2.1, h.2.2.1, h.sz, fun g hg k => h.2.2.2.2 g hg (fun e => k (hs g e))⟩
theorem KB.toBelow {B : Nat} (h : KB S a w) (hs : ∀ g, S g → B ≤ g) (hB : B ≤ a.heap.size) : Below B a w := ⟨h.1, h.2.1, h.2.2.1, h.sz, fun g hg => h.2.2.2.2 g (Nat.lt_of_lt_of_le hg hB) (fun e => by have := hs g e; omega)⟩
theorem Blk.kb {g : Nat} {t : TypeId} {cs : Array Value} (h : Blk a g t cs) (k : KB S a w) (hs : ¬ S g) : Blk w g t cs := (k.2.2.2.2 g h.lt hs).trans h
end
/-- An object that is kept: its track, group, number, priority, bytes. -/
structure En where
  t : List Int
  g : Int
  n : Int
  p : Int
  d : List Int
abbrev En.lot (x : En) : Lot := (x.t, x.g)
structure En.Ok (x : En) : Prop where
  t : T32 x.t
  g : U64 x.g
  n : U64 x.n
  p : 0 ≤ x.p ∧ x.p ≤ 255
  d : BytesOk x.d
def ekv (x : En × Value) : Value × Value := (.agg (keyC x.1.t x.1.g x.1.n), .agg #[.int .u64 x.1.g, .int .u64 x.1.n, .int .u8 x.1.p, .bool false, x.2])
def zkv (z : Lot × Int) : Value × Value := (.agg (lotC z.1.1 z.1.2), .int .i64 z.2)
def tkv (z : List Int × Int × Int) : Value × Value := (.agg (trkC z.1), .agg #[.int .u64 z.2.1, .int .u64 z.2.2])
abbrev shC (room used : Int) (lb zb tb : Nat) (lv : Value) : Array Value := #[.int .i64 room, .int .i64 used, .map (some lb), lv, .map (some zb), .map (some tb)]
/-- The shelf's parts: the struct, the objects, the groups in their order, their sizes, the greatest places. -/
structure SX (w : World) (B sb lb zb tb : Nat) (lv : Value) (room used : Int) (E : List (En × Value)) (Z : List (Lot × Int)) (T : List (List Int × Int × Int)) : Prop where
  blk : Blk w sb 81 (shC room used lb zb tb lv)
  kl : KM Try.prog 71 w lb (E.map ekv)
  lr : LR w B lv (Z.map (·.1))
  kz : KM Try.prog 84 w zb (Z.map zkv)
  kt : KM Try.prog 82 w tb (T.map tkv)
  dat : ∀ x ∈ E, RdT w x.2 x.1.d
  ok : ∀ x ∈ E, x.1.Ok
  zok : ∀ z ∈ Z, LotOk z.1
  hs : B ≤ sb
  hl : B ≤ lb
  hz : B ≤ zb
  ht : B ≤ tb
  lz : lb ≠ zb
  lt : lb ≠ tb
  zt : zb ≠ tb
section
variable {w w' : World} {B sb lb zb tb : Nat} {lv : Value} {room used : Int} {E : List (En × Value)} {Z : List (Lot × Int)} {T : List (List Int × Int × Int)}
theorem SX.kept (h : SX w B sb lb zb tb lv room used E Z T) (hb : Below w.heap.size w w') : SX w' B sb lb zb tb lv room used E Z T :=
  { h with blk := h.blk.same hb, kl := h.kl.below hb, lr := own_same h.lr hb, kz := h.kz.below hb, kt := h.kt.below hb, dat := fun x hx => (h.dat x hx).below hb }
theorem SX.lots (h : SX w B sb lb zb tb lv room used E Z T) : (Z.map (·.1)).Nodup := by
  have h1 := h.kz.apart
  rw [List.map_map, List.Nodup, List.pairwise_map] at h1
  rw [List.Nodup, List.pairwise_map]
  exact h1.imp (fun {a b} hne e => hne (by show Value.agg (lotC a.1.1 a.1.2) = Value.agg (lotC b.1.1 b.1.2); rw [show a.1 = b.1 from e]))
theorem rdt_map {v : Value} {l : List Int} {b : Nat} {es : Array MapEntry} {clock : Nat} (h : RdT w v l) (hb : w.heap[b]? = some (.map es clock)) (hg : w.grownBy w' (some b)) : RdT w' v l := by
  refine h.kept hg (fun k hk e => ?_)
  simp only [Option.some.injEq] at e
  subst e
  rcases h.shape with ⟨cap, rfl, _⟩ | ⟨b', off, cap, cs, rfl, k1, _⟩
  · simp [Value.ownBlock] at hk
  · simp only [Value.ownBlock, Option.some.injEq] at hk
    subst hk
    unfold Blk at k1
    rw [hb] at k1
    cases k1
theorem KM.blk {P : Program} {k : TypeId} {b : Nat} {L : List (Value × Value)} (h : KM P k w b L) : ∃ es clock, w.heap[b]? = some (.map es clock) := by
  obtain ⟨es, clock, hb, _⟩ := h
  exact ⟨es, clock, hb⟩
/-- The map of objects turns. -/
theorem SX.setL {E' : List (En × Value)} (h : SX w B sb lb zb tb lv room used E Z T) (hg : w.grownBy w' (some lb)) (hk : KM Try.prog 71 w' lb (E'.map ekv)) (hd : ∀ x ∈ E', RdT w' x.2 x.1.d) (ho : ∀ x ∈ E', x.1.Ok) : SX w' B sb lb zb tb lv room used E' Z T :=
  { h with blk := h.blk.grown hg (by simpa using blk_km_ne h.blk h.kl), kl := hk, lr := own_grown h.lr hg (.inr (own_km_ne h.lr h.kl)), kz := h.kz.kept hg (by simpa using Ne.symm h.lz), kt := h.kt.kept hg (by simpa using Ne.symm h.lt), dat := hd, ok := ho }
theorem SX.setZ {Z' : List (Lot × Int)} (h : SX w B sb lb zb tb lv room used E Z T) (hg : w.grownBy w' (some zb)) (hk : KM Try.prog 84 w' zb (Z'.map zkv)) : Blk w' sb 81 (shC room used lb zb tb lv) ∧ KM Try.prog 71 w' lb (E.map ekv) ∧ LR w' B lv (Z.map (·.1)) ∧ KM Try.prog 82 w' tb (T.map tkv) ∧ (∀ x ∈ E, RdT w' x.2 x.1.d) := by
  obtain ⟨es, clock, hb⟩ := h.kz.blk
  exact ⟨h.blk.grown hg (by simpa using blk_km_ne h.blk h.kz), h.kl.kept hg (by simpa using h.lz), own_grown h.lr hg (.inr (own_km_ne h.lr h.kz)), h.kt.kept hg (by simpa using Ne.symm h.zt), fun x hx => rdt_map (h.dat x hx) hb hg⟩
end

end Go.Proofs.Ytiaabbflchdcbaa
