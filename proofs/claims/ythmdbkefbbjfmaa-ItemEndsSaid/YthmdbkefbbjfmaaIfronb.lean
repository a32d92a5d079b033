/-
  What front of a reader does.
-/
import Derived.Test.YthmdbkefbbjfmaaIfront
namespace Go.Proofs.Ythmdbkefbbjfmaa
open Go.RowKit
set_option linter.unusedVariables false
set_option linter.unusedSimpArgs false


/-- Nothing but two blocks has turned; there may be new ones. -/
structure Keep2 (a b : Nat) (w w' : World) : Prop where
  os : w'.os = w.os
  tape : w'.tape = w.tape
  output : w'.output = w.output
  size : w.heap.size ≤ w'.heap.size
  block : ∀ i, i < w.heap.size → i ≠ a → i ≠ b → w'.heap[i]? = w.heap[i]?
theorem Keep2.refl (a b : Nat) (w : World) : Keep2 a b w w := ⟨rfl, rfl, rfl, Nat.le_refl _, fun _ _ _ _ => rfl⟩
theorem Keep2.grown {a b : Nat} {w w1 w2 : World} (h : Keep2 a b w w1) (k : w1.grownBy w2 (some b)) : Keep2 a b w w2 :=
  ⟨k.os.trans h.os, k.tape.trans h.tape, k.output.trans h.output, Nat.le_trans h.size k.size, fun i hi ha hb => (k.block i (Nat.lt_of_lt_of_le hi h.size) (fun e => hb (Option.some.inj e))).trans (h.block i hi ha hb)⟩
theorem Keep2.set_a {a b : Nat} {w w1 : World} (h : Keep2 a b w w1) (i : Nat) (u : Value) : Keep2 a b w (w1.setCell ⟨a, i, none⟩ u) :=
  ⟨h.os, h.tape, h.output, by simpa [World.setCell] using h.size, fun k hk ha hb => (Below.heap_setCell w1 _ u k ha).trans (h.block k hk ha hb)⟩
theorem Keep2.set_b {a b : Nat} {w w1 : World} (h : Keep2 a b w w1) (i : Nat) (u : Value) : Keep2 a b w (w1.setCell ⟨b, i, none⟩ u) :=
  ⟨h.os, h.tape, h.output, by simpa [World.setCell] using h.size, fun k hk ha hb => (Below.heap_setCell w1 _ u k hb).trans (h.block k hk ha hb)⟩
theorem CutAt.blk_ne {w : World} {g k : Nat} {l : List Int} {e : Int} {t : TypeId} {cs : Array Value} (h : CutAt w g l e) (hb : Blk w k t cs) (hne : t ≠ 74) : k ≠ g := by
  obtain ⟨V, h1, _⟩ := h
  exact Blk.ne_ hb h1 hne
/-- What front reads: the head that it writes, and the cut behind it. -/
def frontS (s : List Int × Int) : Option (Bool × Int × Int × Int) × (List Int × Int) :=
  if (numS s).2.2 ≠ 0 then (none, (numS s).2)
  else if (numS s).1 = 5 then (some (true, (numS (numS s).2).1, 0, 0), (numS (numS s).2).2)
  else if (numS s).1 = 16 then (some (false, (numS (numS s).2).1, (numS (numS (numS s).2).2).1, (oneS (numS (numS (numS s).2).2).2).1), (oneS (numS (numS (numS s).2).2).2).2)
  else (none, ((numS s).2.1, 4))

set_option maxHeartbeats 1000000 in
set_option maxRecDepth 100000 in
theorem front_bad (rg cg : Nat) (V : Value) (f : Bool) (id hg hp : Int) (bg sm : Bool) (lg lo : Int) (ov : Bool) (s : List Int × Int) (w : World) (hb : Blk w rg 81 #[V, .bool f, .int .u64 id, .int .u64 hg, .int .u8 hp, .bool bg, .bool sm, .int .u64 lg, .int .u64 lo, .bool ov]) (hc : CutAt w cg s.1 s.2) (hs : StOk s) (hcase : (numS s).2.2 ≠ 0) :
    Calls Try.prog 36 #[.pointer (some ⟨rg, 0, none⟩), .pointer (some ⟨cg, 0, none⟩)] w fun e w' => e = .returned (.bool false) ∧ Blk w' rg 81 #[V, .bool f, .int .u64 id, .int .u64 hg, .int .u8 hp, .bool bg, .bool sm, .int .u64 lg, .int .u64 lo, .bool ov] ∧ CutAt w' cg (numS s).2.1 (numS s).2.2 ∧ Keep2 rg cg w w' := by
  obtain ⟨n0, q0⟩ : ∃ n, n = numS s := ⟨_, rfl⟩
  have hk0 := (numS_ok hs).1
  have hn0 := (numS_ok hs).2
  have hne := hc.blk_ne hb (by decide)
  rw [← q0] at hk0 hn0
  rw [← q0] at hcase
  have Q0 := Lib.hid q0
  clear q0
  go_enter Try.func36, Try.ntmps36
  go_wp2_with fail
  refine (cnum_any cg s _ hc hs).mono ?_
  rintro e w1 ⟨rfl, hc1, hg1⟩
  rw [← Q0.out] at hc1 ⊢
  have hb1 := hb.grown hg1 (by simpa using hne)
  have hK1 := (Keep2.refl rg cg w).grown hg1
  clear hc hb hg1
  have h1 : (n0.2.2 != 0) = true := by simpa using hcase
  have h2 : (n0.2.2 == 0) = false := by simpa using hcase
  clear hcase
  obtain ⟨V1, hC1, hR1⟩ := hc1
  have c1 := show World.cell? _ ⟨cg, 1, none⟩ = some (.int .i64 _) from hC1.cell 1
  have f1 := hC1.frozen 1
  go_wp2_with fail
  go_ret
  exact ⟨rfl, hb1, by rw [← Q0.out]; exact ⟨_, hC1, hR1⟩, hK1⟩

set_option maxHeartbeats 1000000 in
set_option maxRecDepth 100000 in
theorem front_form (rg cg : Nat) (V : Value) (f : Bool) (id hg hp : Int) (bg sm : Bool) (lg lo : Int) (ov : Bool) (s : List Int × Int) (w : World) (hb : Blk w rg 81 #[V, .bool f, .int .u64 id, .int .u64 hg, .int .u8 hp, .bool bg, .bool sm, .int .u64 lg, .int .u64 lo, .bool ov]) (hc : CutAt w cg s.1 s.2) (hs : StOk s) (h0 : (numS s).2.2 = 0) (hcase : (numS s).1 ≠ 5 ∧ (numS s).1 ≠ 16) :
    Calls Try.prog 36 #[.pointer (some ⟨rg, 0, none⟩), .pointer (some ⟨cg, 0, none⟩)] w fun e w' => e = .returned (.bool false) ∧ Blk w' rg 81 #[V, .bool f, .int .u64 id, .int .u64 hg, .int .u8 hp, .bool bg, .bool sm, .int .u64 lg, .int .u64 lo, .bool ov] ∧ CutAt w' cg (numS s).2.1 4 ∧ Keep2 rg cg w w' := by
  obtain ⟨n0, q0⟩ : ∃ n, n = numS s := ⟨_, rfl⟩
  have hk0 := (numS_ok hs).1
  have hn0 := (numS_ok hs).2
  have hne := hc.blk_ne hb (by decide)
  rw [← q0] at hk0 hn0
  rw [← q0] at hcase h0
  have Q0 := Lib.hid q0
  clear q0
  go_enter Try.func36, Try.ntmps36
  go_wp2_with fail
  refine (cnum_any cg s _ hc hs).mono ?_
  rintro e w1 ⟨rfl, hc1, hg1⟩
  rw [← Q0.out] at hc1 ⊢
  have hb1 := hb.grown hg1 (by simpa using hne)
  have hK1 := (Keep2.refl rg cg w).grown hg1
  clear hc hb hg1
  have h1 : (n0.1 == 5) = false := by simpa using hcase.1
  have h2 : (n0.1 == 16) = false := by simpa using hcase.2
  clear hcase
  rw [h0] at hc1
  clear h0
  obtain ⟨V1, hC1, hR1⟩ := hc1
  have c1 := show World.cell? _ ⟨cg, 1, none⟩ = some (.int .i64 _) from hC1.cell 1
  have f1 := hC1.frozen 1
  go_wp2_with fail
  go_ret
  exact ⟨rfl, hb1.far hne _, by rw [← Q0.out]; exact ⟨_, hC1.set_ 1 _, rd_set hR1 hC1 (by have := hR1.form; obtain ⟨A, c, rfl⟩ := this; simp) 1 _⟩, hK1.set_b _ _⟩

end Go.Proofs.Ythmdbkefbbjfmaa
