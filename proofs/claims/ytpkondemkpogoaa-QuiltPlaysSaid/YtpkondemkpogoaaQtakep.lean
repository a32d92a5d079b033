/-
  Take of a quilt. No condition.
-/
import Derived.Test.YtpkondemkpogoaaQget
namespace Go.Proofs.Ytpkondemkpogoaa
open Go.RowKit
set_option linter.unusedVariables false
set_option linter.unusedSimpArgs false


/-- Of the blocks that were there but two may have turned. -/
structure Onl (w w' : World) (g : Nat) (rb : Option Nat) : Prop where
  os : w'.os = w.os
  tape : w'.tape = w.tape
  output : w'.output = w.output
  size : w.heap.size ≤ w'.heap.size
  block : ∀ k, k < w.heap.size → k ≠ g → some k ≠ rb → w'.heap[k]? = w.heap[k]?
section
variable {w w' w'' : World} {g : Nat} {rb rc : Option Nat}
theorem Onl.refl (w : World) (g : Nat) (rb : Option Nat) : Onl w w g rb := ⟨rfl, rfl, rfl, Nat.le_refl _, fun _ _ _ _ => rfl⟩
theorem Onl.trans (h : Onl w w' g rb) (k : Onl w' w'' g rc) (hr : ∀ b, b < w.heap.size → some b = rc → some b = rb) : Onl w w'' g rb :=
  ⟨k.os.trans h.os, k.tape.trans h.tape, k.output.trans h.output, Nat.le_trans h.size k.size, fun i hi h1 h2 => (k.block i (Nat.lt_of_lt_of_le hi h.size) h1 (fun e => h2 (hr i hi e))).trans (h.block i hi h1 h2)⟩
theorem Onl.grown {r : Option Nat} (h : Onl w w' g rb) (k : w'.grownBy w'' r) (hr : ∀ b, r = some b → b = g ∨ some b = rb ∨ w.heap.size ≤ b) : Onl w w'' g rb :=
  ⟨k.os.trans h.os, k.tape.trans h.tape, k.output.trans h.output, Nat.le_trans h.size k.size, fun i hi h1 h2 => (k.block i (Nat.lt_of_lt_of_le hi h.size) (fun e => by rcases hr i e.symm with h3 | h3 | h3; exact h1 h3; exact h2 h3; omega)).trans (h.block i hi h1 h2)⟩
theorem Onl.below (h : Onl w w' g rb) (k : Below w'.heap.size w' w'') : Onl w w'' g rb := h.grown (grown_below k none) (fun b e => by simp at e)
theorem Onl.to_below {B : Nat} (h : Onl w w' g rb) (hB : B ≤ w.heap.size) (hg : B ≤ g) (hr : ∀ b, rb = some b → B ≤ b) : Below B w w' :=
  ⟨h.os, h.tape, h.output, by have := h.size; omega, fun k hk => h.block k (by omega) (by omega) (fun e => by have := hr k e.symm; omega)⟩
end
theorem PsOk.low {S : Nat → Prop} {w : World} {d : List PV} (h : PsOk S w d) : PsOk (fun b => S b ∧ b < w.heap.size) w d := fun x hx => by
  obtain ⟨h1, h2⟩ := h x hx
  exact ⟨h1, fun b hb => ⟨h2 b hb, h1.olt b hb⟩⟩

/-- What the loop of Take carries. -/
structure TK (S : Nat → Prop) (B : Nat) (w0 w : World) (g : Nat) (V : Value) (dc : List PV) (rd hi la : Int) (kn : Bool) (v : Value) (O : List Int) : Prop where
  lo : B ≤ g
  gl : g < w0.heap.size
  me : Blk w g 63 (qcells V rd hi la kn)
  own : OwnM w B 66 2 V dc.length (pvc dc)
  rb : ∀ b, V.ownBlock = some b → b < w0.heap.size
  ps : PsOk S w dc
  sl : ∀ b, S b → b < w0.heap.size
  out : w.ownsRow w0.heap.size 5 1 v O.length (O.map (Value.int .u8))
  on : Onl w0 w g V.ownBlock
section
variable {S : Nat → Prop} {B : Nat} {w0 w w' : World} {g : Nat} {V : Value} {dc : List PV} {rd hi la : Int} {kn : Bool} {v v' : Value} {O l : List Int}
theorem TK.app (h : TK S B w0 w g V dc rd hi la kn v O) (ho : w'.ownsRow w0.heap.size 5 1 v' (O.length + l.length) (O.map (Value.int .u8) ++ l.map (Value.int .u8))) (hg : w.grownBy w' v.ownBlock) : TK S B w0 w' g V dc rd hi la kn v' (O ++ l) := by
  have hv : ∀ b, v.ownBlock = some b → w0.heap.size ≤ b := fun b hb => (h.out.lt b hb).1
  refine ⟨h.lo, h.gl, h.me.grown hg (fun e => by have := hv g e.symm; have := h.gl; omega), h.own.kept hg ?_, h.rb, h.ps.kept hg (fun b hS e => by have := hv b e.symm; have := h.sl b hS; omega), h.sl, by simpa using ho, h.on.grown hg (fun b e => .inr (.inr (hv b e)))⟩
  rcases hV : V.ownBlock with _ | b
  · exact .inl rfl
  · exact .inr (fun e => by have := hv b e.symm; have := h.rb b hV; omega)
theorem TK.drew (h : TK S B w0 w g V dc rd hi la kn v O) : TK S B w0 w.drew g V dc rd hi la kn v O :=
  ⟨h.lo, h.gl, h.me, h.own, h.rb, h.ps.below (below_drewN (Below.refl _ w) 1), h.sl, h.out, h.on.below (below_drewN (Below.refl _ w) 1)⟩
theorem mid_blk {w : World} {base n b off cap : Nat} {e : TypeId} {size : Nat} {xs : List Value} (h : OwnM w base e size (.slice (some ⟨b, off, none⟩) n cap) n xs) : ∃ cur, Blk w b e cur := by
  rcases h.2 with ⟨h1, _⟩ | ⟨g, off', cap', cur, h1, hb, hg, _⟩
  · simp at h1
  · simp only [Value.slice.injEq, true_and, Option.some.injEq, Addr.mk.injEq, and_true] at h1
    obtain ⟨⟨rfl, rfl⟩, rfl⟩ := h1
    exact ⟨cur, hg⟩
/-- The first piece turns, both cells. -/
theorem TK.head {b off n cap : Nat} {x : PV} {dr : List PV} {y : PV} (h : TK S B w0 w g (.slice (some ⟨b, off, none⟩) n cap) (x :: dr) rd hi la kn v O) (hn : n = dr.length + 1) (hR : RdT w (pvv y) y.1.2) (hS : ∀ c, (pvv y).ownBlock = some c → S c) :
    TK S B w0 ((w.setCell ⟨b, off, none⟩ (.int .u64 y.1.1)).setCell ⟨b, off + 1, none⟩ (pvv y)) g (.slice (some ⟨b, off, none⟩) n cap) (y :: dr) rd hi la kn v O ∧
    TK S B w0 ((w.setCell ⟨b, off + 1, none⟩ (pvv y)).setCell ⟨b, off, none⟩ (.int .u64 y.1.1)) g (.slice (some ⟨b, off, none⟩) n cap) (y :: dr) rd hi la kn v O := by
  have ho := h.own
  rw [List.length_cons, ← hn] at ho
  obtain ⟨cur, hb⟩ := mid_blk ho
  have hbg : g ≠ b := h.me.ne_ hb (by decide)
  have hvb := own_blk_ne h.out hb (by decide)
  have hxs : pvc (x :: dr) = .int .u64 x.1.1 :: pvv x :: pvc dr := rfl
  have hys : pvc (y :: dr) = .int .u64 y.1.1 :: pvv y :: pvc dr := rfl
  have hnl : (y :: dr).length = n := by simp [hn]
  have hps : PsOk S w (y :: dr) := fun z hz => by
    rcases List.mem_cons.1 hz with rfl | hz
    · exact ⟨hR, hS⟩
    · exact h.ps z (by simp [hz])
  have fr : ∀ (W : World) (i : Nat) (u : Value) (cu : Array Value), Blk W b 66 cu → Blk W g 63 (qcells (.slice (some ⟨b, off, none⟩) n cap) rd hi la kn) → PsOk S W (y :: dr) → W.ownsRow w0.heap.size 5 1 v O.length (O.map (Value.int .u8)) → Onl w0 W g (some b) →
      Blk (W.setCell ⟨b, i, none⟩ u) b 66 (cu.setIfInBounds i u) ∧ Blk (W.setCell ⟨b, i, none⟩ u) g 63 (qcells (.slice (some ⟨b, off, none⟩) n cap) rd hi la kn) ∧ PsOk S (W.setCell ⟨b, i, none⟩ u) (y :: dr) ∧ (W.setCell ⟨b, i, none⟩ u).ownsRow w0.heap.size 5 1 v O.length (O.map (Value.int .u8)) ∧ Onl w0 (W.setCell ⟨b, i, none⟩ u) g (some b) :=
    fun W i u cu k1 k2 k3 k4 k5 => ⟨k1.set_ i u, k2.far hbg u, k3.set k1 (by decide) i u, own_far k4 hvb u, k5.grown (grown_set (grown_refl W _) i u) (fun c e => .inr (.inl e.symm))⟩
  constructor
  · obtain ⟨a1, a2, a3, a4, a5⟩ := fr w off (.int .u64 y.1.1) _ hb h.me hps h.out h.on
    obtain ⟨c1, c2, c3, c4, c5⟩ := fr _ (off + 1) (pvv y) _ a1 a2 a3 a4 a5
    refine ⟨h.lo, h.gl, c2, ?_, h.rb, c3, h.sl, c4, c5⟩
    rw [hnl, hys]
    have := (ho.put 0 (by omega) (.int .u64 y.1.1)).put 1 (by omega) (pvv y)
    rw [hxs] at this
    simpa using this
  · obtain ⟨a1, a2, a3, a4, a5⟩ := fr w (off + 1) (pvv y) _ hb h.me hps h.out h.on
    obtain ⟨c1, c2, c3, c4, c5⟩ := fr _ off (.int .u64 y.1.1) _ a1 a2 a3 a4 a5
    refine ⟨h.lo, h.gl, c2, ?_, h.rb, c3, h.sl, c4, c5⟩
    rw [hnl, hys]
    have := (ho.put 1 (by omega) (pvv y)).put 0 (by omega) (.int .u64 y.1.1)
    rw [hxs] at this
    simpa using this
/-- The first piece goes. -/
theorem TK.tail {b off n cap : Nat} {x : PV} {dr : List PV} (h : TK S B w0 w g (.slice (some ⟨b, off, none⟩) n cap) (x :: dr) rd hi la kn v O) (hn : n = dr.length + 1) :
    TK S B w0 (w.setCell ⟨g, 0, none⟩ (.slice (some ⟨b, off + 2, none⟩) (n - 1) (cap - 1))) g (.slice (some ⟨b, off + 2, none⟩) (n - 1) (cap - 1)) dr rd hi la kn v O ∧
    (cap = 1 → TK S B w0 (w.setCell ⟨g, 0, none⟩ (.slice (some ⟨b, off, none⟩) 0 0)) g (.slice (some ⟨b, off, none⟩) 0 0) dr rd hi la kn v O) := by
  have ho := h.own
  rw [List.length_cons, ← hn] at ho
  have hne := ho.blk_ne h.me (by decide)
  have hvg := own_blk_ne h.out h.me (by decide)
  have hps : PsOk S w dr := fun z hz => h.ps z (by simp [hz])
  constructor
  · have h1 := ho.suf (m := 1) (by omega)
    rw [Nat.one_mul, show (pvc (x :: dr)).drop 2 = pvc dr from rfl] at h1
    refine ⟨h.lo, h.gl, h.me.set_ 0 _, ?_, h.rb, hps.set h.me (by decide) 0 _, h.sl, own_far h.out hvg _, h.on.grown (grown_set (grown_refl w _) 0 _) (fun c e => .inl (by simpa using e.symm))⟩
    rw [show dr.length = n - 1 by omega]
    exact h1.far (p := ⟨g, 0, none⟩) hne _
  · intro hc
    have hform := ho.form
    obtain ⟨A, c, e, h1, _⟩ := hform
    simp only [Value.slice.injEq, true_and] at e
    obtain ⟨_, rfl⟩ := e
    have hn1 : n = 1 := by omega
    obtain rfl : dr = [] := List.eq_nil_of_length_eq_zero (by omega)
    have h2 := ho.emp
    exact ⟨h.lo, h.gl, h.me.set_ 0 _, h2.far (p := ⟨g, 0, none⟩) hne _, h.rb, hps.set h.me (by decide) 0 _, h.sl, own_far h.out hvg _, h.on.grown (grown_set (grown_refl w _) 0 _) (fun c e => .inl (by simpa using e.symm))⟩
end
def lenV (v : Value) : Nat := match v with | .slice _ n _ => n | _ => 0
theorem got_cons (k : Nat) (x : Pat) (T : List Pat) : got k (x :: T) = if k < x.2.length then x.2.take k else x.2 ++ got (k - x.2.length) T := rfl
theorem tak_cons (k : Nat) (x : Pat) (T : List Pat) : tak k (x :: T) = if k < x.2.length then (x.1 + k, x.2.drop k) :: T else tak (k - x.2.length) T := rfl
/-- What is plain in the loop of Take. -/
structure Tp (rd : Int) (L : List Pat) (k : Nat) (O : List Int) (M : List Pat) : Prop where
  le : O.length ≤ k
  o : O ++ got (k - O.length) M = got k L
  t : tak (k - O.length) M = tak k L
  r : k - O.length ≤ rdy (rd + O.length) M
  c : Ch (rd + O.length) M
  hi : ∀ x ∈ M, pe x ≤ QM
theorem Tp.start {rd : Int} {L : List Pat} (h : Qk rd L) {k : Nat} (hk : k ≤ rdy rd L) : Tp rd L k [] L := ⟨Nat.zero_le _, by simp, by simp, by simpa using hk, by simpa using h.ch, h.hi⟩
theorem Tp.some_ {rd : Int} {L : List Pat} {k : Nat} {O : List Int} {M : List Pat} (h : Tp rd L k O M) (hl : O.length < k) : ∃ x T, M = x :: T ∧ x.1 = rd + O.length ∧ x.2 ≠ [] ∧ pe x ≤ QM ∧ k - O.length ≤ x.2.length + rdy (pe x) T ∧ Ch (pe x) T := by
  have hr := h.r
  cases M with
  | nil => simp [rdy] at hr; omega
  | cons x T =>
    rw [rdy_cons] at hr
    obtain ⟨h1, h2, h3⟩ := h.c
    split at hr
    · next e => exact ⟨x, T, rfl, e, h2, h.hi x (by simp), hr, h3⟩
    · omega
theorem Tp.part {rd : Int} {L : List Pat} {k : Nat} {O : List Int} {x : Pat} {T : List Pat} (h : Tp rd L k O (x :: T)) (he : x.1 = rd + O.length) {j : Nat} (hj : j = k - O.length) (hlt : j < x.2.length) :
    Tp rd L k (O ++ x.2.take j) ((x.1 + j, x.2.drop j) :: T) := by
  have hl := h.le
  have e : (O ++ x.2.take j).length = k := by rw [List.length_append, List.length_take]; omega
  obtain ⟨h1, h2, h3⟩ := h.c
  have hp : pe (x.1 + (j : Int), x.2.drop j) = pe x := by unfold pe; simp only [List.length_drop]; omega
  have ho := h.o
  have ht := h.t
  rw [← hj, got_cons, if_pos hlt] at ho
  rw [← hj, tak_cons, if_pos hlt] at ht
  refine ⟨by omega, ?_, ?_, by omega, ⟨by simp only; omega, by simp; omega, by rw [hp]; exact h3⟩, fun z hz => ?_⟩
  · rw [e, Nat.sub_self, got_cons, if_pos (by simp; omega)]
    simpa using ho
  · rw [e, Nat.sub_self, tak_cons, if_pos (by simp; omega)]
    simpa using ht
  · rcases List.mem_cons.1 hz with rfl | hz
    · rw [hp]; exact h.hi x (by simp)
    · exact h.hi z (by simp [hz])
theorem Tp.whole {rd : Int} {L : List Pat} {k : Nat} {O : List Int} {x : Pat} {T : List Pat} (h : Tp rd L k O (x :: T)) (he : x.1 = rd + O.length) (hge : x.2.length ≤ k - O.length) :
    Tp rd L k (O ++ x.2) T := by
  have hl := h.le
  have e : (O ++ x.2).length = O.length + x.2.length := List.length_append
  obtain ⟨h1, h2, h3⟩ := h.c
  have hp : pe x = x.1 + x.2.length := rfl
  have hc : rd + (((O ++ x.2).length : Nat) : Int) = pe x := by rw [e]; omega
  have ho := h.o
  have ht := h.t
  have hr := h.r
  rw [got_cons, if_neg (by omega)] at ho
  rw [tak_cons, if_neg (by omega)] at ht
  rw [rdy_cons, if_pos he] at hr
  have e2 : k - (O ++ x.2).length = k - O.length - x.2.length := by omega
  refine ⟨by omega, ?_, ?_, ?_, by rw [hc]; exact h3, fun z hz => h.hi z (by simp [hz])⟩
  · rw [e2, List.append_assoc]; exact ho
  · rw [e2]; exact ht
  · rw [hc, e2]; omega
theorem Tp.done {rd : Int} {L : List Pat} {k : Nat} {O : List Int} {M : List Pat} (h : Tp rd L k O M) (he : ¬ O.length < k) : O = got k L ∧ M = tak k L ∧ O.length = k := by
  have hl := h.le
  have e : k - O.length = 0 := by omega
  have ho := h.o
  have ht := h.t
  rw [e, (tak_zero h.c).2, List.append_nil] at ho
  rw [e, (tak_zero h.c).1] at ht
  exact ⟨ho, ht, by omega⟩

end Go.Proofs.Ytpkondemkpogoaa
