/-
  ItemFalls: an object whose number, or place, isn't above the one ahead of it makes the stream wrong; what was ahead of it is told all the same. For every input; no condition.
-/
import Derived.Test.YthmdbkefbbjfmaaIfallp
import Derived.Deep.CutBlock
namespace Go.Proofs.Ythmdbkefbbjfmaa
open Go.RowKit
set_option linter.unusedVariables false
set_option linter.unusedSimpArgs false


theorem own_two {w w' : World} {b1 n1 : Nat} {e1 : TypeId} {s1 : Nat} {v u : Value} {x1 : List Value} (h : w.ownsRow b1 e1 s1 v n1 x1) (hg : w.grownBy w' u.ownBlock) (hd : ∀ b, u.ownBlock = some b → v.ownBlock ≠ some b) : w'.ownsRow b1 e1 s1 v n1 x1 :=
  h.kept hg (by
    rcases hv : v.ownBlock with _ | c
    · exact .inl rfl
    · exact .inr (fun e => hd c e.symm hv))
theorem obr_alloc {w : World} {A : Option Addr} {n : Nat} {L : List Obv} (h : Obr w A n L) (o : Obj) : Obr (w.alloc o) A n L :=
  ⟨h.1, fun k hk => by
    obtain ⟨b, off, e, hlt, h1, h2⟩ := h.2 k hk
    exact ⟨b, off, e, by simp; omega, fun j hj => (((Below.refl w.heap.size w).alloc (Nat.le_refl _) o).cell (p := ⟨b, _, none⟩) hlt).trans (h1 j hj), h2.below ((Below.refl _ _).alloc (Nat.le_refl _) _)⟩⟩
theorem obr_lit1 {w : World} {g : Nat} {G O P : Int} {V : Value} {l : List Int} (hb : Blk w g 29 #[.int .u64 G, .int .u64 O, .int .u8 P, .bool false, V]) (hr : Rd w .u8 V l) : Obr w (some ⟨g, 0, none⟩) 1 [((G, O, P), l, V)] :=
  ⟨rfl, fun k hk => by
    obtain rfl : k = 0 := by omega
    refine ⟨g, 0, rfl, hb.lt, fun j hj => ?_, hr⟩
    rw [show 0 + (0 * 5 + j) = j by omega, hb.cell j]
    match j, hj with
    | 0, _ => rfl
    | 1, _ => rfl
    | 2, _ => rfl
    | 3, _ => rfl
    | 4, _ => rfl⟩
theorem obr_lit2 {w : World} {g : Nat} {G O P G' O' P' : Int} {V V' : Value} {l l' : List Int} (hb : Blk w g 29 #[.int .u64 G, .int .u64 O, .int .u8 P, .bool false, V, .int .u64 G', .int .u64 O', .int .u8 P', .bool false, V']) (hr : Rd w .u8 V l) (hr' : Rd w .u8 V' l') : Obr w (some ⟨g, 0, none⟩) 2 [((G, O, P), l, V), ((G', O', P'), l', V')] :=
  ⟨rfl, fun k hk => by
    match k, hk with
    | 0, _ =>
      refine ⟨g, 0, rfl, hb.lt, fun j hj => ?_, hr⟩
      rw [show 0 + (0 * 5 + j) = j by omega, hb.cell j]
      match j, hj with
      | 0, _ => rfl
      | 1, _ => rfl
      | 2, _ => rfl
      | 3, _ => rfl
      | 4, _ => rfl
    | 1, _ =>
      refine ⟨g, 0, rfl, hb.lt, fun j hj => ?_, hr'⟩
      rw [show 0 + (1 * 5 + j) = 5 + j by omega, hb.cell (5 + j)]
      match j, hj with
      | 0, _ => rfl
      | 1, _ => rfl
      | 2, _ => rfl
      | 3, _ => rfl
      | 4, _ => rfl⟩
theorem newReader_any (w : World) : Calls Try.prog 23 #[] w fun e w' => ∃ g, e = .returned (.pointer (some ⟨g, 0, none⟩)) ∧ Blk w' g 81 (rdrV (.slice none 0 0) (false, 0, 0, 0) false false 0 0 false) ∧ w.heap.size ≤ g ∧ Below w.heap.size w w' := by
  go_enter Try.func23, Try.ntmps23
  go_wp2_with fail
  go_ret
  exact ⟨_, rfl, Blk.new _ _ _, Nat.le_refl _, (Below.refl _ _).alloc (Nat.le_refl _) _⟩
theorem begin_ok (f : Bool) (id g pr : Int) (hi : 0 ≤ id ∧ id ≤ 18446744073709551615) (hg : 0 ≤ g ∧ g ≤ 18446744073709551615) (hp : 0 ≤ pr ∧ pr ≤ 255) : BytesOk (beginR f id g pr).1 ∧ (beginR f id g pr).1.length ≤ 100 := by
  have nl : BytesOk [] ∧ ([] : List Int).length ≤ 100 := ⟨fun x hx => by simp at hx, by simp⟩
  unfold beginR
  split
  · split
    · rename_i h
      have h1 := joinN_ok [5, id] (fitB_yes h.1) (by intro x hx; simp at hx; omega)
      have h2 := joinN_len [5, id] (fitB_yes h.1)
      exact ⟨h1, by simp at h2 ⊢; omega⟩
    · exact nl
  · split
    · rename_i h
      have h1 := joinN_ok [16, id, g] (fitB_yes h) (by intro x hx; simp at hx; omega)
      have h2 := joinN_len [16, id, g] (fitB_yes h)
      refine ⟨fun x hx => ?_, by simp at h2 ⊢; omega⟩
      rcases List.mem_append.1 hx with hx | hx
      · exact h1 x hx
      · simp at hx; omega
    · exact nl
theorem next_ok (f : Bool) (hg hp G O pr : Int) (gr : Bool) (l : List Int) (ho : ObOk G O pr) (hk : BytesOk l) : BytesOk (nextR f hg hp G O pr gr l).1 ∧ (nextR f hg hp G O pr gr l).1.length ≤ 3000 := by
  have nl : BytesOk [] ∧ ([] : List Int).length ≤ 3000 := ⟨fun x hx => by simp at hx, by simp⟩
  have h1 := ho.g
  have h2 := ho.o
  have h3 := ho.p
  unfold nextR
  split
  · exact nl
  · rename_i hl
    have t1 := txtB_ok l (by omega) hk
    have t2 := txtB_len l (by omega)
    split
    · split
      · rename_i h
        have j1 := joinN_ok [G, O] (fitB_yes h.2) (by intro x hx; simp at hx; omega)
        have j2 := joinN_len [G, O] (fitB_yes h.2)
        refine ⟨fun x hx => ?_, by simp at j2 ⊢; omega⟩
        rcases List.mem_append.1 hx with hx | hx
        · rcases List.mem_append.1 hx with hx | hx
          · exact j1 x hx
          · simp at hx; omega
        · exact t1 x hx
      · exact nl
    · split
      · rename_i h
        have j1 := joinN_ok [O] (fitB_yes h.2.1) (by intro x hx; simp at hx; omega)
        have j2 := joinN_len [O] (fitB_yes h.2.1)
        refine ⟨fun x hx => ?_, by simp at j2 ⊢; omega⟩
        rcases List.mem_append.1 hx with hx | hx
        · exact j1 x hx
        · exact t1 x hx
      · exact nl
/-- What a walk of two objects carries. -/
structure TwoO (w W : World) (f : Bool) (id hg hp : Int) (Ga Oa pa : Int) (ga : Bool) (Va : Value) (la : List Int) (Gb Ob pb : Int) (gb : Bool) (Vb : Value) (lb : List Int) : Prop where
  h : Blk W w.heap.size 24 #[.bool f, .int .u64 id, .int .u64 hg, .int .u8 hp]
  a : Blk W (w.heap.size + 1) 29 #[.int .u64 Ga, .int .u64 Oa, .int .u8 pa, .bool ga, Va]
  b : Blk W (w.heap.size + 1 + 1) 29 #[.int .u64 Gb, .int .u64 Ob, .int .u8 pb, .bool gb, Vb]
  ra : RdT W Va la
  rb : RdT W Vb lb
  n : Below w.heap.size w W
theorem TwoO.below {w W W' : World} {f : Bool} {id hg hp Ga Oa pa : Int} {ga : Bool} {Va : Value} {la : List Int} {Gb Ob pb : Int} {gb : Bool} {Vb : Value} {lb : List Int} (h : TwoO w W f id hg hp Ga Oa pa ga Va la Gb Ob pb gb Vb lb) (hb : Below W.heap.size W W') : TwoO w W' f id hg hp Ga Oa pa ga Va la Gb Ob pb gb Vb lb :=
  ⟨h.h.same hb, h.a.same hb, h.b.same hb, h.ra.below hb, h.rb.below hb, h.n.trans (hb.mono h.n.size)⟩
theorem TwoO.drew {w W : World} {f : Bool} {id hg hp Ga Oa pa : Int} {ga : Bool} {Va : Value} {la : List Int} {Gb Ob pb : Int} {gb : Bool} {Vb : Value} {lb : List Int} (h : TwoO w W f id hg hp Ga Oa pa ga Va la Gb Ob pb gb Vb lb) : TwoO w W.drew f id hg hp Ga Oa pa ga Va la Gb Ob pb gb Vb lb :=
  ⟨h.h, h.a, h.b, h.ra, h.rb, below_drewN h.n 1⟩
/-- What a walk of two objects carries. -/
structure TwoR (w W : World) (f : Bool) (id hg hp : Int) (Ga Oa pa : Int) (ga : Bool) (Va : Value) (la : List Int) (Gb Ob pb : Int) (gb : Bool) (Vb : Value) (lb : List Int) : Prop where
  h : Blk W w.heap.size 24 #[.bool f, .int .u64 id, .int .u64 hg, .int .u8 hp]
  a : Blk W (w.heap.size + 1) 29 #[.int .u64 Ga, .int .u64 Oa, .int .u8 pa, .bool ga, Va]
  b : Blk W (w.heap.size + 1 + 1) 29 #[.int .u64 Gb, .int .u64 Ob, .int .u8 pb, .bool gb, Vb]
  ra : Rd W .u8 Va la
  rb : Rd W .u8 Vb lb
  n : Below w.heap.size w W
theorem TwoR.below {w W W' : World} {f : Bool} {id hg hp Ga Oa pa : Int} {ga : Bool} {Va : Value} {la : List Int} {Gb Ob pb : Int} {gb : Bool} {Vb : Value} {lb : List Int} (h : TwoR w W f id hg hp Ga Oa pa ga Va la Gb Ob pb gb Vb lb) (hb : Below W.heap.size W W') : TwoR w W' f id hg hp Ga Oa pa ga Va la Gb Ob pb gb Vb lb :=
  ⟨h.h.same hb, h.a.same hb, h.b.same hb, h.ra.below hb, h.rb.below hb, h.n.trans (hb.mono h.n.size)⟩
theorem TwoR.drew {w W : World} {f : Bool} {id hg hp Ga Oa pa : Int} {ga : Bool} {Va : Value} {la : List Int} {Gb Ob pb : Int} {gb : Bool} {Vb : Value} {lb : List Int} (h : TwoR w W f id hg hp Ga Oa pa ga Va la Gb Ob pb gb Vb lb) : TwoR w W.drew f id hg hp Ga Oa pa ga Va la Gb Ob pb gb Vb lb :=
  ⟨h.h, h.a, h.b, h.ra, h.rb, below_drewN h.n 1⟩

theorem two_set {w W : World} {f : Bool} {id hg hp Ga Oa pa : Int} {ga : Bool} {Va Va' Vb' : Value} {la la' lb' : List Int} {Gb Ob pb : Int} {gb : Bool} {Vb : Value} {lb : List Int} {B na nb : Nat} (h : TwoR w W f id hg hp Ga Oa pa ga Va la Gb Ob pb gb Vb lb)
    (oa : W.ownsRow B 5 1 Va' na (la'.map (Value.int .u8))) (ob : W.ownsRow B 5 1 Vb' nb (lb'.map (Value.int .u8))) (hB : w.heap.size + 1 + 1 < B) : ∀ wz, (wz = (World.setCell (World.setCell (World.setCell (World.setCell (World.setCell (World.setCell (World.setCell (World.setCell (World.setCell (World.setCell W ⟨w.heap.size + 1, 0, none⟩ (.int .u64 Ga)) ⟨w.heap.size + 1, 1, none⟩ (.int .u64 Oa)) ⟨w.heap.size + 1, 2, none⟩ (.int .u8 pa)) ⟨w.heap.size + 1, 3, none⟩ (.bool ga)) ⟨w.heap.size + 1, 4, none⟩ (Va')) ⟨w.heap.size + 1 + 1, 0, none⟩ (.int .u64 Gb)) ⟨w.heap.size + 1 + 1, 1, none⟩ (.int .u64 Ob)) ⟨w.heap.size + 1 + 1, 2, none⟩ (.int .u8 pb)) ⟨w.heap.size + 1 + 1, 3, none⟩ (.bool gb)) ⟨w.heap.size + 1 + 1, 4, none⟩ (Vb')) ∨ wz = ((World.setCell (World.setCell (World.setCell (World.setCell (World.setCell (World.setCell (World.setCell (World.setCell (World.setCell (World.setCell W ⟨w.heap.size + 1, 0, none⟩ (.int .u64 Ga)) ⟨w.heap.size + 1, 1, none⟩ (.int .u64 Oa)) ⟨w.heap.size + 1, 2, none⟩ (.int .u8 pa)) ⟨w.heap.size + 1, 3, none⟩ (.bool ga)) ⟨w.heap.size + 1, 4, none⟩ (Va')) ⟨w.heap.size + 1 + 1, 0, none⟩ (.int .u64 Gb)) ⟨w.heap.size + 1 + 1, 1, none⟩ (.int .u64 Ob)) ⟨w.heap.size + 1 + 1, 2, none⟩ (.int .u8 pb)) ⟨w.heap.size + 1 + 1, 3, none⟩ (.bool gb)) ⟨w.heap.size + 1 + 1, 4, none⟩ (Vb'))).drew ∨ wz = (World.setCell (World.setCell (World.setCell (World.setCell (World.setCell (World.setCell (World.setCell (World.setCell (World.setCell (World.setCell W ⟨w.heap.size + 1 + 1, 0, none⟩ (.int .u64 Gb)) ⟨w.heap.size + 1 + 1, 1, none⟩ (.int .u64 Ob)) ⟨w.heap.size + 1 + 1, 2, none⟩ (.int .u8 pb)) ⟨w.heap.size + 1 + 1, 3, none⟩ (.bool gb)) ⟨w.heap.size + 1 + 1, 4, none⟩ (Vb')) ⟨w.heap.size + 1, 0, none⟩ (.int .u64 Ga)) ⟨w.heap.size + 1, 1, none⟩ (.int .u64 Oa)) ⟨w.heap.size + 1, 2, none⟩ (.int .u8 pa)) ⟨w.heap.size + 1, 3, none⟩ (.bool ga)) ⟨w.heap.size + 1, 4, none⟩ (Va')) ∨ wz = ((World.setCell (World.setCell (World.setCell (World.setCell (World.setCell (World.setCell (World.setCell (World.setCell (World.setCell (World.setCell W ⟨w.heap.size + 1 + 1, 0, none⟩ (.int .u64 Gb)) ⟨w.heap.size + 1 + 1, 1, none⟩ (.int .u64 Ob)) ⟨w.heap.size + 1 + 1, 2, none⟩ (.int .u8 pb)) ⟨w.heap.size + 1 + 1, 3, none⟩ (.bool gb)) ⟨w.heap.size + 1 + 1, 4, none⟩ (Vb')) ⟨w.heap.size + 1, 0, none⟩ (.int .u64 Ga)) ⟨w.heap.size + 1, 1, none⟩ (.int .u64 Oa)) ⟨w.heap.size + 1, 2, none⟩ (.int .u8 pa)) ⟨w.heap.size + 1, 3, none⟩ (.bool ga)) ⟨w.heap.size + 1, 4, none⟩ (Va'))).drew) → TwoO w wz f id hg hp Ga Oa pa ga Va' la' Gb Ob pb gb Vb' lb' := by
  have qa : ∀ i, i ≤ w.heap.size + 1 + 1 → Va'.ownBlock ≠ some i := fun i hi e => by have := (oa.lt i e).1; omega
  have qb : ∀ i, i ≤ w.heap.size + 1 + 1 → Vb'.ownBlock ≠ some i := fun i hi e => by have := (ob.lt i e).1; omega
  have k1 : TwoO w ((World.setCell (World.setCell (World.setCell (World.setCell (World.setCell (World.setCell (World.setCell (World.setCell (World.setCell (World.setCell W ⟨w.heap.size + 1, 0, none⟩ (.int .u64 Ga)) ⟨w.heap.size + 1, 1, none⟩ (.int .u64 Oa)) ⟨w.heap.size + 1, 2, none⟩ (.int .u8 pa)) ⟨w.heap.size + 1, 3, none⟩ (.bool ga)) ⟨w.heap.size + 1, 4, none⟩ (Va')) ⟨w.heap.size + 1 + 1, 0, none⟩ (.int .u64 Gb)) ⟨w.heap.size + 1 + 1, 1, none⟩ (.int .u64 Ob)) ⟨w.heap.size + 1 + 1, 2, none⟩ (.int .u8 pb)) ⟨w.heap.size + 1 + 1, 3, none⟩ (.bool gb)) ⟨w.heap.size + 1 + 1, 4, none⟩ (Vb'))) f id hg hp Ga Oa pa ga Va' la' Gb Ob pb gb Vb' lb' :=
    ⟨((((((((((h.h.far (by simp <;> omega) _).far (by simp <;> omega) _).far (by simp <;> omega) _).far (by simp <;> omega) _).far (by simp <;> omega) _).far (by simp <;> omega) _).far (by simp <;> omega) _).far (by simp <;> omega) _).far (by simp <;> omega) _).far (by simp <;> omega) _), ((((((((((h.a.set_ 0 _).set_ 1 _).set_ 2 _).set_ 3 _).set_ 4 _).far (by simp <;> omega) _).far (by simp <;> omega) _).far (by simp <;> omega) _).far (by simp <;> omega) _).far (by simp <;> omega) _), ((((((((((h.b.far (by simp <;> omega) _).far (by simp <;> omega) _).far (by simp <;> omega) _).far (by simp <;> omega) _).far (by simp <;> omega) _).set_ 0 _).set_ 1 _).set_ 2 _).set_ 3 _).set_ 4 _), rdt_of_own (own_far (own_far (own_far (own_far (own_far (own_far (own_far (own_far (own_far (own_far oa (qa _ (by simp <;> omega)) _) (qa _ (by simp <;> omega)) _) (qa _ (by simp <;> omega)) _) (qa _ (by simp <;> omega)) _) (qa _ (by simp <;> omega)) _) (qa _ (by simp <;> omega)) _) (qa _ (by simp <;> omega)) _) (qa _ (by simp <;> omega)) _) (qa _ (by simp <;> omega)) _) (qa _ (by simp <;> omega)) _), rdt_of_own (own_far (own_far (own_far (own_far (own_far (own_far (own_far (own_far (own_far (own_far ob (qb _ (by simp <;> omega)) _) (qb _ (by simp <;> omega)) _) (qb _ (by simp <;> omega)) _) (qb _ (by simp <;> omega)) _) (qb _ (by simp <;> omega)) _) (qb _ (by simp <;> omega)) _) (qb _ (by simp <;> omega)) _) (qb _ (by simp <;> omega)) _) (qb _ (by simp <;> omega)) _) (qb _ (by simp <;> omega)) _), ((((((((((h.n.setCell (by simp <;> omega) _).setCell (by simp <;> omega) _).setCell (by simp <;> omega) _).setCell (by simp <;> omega) _).setCell (by simp <;> omega) _).setCell (by simp <;> omega) _).setCell (by simp <;> omega) _).setCell (by simp <;> omega) _).setCell (by simp <;> omega) _).setCell (by simp <;> omega) _)⟩
  have k2 : TwoO w ((World.setCell (World.setCell (World.setCell (World.setCell (World.setCell (World.setCell (World.setCell (World.setCell (World.setCell (World.setCell W ⟨w.heap.size + 1 + 1, 0, none⟩ (.int .u64 Gb)) ⟨w.heap.size + 1 + 1, 1, none⟩ (.int .u64 Ob)) ⟨w.heap.size + 1 + 1, 2, none⟩ (.int .u8 pb)) ⟨w.heap.size + 1 + 1, 3, none⟩ (.bool gb)) ⟨w.heap.size + 1 + 1, 4, none⟩ (Vb')) ⟨w.heap.size + 1, 0, none⟩ (.int .u64 Ga)) ⟨w.heap.size + 1, 1, none⟩ (.int .u64 Oa)) ⟨w.heap.size + 1, 2, none⟩ (.int .u8 pa)) ⟨w.heap.size + 1, 3, none⟩ (.bool ga)) ⟨w.heap.size + 1, 4, none⟩ (Va'))) f id hg hp Ga Oa pa ga Va' la' Gb Ob pb gb Vb' lb' :=
    ⟨((((((((((h.h.far (by simp <;> omega) _).far (by simp <;> omega) _).far (by simp <;> omega) _).far (by simp <;> omega) _).far (by simp <;> omega) _).far (by simp <;> omega) _).far (by simp <;> omega) _).far (by simp <;> omega) _).far (by simp <;> omega) _).far (by simp <;> omega) _), ((((((((((h.a.far (by simp <;> omega) _).far (by simp <;> omega) _).far (by simp <;> omega) _).far (by simp <;> omega) _).far (by simp <;> omega) _).set_ 0 _).set_ 1 _).set_ 2 _).set_ 3 _).set_ 4 _), ((((((((((h.b.set_ 0 _).set_ 1 _).set_ 2 _).set_ 3 _).set_ 4 _).far (by simp <;> omega) _).far (by simp <;> omega) _).far (by simp <;> omega) _).far (by simp <;> omega) _).far (by simp <;> omega) _), rdt_of_own (own_far (own_far (own_far (own_far (own_far (own_far (own_far (own_far (own_far (own_far oa (qa _ (by simp <;> omega)) _) (qa _ (by simp <;> omega)) _) (qa _ (by simp <;> omega)) _) (qa _ (by simp <;> omega)) _) (qa _ (by simp <;> omega)) _) (qa _ (by simp <;> omega)) _) (qa _ (by simp <;> omega)) _) (qa _ (by simp <;> omega)) _) (qa _ (by simp <;> omega)) _) (qa _ (by simp <;> omega)) _), rdt_of_own (own_far (own_far (own_far (own_far (own_far (own_far (own_far (own_far (own_far (own_far ob (qb _ (by simp <;> omega)) _) (qb _ (by simp <;> omega)) _) (qb _ (by simp <;> omega)) _) (qb _ (by simp <;> omega)) _) (qb _ (by simp <;> omega)) _) (qb _ (by simp <;> omega)) _) (qb _ (by simp <;> omega)) _) (qb _ (by simp <;> omega)) _) (qb _ (by simp <;> omega)) _) (qb _ (by simp <;> omega)) _), ((((((((((h.n.setCell (by simp <;> omega) _).setCell (by simp <;> omega) _).setCell (by simp <;> omega) _).setCell (by simp <;> omega) _).setCell (by simp <;> omega) _).setCell (by simp <;> omega) _).setCell (by simp <;> omega) _).setCell (by simp <;> omega) _).setCell (by simp <;> omega) _).setCell (by simp <;> omega) _)⟩
  intro wz hz
  rcases hz with rfl | rfl | rfl | rfl
  · exact k1
  · exact k1.drew
  · exact k2
  · exact k2.drew

theorem TwoR.cells {w W : World} {f : Bool} {id hg hp Ga Oa pa : Int} {ga : Bool} {Va : Value} {la : List Int} {Gb Ob pb : Int} {gb : Bool} {Vb : Value} {lb : List Int} (h : TwoR w W f id hg hp Ga Oa pa ga Va la Gb Ob pb gb Vb lb) : W.cell? ⟨w.heap.size + 1, 0, none⟩ = some (.int .u64 Ga) ∧ W.cell? ⟨w.heap.size + 1, 1, none⟩ = some (.int .u64 Oa) ∧ W.cell? ⟨w.heap.size + 1, 2, none⟩ = some (.int .u8 pa) ∧ W.cell? ⟨w.heap.size + 1, 3, none⟩ = some (.bool ga) ∧ W.cell? ⟨w.heap.size + 1, 4, none⟩ = some (Va) ∧ W.cell? ⟨w.heap.size + 1 + 1, 0, none⟩ = some (.int .u64 Gb) ∧ W.cell? ⟨w.heap.size + 1 + 1, 1, none⟩ = some (.int .u64 Ob) ∧ W.cell? ⟨w.heap.size + 1 + 1, 2, none⟩ = some (.int .u8 pb) ∧ W.cell? ⟨w.heap.size + 1 + 1, 3, none⟩ = some (.bool gb) ∧ W.cell? ⟨w.heap.size + 1 + 1, 4, none⟩ = some (Vb) :=
  ⟨h.a.cell 0, h.a.cell 1, h.a.cell 2, h.a.cell 3, h.a.cell 4, h.b.cell 0, h.b.cell 1, h.b.cell 2, h.b.cell 3, h.b.cell 4⟩

theorem TwoO.setA0 {w W : World} {f : Bool} {id hg hp Ga Oa pa : Int} {ga : Bool} {A1 A2 : Option Addr} {n1 n2 c1 c2 : Nat} {la : List Int} {Gb Ob pb : Int} {gb : Bool} {lb : List Int} (h : TwoO w W f id hg hp Ga Oa pa ga (.slice A1 n1 c1) la Gb Ob pb gb (.slice A2 n2 c2) lb) (x : Int) : TwoO w (W.setCell ⟨w.heap.size + 1, 0, none⟩ (.int .u64 x)) f id hg hp x Oa pa ga (.slice A1 n1 c1) la Gb Ob pb gb (.slice A2 n2 c2) lb :=
  ⟨h.h.far (by simp <;> omega) _, h.a.set_ 0 _, h.b.far (by simp <;> omega) _, rdt_set h.ra h.a (by decide) 0 _, rdt_set h.rb h.a (by decide) 0 _, h.n.setCell (by simp <;> omega) _⟩

theorem TwoO.setA2 {w W : World} {f : Bool} {id hg hp Ga Oa pa : Int} {ga : Bool} {A1 A2 : Option Addr} {n1 n2 c1 c2 : Nat} {la : List Int} {Gb Ob pb : Int} {gb : Bool} {lb : List Int} (h : TwoO w W f id hg hp Ga Oa pa ga (.slice A1 n1 c1) la Gb Ob pb gb (.slice A2 n2 c2) lb) (x : Int) : TwoO w (W.setCell ⟨w.heap.size + 1, 2, none⟩ (.int .u8 x)) f id hg hp Ga Oa x ga (.slice A1 n1 c1) la Gb Ob pb gb (.slice A2 n2 c2) lb :=
  ⟨h.h.far (by simp <;> omega) _, h.a.set_ 2 _, h.b.far (by simp <;> omega) _, rdt_set h.ra h.a (by decide) 2 _, rdt_set h.rb h.a (by decide) 2 _, h.n.setCell (by simp <;> omega) _⟩

theorem TwoO.setA3 {w W : World} {f : Bool} {id hg hp Ga Oa pa : Int} {ga : Bool} {A1 A2 : Option Addr} {n1 n2 c1 c2 : Nat} {la : List Int} {Gb Ob pb : Int} {gb : Bool} {lb : List Int} (h : TwoO w W f id hg hp Ga Oa pa ga (.slice A1 n1 c1) la Gb Ob pb gb (.slice A2 n2 c2) lb) (x : Bool) : TwoO w (W.setCell ⟨w.heap.size + 1, 3, none⟩ (.bool x)) f id hg hp Ga Oa pa x (.slice A1 n1 c1) la Gb Ob pb gb (.slice A2 n2 c2) lb :=
  ⟨h.h.far (by simp <;> omega) _, h.a.set_ 3 _, h.b.far (by simp <;> omega) _, rdt_set h.ra h.a (by decide) 3 _, rdt_set h.rb h.a (by decide) 3 _, h.n.setCell (by simp <;> omega) _⟩

theorem TwoO.setB0 {w W : World} {f : Bool} {id hg hp Ga Oa pa : Int} {ga : Bool} {A1 A2 : Option Addr} {n1 n2 c1 c2 : Nat} {la : List Int} {Gb Ob pb : Int} {gb : Bool} {lb : List Int} (h : TwoO w W f id hg hp Ga Oa pa ga (.slice A1 n1 c1) la Gb Ob pb gb (.slice A2 n2 c2) lb) (x : Int) : TwoO w (W.setCell ⟨w.heap.size + 1 + 1, 0, none⟩ (.int .u64 x)) f id hg hp Ga Oa pa ga (.slice A1 n1 c1) la x Ob pb gb (.slice A2 n2 c2) lb :=
  ⟨h.h.far (by simp <;> omega) _, h.a.far (by simp <;> omega) _, h.b.set_ 0 _, rdt_set h.ra h.b (by decide) 0 _, rdt_set h.rb h.b (by decide) 0 _, h.n.setCell (by simp <;> omega) _⟩

theorem TwoO.setB2 {w W : World} {f : Bool} {id hg hp Ga Oa pa : Int} {ga : Bool} {A1 A2 : Option Addr} {n1 n2 c1 c2 : Nat} {la : List Int} {Gb Ob pb : Int} {gb : Bool} {lb : List Int} (h : TwoO w W f id hg hp Ga Oa pa ga (.slice A1 n1 c1) la Gb Ob pb gb (.slice A2 n2 c2) lb) (x : Int) : TwoO w (W.setCell ⟨w.heap.size + 1 + 1, 2, none⟩ (.int .u8 x)) f id hg hp Ga Oa pa ga (.slice A1 n1 c1) la Gb Ob x gb (.slice A2 n2 c2) lb :=
  ⟨h.h.far (by simp <;> omega) _, h.a.far (by simp <;> omega) _, h.b.set_ 2 _, rdt_set h.ra h.b (by decide) 2 _, rdt_set h.rb h.b (by decide) 2 _, h.n.setCell (by simp <;> omega) _⟩

theorem TwoO.setB3 {w W : World} {f : Bool} {id hg hp Ga Oa pa : Int} {ga : Bool} {A1 A2 : Option Addr} {n1 n2 c1 c2 : Nat} {la : List Int} {Gb Ob pb : Int} {gb : Bool} {lb : List Int} (h : TwoO w W f id hg hp Ga Oa pa ga (.slice A1 n1 c1) la Gb Ob pb gb (.slice A2 n2 c2) lb) (x : Bool) : TwoO w (W.setCell ⟨w.heap.size + 1 + 1, 3, none⟩ (.bool x)) f id hg hp Ga Oa pa ga (.slice A1 n1 c1) la Gb Ob pb x (.slice A2 n2 c2) lb :=
  ⟨h.h.far (by simp <;> omega) _, h.a.far (by simp <;> omega) _, h.b.set_ 3 _, rdt_set h.ra h.b (by decide) 3 _, rdt_set h.rb h.b (by decide) 3 _, h.n.setCell (by simp <;> omega) _⟩

set_option maxHeartbeats 8000000 in
set_option maxRecDepth 100000 in
theorem falls_walk (f : Bool) (id hg hp Ga Oa pa : Int) (ga : Bool) (Va : Value) (la : List Int) (Gb Ob pb : Int) (gb : Bool) (Vb : Value) (lb : List Int) (w : World) (hva : Rd w .u8 Va la) (hvb : Rd w .u8 Vb lb) (hka : BytesOk la) (hkb : BytesOk lb) (hid : 0 ≤ id ∧ id ≤ 18446744073709551615) (hhg : 0 ≤ hg ∧ hg ≤ 18446744073709551615) (hhp : 0 ≤ hp ∧ hp ≤ 255) (hoa : ObOk Ga Oa pa) (hob : ObOk Gb Ob pb) :
    Calls Try.prog 5 #[.agg #[.bool f, .int .u64 id, .int .u64 hg, .int .u8 hp], .agg #[.int .u64 Ga, .int .u64 Oa, .int .u8 pa, .bool ga, Va], .agg #[.int .u64 Gb, .int .u64 Ob, .int .u8 pb, .bool gb, Vb]] w fun e w' => e = .returned (.bool true) ∧ Below w.heap.size w w' := by
  have hA3 := (((Below.refl w.heap.size w).alloc (Nat.le_refl _) (.cells #[.bool f, .int .u64 id, .int .u64 hg, .int .u8 hp] 24)).alloc (by simp) (.cells #[.int .u64 Ga, .int .u64 Oa, .int .u8 pa, .bool ga, Va] 29)).alloc (by simp; omega) (.cells #[.int .u64 Gb, .int .u64 Ob, .int .u8 pb, .bool gb, Vb] 29)
  have hT : TwoR w (((w.alloc (.cells #[.bool f, .int .u64 id, .int .u64 hg, .int .u8 hp] 24)).alloc (.cells #[.int .u64 Ga, .int .u64 Oa, .int .u8 pa, .bool ga, Va] 29)).alloc (.cells #[.int .u64 Gb, .int .u64 Ob, .int .u8 pb, .bool gb, Vb] 29)) f id hg hp Ga Oa pa ga Va la Gb Ob pb gb Vb lb :=
    ⟨((Blk.new w _ _).alloc _).alloc _, (blk_new_at (by simp)).alloc _, blk_new_at (by simp), hva.below hA3, hvb.below hA3, hA3⟩
  obtain ⟨Aa, ca, rfl⟩ := hva.form
  obtain ⟨Ab, cb, rfl⟩ := hvb.form
  clear hva hvb hA3
  go_enter Try.func5, Try.ntmps5
  go_wp2_with fail
  refine (awake_any _).mono ?_
  rintro e w1 ⟨rfl, hb⟩
  have hS0 := hT.below hb
  clear hT hb
  have hbka : BytesOk (la.take 2100) := hka.take _
  have hbkb : BytesOk (lb.take 2100) := hkb.take _
  have hlla : (la.take 2100).length ≤ 2100 := by simp; omega
  have hllb : (lb.take 2100).length ≤ 2100 := by simp; omega
  have FA := fun W h => few_any Ga Oa pa ga (.slice Aa la.length ca) la W h
  have FB := fun W h => few_any Gb Ob pb gb (.slice Ab lb.length cb) lb W h
  obtain ⟨La, hLa⟩ : ∃ L, L = la.take 2100 := ⟨_, rfl⟩
  obtain ⟨Lb, hLb⟩ : ∃ L, L = lb.take 2100 := ⟨_, rfl⟩
  rw [← hLa] at FA hbka hlla
  rw [← hLb] at FB hbkb hllb
  clear hLa hLb hka hkb
  go_upto_region 3 with (fail)
  go_cut [19, 21] (fun s19 s21 wx => ∃ Va' Vb', TwoO w wx f id hg hp Ga Oa pa ga Va' La Gb Ob pb gb Vb' Lb)
  case first =>
    have hl1 := hS0.a.lt
    have hl2 := hS0.b.lt
    obtain ⟨i0, i1, i2, i3, i4, i5, i6, i7, i8, i9⟩ := hS0.cells
    have x0 := hS0.a.frozen 0
    have x1 := hS0.a.frozen 1
    have x2 := hS0.a.frozen 2
    have x3 := hS0.a.frozen 3
    have x4 := hS0.a.frozen 4
    have y0 := hS0.b.frozen 0
    have y1 := hS0.b.frozen 1
    have y2 := hS0.b.frozen 2
    have y3 := hS0.b.frozen 3
    have y4 := hS0.b.frozen 4
    go_region_with
      (first
        | (go_at_call 10; (first | (with_reducible refine (FA _ hS0.ra).mono ?_) | (with_reducible refine (FA _ hS0.drew.ra).mono ?_) | (with_reducible refine (FA _ hS2.ra).mono ?_) | (with_reducible refine (FA _ hS2.drew.ra).mono ?_)); rintro e wA ⟨Va', rfl, hoa', hba⟩; obtain ⟨Aa2, ca2, rfl⟩ := (rd_of_own (k := .u8) hoa').form; have hS1 := TwoR.below (by first | with_reducible exact hS2 | with_reducible exact hS2.drew | with_reducible exact hS0 | with_reducible exact hS0.drew) hba; obtain ⟨aq0, aq1, aq2, aq3, aq4, aq5, aq6, aq7, aq8, aq9⟩ := hS1.cells; have au0 := hS1.a.frozen 0; have au1 := hS1.a.frozen 1; have au2 := hS1.a.frozen 2; have au3 := hS1.a.frozen 3; have au4 := hS1.a.frozen 4; have av0 := hS1.b.frozen 0; have av1 := hS1.b.frozen 1; have av2 := hS1.b.frozen 2; have av3 := hS1.b.frozen 3; have av4 := hS1.b.frozen 4; have al1 := hS1.a.lt; have al2 := hS1.b.lt)
        | (go_at_call 10; (first | (with_reducible refine (FB _ hS0.rb).mono ?_) | (with_reducible refine (FB _ hS0.drew.rb).mono ?_) | (with_reducible refine (FB _ hS1.rb).mono ?_) | (with_reducible refine (FB _ hS1.drew.rb).mono ?_)); rintro e wB ⟨Vb', rfl, hob', hbb⟩; obtain ⟨Ab2, cb2, rfl⟩ := (rd_of_own (k := .u8) hob').form; have hS2 := TwoR.below (by first | with_reducible exact hS1 | with_reducible exact hS1.drew | with_reducible exact hS0 | with_reducible exact hS0.drew) hbb; obtain ⟨bq0, bq1, bq2, bq3, bq4, bq5, bq6, bq7, bq8, bq9⟩ := hS2.cells; have bu0 := hS2.a.frozen 0; have bu1 := hS2.a.frozen 1; have bu2 := hS2.a.frozen 2; have bu3 := hS2.a.frozen 3; have bu4 := hS2.a.frozen 4; have bv0 := hS2.b.frozen 0; have bv1 := hS2.b.frozen 1; have bv2 := hS2.b.frozen 2; have bv3 := hS2.b.frozen 3; have bv4 := hS2.b.frozen 4; have bl1 := hS2.a.lt; have bl2 := hS2.b.lt))
    all_goals
      have hBw : w.heap.size + 1 + 1 < w1.heap.size := hl2
      go_wp2_with fail
      go_meet
      first | (have q1 := own_same hoa' hbb; exact ⟨_, _, two_set hS2 (own_base q1 (by have h1 := hba.size; have h2 := hbb.size; simp at h1 h2 ⊢ <;> omega)) (own_base hob' (by have h1 := hba.size; have h2 := hbb.size; simp at h1 h2 ⊢ <;> omega)) hBw _ (by first | exact Or.inl (by with_reducible rfl) | exact Or.inr (Or.inl (by with_reducible rfl)) | exact Or.inr (Or.inr (Or.inl (by with_reducible rfl))) | exact Or.inr (Or.inr (Or.inr (by with_reducible rfl))))⟩) | (have q2 := own_same hob' hba; exact ⟨_, _, two_set hS1 (own_base hoa' (by have h1 := hba.size; have h2 := hbb.size; simp at h1 h2 ⊢ <;> omega)) (own_base q2 (by have h1 := hba.size; have h2 := hbb.size; simp at h1 h2 ⊢ <;> omega)) hBw _ (by first | exact Or.inl (by with_reducible rfl) | exact Or.inr (Or.inl (by with_reducible rfl)) | exact Or.inr (Or.inr (Or.inl (by with_reducible rfl))) | exact Or.inr (Or.inr (Or.inr (by with_reducible rfl))))⟩)
  case rest =>
    obtain ⟨Va', Vb', hT⟩ := hcut
    obtain ⟨A1, k1, rfl⟩ := hT.ra.form
    obtain ⟨A2, k2, rfl⟩ := hT.rb.form
    clear hS0 FA FB
    have a3 : World.cell? wc ⟨w.heap.size + 1, 3, none⟩ = some (.bool ga) := hT.a.cell 3
    have b3 : World.cell? wc ⟨w.heap.size + 1 + 1, 3, none⟩ = some (.bool gb) := hT.b.cell 3
    have x3 := hT.a.frozen 3
    have y3 := hT.b.frozen 3
    have h0 : World.cell? wc ⟨w.heap.size, 0, none⟩ = some (.bool f) := hT.h.cell 0
    have hT2 := (hT.setA3 false).setB3 false
    go_upto_if 26 with (fail)
    go_cut [28] (fun s28 wx => ∃ Ga' pa' Gb' pb', ObOk Ga' Oa pa' ∧ ObOk Gb' Ob pb' ∧ TwoO w wx f id hg hp Ga' Oa pa' false (.slice A1 La.length k1) La Gb' Ob pb' false (.slice A2 Lb.length k2) Lb)
    case first =>
      cases f
      · have a0 : World.cell? _ ⟨w.heap.size + 1, 0, none⟩ = some (.int .u64 Ga) := hT2.a.cell 0
        have a2 : World.cell? _ ⟨w.heap.size + 1, 2, none⟩ = some (.int .u8 pa) := hT2.a.cell 2
        have b0 : World.cell? _ ⟨w.heap.size + 1 + 1, 0, none⟩ = some (.int .u64 Gb) := hT2.b.cell 0
        have b2 : World.cell? _ ⟨w.heap.size + 1 + 1, 2, none⟩ = some (.int .u8 pb) := hT2.b.cell 2
        have h2 : World.cell? _ ⟨w.heap.size, 2, none⟩ = some (.int .u64 hg) := hT2.h.cell 2
        have h3 : World.cell? _ ⟨w.heap.size, 3, none⟩ = some (.int .u8 hp) := hT2.h.cell 3
        have u0 := hT2.a.frozen 0
        have u2 := hT2.a.frozen 2
        have v0 := hT2.b.frozen 0
        have v2 := hT2.b.frozen 2
        clear a3 b3 x3 y3 h0
        go_wp2_with fail
        refine wp_world (fun wz => TwoO w wz false id hg hp Ga Oa pa false (.slice A1 La.length k1) La Gb Ob pb false (.slice A2 Lb.length k2) Lb) hT2 ?_
        clear a0 a2 b0 b2 h2 h3 u0 u2 v0 v2 hT2 hT
        rintro wz hT2
        have a0 : World.cell? wz ⟨w.heap.size + 1, 0, none⟩ = some (.int .u64 Ga) := hT2.a.cell 0
        have a2 : World.cell? wz ⟨w.heap.size + 1, 2, none⟩ = some (.int .u8 pa) := hT2.a.cell 2
        have b0 : World.cell? wz ⟨w.heap.size + 1 + 1, 0, none⟩ = some (.int .u64 Gb) := hT2.b.cell 0
        have b2 : World.cell? wz ⟨w.heap.size + 1 + 1, 2, none⟩ = some (.int .u8 pb) := hT2.b.cell 2
        have h2 : World.cell? wz ⟨w.heap.size, 2, none⟩ = some (.int .u64 hg) := hT2.h.cell 2
        have h3 : World.cell? wz ⟨w.heap.size, 3, none⟩ = some (.int .u8 hp) := hT2.h.cell 3
        have u0 := hT2.a.frozen 0
        have u2 := hT2.a.frozen 2
        have v0 := hT2.b.frozen 0
        have v2 := hT2.b.frozen 2
        go_region
        all_goals
          go_wp2_with fail
          go_meet
          exact ⟨hg, hp, hg, hp, ⟨hhg, hoa.o, hhp⟩, ⟨hhg, hob.o, hhp⟩, by first | exact (((hT2.setA0 hg).setA2 hp).setB0 hg).setB2 hp | exact ((((hT2.setA0 hg).setA2 hp).setB0 hg).setB2 hp).drew⟩
      · go_wp2_with fail
        go_meet
        exact ⟨Ga, pa, Gb, pb, hoa, hob, hT2⟩
    case rest =>
      obtain ⟨Ga', pa', Gb', pb', hoA, hoB, hT⟩ := hcut
      obtain ⟨W0, hW0⟩ : ∃ W0, W0 = wc := ⟨_, rfl⟩
      subst hW0
      clear a3 b3 x3 y3 h0 hT2
      clear hoa hob
      have h0 : World.cell? W0 ⟨w.heap.size, 0, none⟩ = some (.bool f) := hT.h.cell 0
      have h1 : World.cell? W0 ⟨w.heap.size, 1, none⟩ = some (.int .u64 id) := hT.h.cell 1
      have h2 : World.cell? W0 ⟨w.heap.size, 2, none⟩ = some (.int .u64 hg) := hT.h.cell 2
      have h3 : World.cell? W0 ⟨w.heap.size, 3, none⟩ = some (.int .u8 hp) := hT.h.cell 3
      go_wp2_with fail
      refine (rbegin_any f id hg hp _ hid hhg hhp).mono ?_
      rintro e w5 ⟨v5, rfl, ho5, hb5⟩
      have hT5 := hT.below hb5
      have HT0 := Lib.hid hT
      have hC5 := hb5
      obtain ⟨A5, c5, rfl⟩ := (rd_of_own (k := .u8) ho5).form
      clear h0 h1 h2 h3
      clear hT hb5
      have h0 : World.cell? w5 ⟨w.heap.size, 0, none⟩ = some (.bool f) := hT5.h.cell 0
      have h1 : World.cell? w5 ⟨w.heap.size, 1, none⟩ = some (.int .u64 id) := hT5.h.cell 1
      have h2 : World.cell? w5 ⟨w.heap.size, 2, none⟩ = some (.int .u64 hg) := hT5.h.cell 2
      have h3 : World.cell? w5 ⟨w.heap.size, 3, none⟩ = some (.int .u8 hp) := hT5.h.cell 3
      have a0 : World.cell? w5 ⟨w.heap.size + 1, 0, none⟩ = some (.int .u64 Ga') := hT5.a.cell 0
      have a1 : World.cell? w5 ⟨w.heap.size + 1, 1, none⟩ = some (.int .u64 Oa) := hT5.a.cell 1
      have a2 : World.cell? w5 ⟨w.heap.size + 1, 2, none⟩ = some (.int .u8 pa') := hT5.a.cell 2
      have a3 : World.cell? w5 ⟨w.heap.size + 1, 3, none⟩ = some (.bool false) := hT5.a.cell 3
      have a4 : World.cell? w5 ⟨w.heap.size + 1, 4, none⟩ = some (.slice A1 La.length k1) := hT5.a.cell 4
      go_wp2_with fail
      refine (rnext_any f id hg hp Ga' Oa pa' false _ La _ hT5.ra.1 (by omega) hoA).mono ?_
      rintro e w6 ⟨v6, rfl, ho6, hb6⟩
      have hT6 := hT5.below hb6
      have hC6 := hC5.trans (hb6.mono hC5.size)
      have ho5 := own_same ho5 hb6
      obtain ⟨A6, c6, rfl⟩ := (rd_of_own (k := .u8) ho6).form
      clear h0 h1 h2 h3
      clear a0 a1 a2 a3 a4
      clear hT5 hb6
      have h0 : World.cell? w6 ⟨w.heap.size, 0, none⟩ = some (.bool f) := hT6.h.cell 0
      have h1 : World.cell? w6 ⟨w.heap.size, 1, none⟩ = some (.int .u64 id) := hT6.h.cell 1
      have h2 : World.cell? w6 ⟨w.heap.size, 2, none⟩ = some (.int .u64 hg) := hT6.h.cell 2
      have h3 : World.cell? w6 ⟨w.heap.size, 3, none⟩ = some (.int .u8 hp) := hT6.h.cell 3
      have b0 : World.cell? w6 ⟨w.heap.size + 1 + 1, 0, none⟩ = some (.int .u64 Gb') := hT6.b.cell 0
      have b1 : World.cell? w6 ⟨w.heap.size + 1 + 1, 1, none⟩ = some (.int .u64 Ob) := hT6.b.cell 1
      have b2 : World.cell? w6 ⟨w.heap.size + 1 + 1, 2, none⟩ = some (.int .u8 pb') := hT6.b.cell 2
      have b3 : World.cell? w6 ⟨w.heap.size + 1 + 1, 3, none⟩ = some (.bool false) := hT6.b.cell 3
      have b4 : World.cell? w6 ⟨w.heap.size + 1 + 1, 4, none⟩ = some (.slice A2 Lb.length k2) := hT6.b.cell 4
      go_wp2_with fail
      refine (rnext_any f id hg hp Gb' Ob pb' false _ Lb _ hT6.rb.1 (by omega) hoB).mono ?_
      rintro e w7 ⟨v7, rfl, ho7, hb7⟩
      have hT7 := hT6.below hb7
      have hC7 := hC6.trans (hb7.mono hC6.size)
      have hd0 : ∀ b, (Value.slice A5 _ c5).ownBlock = some b → v7.ownBlock ≠ some b := fun b e e2 => by have h1 := (ho5.lt b e).2; have h2 := (ho7.lt b e2).1; omega
      have ho5 := own_same ho5 hb7
      have ho6 := own_same ho6 hb7
      obtain ⟨A7, c7, rfl⟩ := (rd_of_own (k := .u8) ho7).form
      have hd57 := hd0
      clear hd0
      clear h0 h1 h2 h3
      clear b0 b1 b2 b3 b4
      clear hT6 hb7
      obtain ⟨hk5, hl5⟩ := begin_ok f id hg hp hid hhg hhp
      obtain ⟨hk6, hl6⟩ := next_ok f hg hp Ga' Oa pa' false La hoA hbka
      obtain ⟨hk7, hl7⟩ := next_ok f hg hp Gb' Ob pb' false Lb hoB hbkb
      have hlaw := falls_law f id hg hp Ga' Oa pa' Gb' Ob pb' La Lb hid.1 hhg.1 hoA.g.1 hoA.o.1 hoB.g.1 hoB.o.1
      obtain ⟨⟨P5, E5⟩, hP5⟩ : ∃ x, x = beginR f id hg hp := ⟨_, rfl⟩
      obtain ⟨⟨P6, E6⟩, hP6⟩ : ∃ x, x = nextR f hg hp Ga' Oa pa' false La := ⟨_, rfl⟩
      obtain ⟨⟨P7, E7⟩, hP7⟩ : ∃ x, x = nextR f hg hp Gb' Ob pb' false Lb := ⟨_, rfl⟩
      rw [← hP5] at hk5 hl5 ho5 hlaw hd57 ⊢
      rw [← hP6] at hk6 hl6 ho6 hlaw ⊢
      rw [← hP7] at hk7 hl7 ho7 hlaw hd57 ⊢
      clear hP5 hP6 hP7
      simp only at hk5 hk6 hk7 hl5 hl6 hl7 ho5 ho6 ho7 hlaw hd57 ⊢
      have HLAW := Lib.hid hlaw
      clear hlaw
      have hB7 := hT7.n
      by_cases e5 : E5 = 0
      · by_cases e6 : E6 = 0
        · by_cases e7 : E7 = 0
          · subst e5 e6 e7
            have a0 : World.cell? w7 ⟨w.heap.size + 1, 0, none⟩ = some (.int .u64 Ga') := hT7.a.cell 0
            have a1 : World.cell? w7 ⟨w.heap.size + 1, 1, none⟩ = some (.int .u64 Oa) := hT7.a.cell 1
            have a2 : World.cell? w7 ⟨w.heap.size + 1, 2, none⟩ = some (.int .u8 pa') := hT7.a.cell 2
            have a3 : World.cell? w7 ⟨w.heap.size + 1, 3, none⟩ = some (.bool false) := hT7.a.cell 3
            have a4 : World.cell? w7 ⟨w.heap.size + 1, 4, none⟩ = some (.slice A1 La.length k1) := hT7.a.cell 4
            have b0 : World.cell? w7 ⟨w.heap.size + 1 + 1, 0, none⟩ = some (.int .u64 Gb') := hT7.b.cell 0
            have b1 : World.cell? w7 ⟨w.heap.size + 1 + 1, 1, none⟩ = some (.int .u64 Ob) := hT7.b.cell 1
            have b2 : World.cell? w7 ⟨w.heap.size + 1 + 1, 2, none⟩ = some (.int .u8 pb') := hT7.b.cell 2
            have b3 : World.cell? w7 ⟨w.heap.size + 1 + 1, 3, none⟩ = some (.bool false) := hT7.b.cell 3
            have b4 : World.cell? w7 ⟨w.heap.size + 1 + 1, 4, none⟩ = some (.slice A2 Lb.length k2) := hT7.b.cell 4
            obtain ⟨LS, hLS⟩ : ∃ b, b = lessP Ga' Oa Gb' Ob := ⟨_, rfl⟩
            have HLS := Lib.hid hLS
            clear hLS
            go_upto_region 12 with (fail)
            go_cut [13] (fun s13 wx => s13 = .bool LS ∧ wx = w7)
            case first =>
              by_cases q1 : Ga' < Gb'
              · have q1' : decide (Ga' < Gb') = true := by simpa using q1
                have hv : Hid (LS = true) := Lib.hid (by rw [HLS.out]; unfold lessP; simp; exact .inl q1)
                go_wp2_with fail
                go_meet
                exact ⟨by rw [hv.out], rfl⟩
              · have q1' : decide (Ga' < Gb') = false := by simpa using q1
                by_cases q2 : Ga' = Gb'
                · have q2' : (Ga' == Gb') = true := by simpa using q2
                  have hv : Hid (LS = decide (Oa < Ob)) := Lib.hid (by rw [HLS.out]; unfold lessP; rw [decide_eq_decide]; omega)
                  clear q2
                  go_wp2_with fail
                  go_meet
                  exact ⟨by rw [hv.out], rfl⟩
                · have q2' : (Ga' == Gb') = false := by simpa using q2
                  have hv : Hid (LS = false) := Lib.hid (by rw [HLS.out]; unfold lessP; simp; omega)
                  clear q2
                  go_wp2_with fail
                  go_meet
                  exact ⟨by rw [hv.out], rfl⟩
            case rest =>
              obtain ⟨rfl, rfl⟩ := hcut
              clear a0 a1 a2 a3 a4
              clear b0 b1 b2 b3 b4
              obtain ⟨i0, hi, hz0, hz1, hz2⟩ := info_parts infoB
              have hs7 := hB7.size
              go_wp2_with fail
              refine (newReader_any _).mono ?_
              rintro e w8 ⟨rg, rfl, hrb, hrg, hb8⟩
              have hC8 := hC7.trans (hb8.mono hC7.size)
              have ho5 := own_same ho5 hb8
              have ho6 := own_same ho6 hb8
              have ho7 := own_same ho7 hb8
              have r6 := (rd_of_own (k := .u8) (l := P6) ho6).rdv
              have H6 := Lib.hid r6
              clear r6
              have hsz := hC8.size
              have hsz7 := hC7.size
              have hne5 := own_blk_ne ho5 hrb (by decide)
              have htok : True := trivial
              go_wp2_with (first | (at_builtin; clear htok; refine wpList_append_any _ rfl _ _ 27 rfl W0.heap.size 5 i0 _ 1 1 Try.underlying27 hi hz0 hz1 hz2 rfl (by decide) _ P5.length _ rfl ho5 A6 P6.length c6 _ rfl H6.out.2.2.2.2 (oneInts _ _) (by unfold maxLen; omega) (by omega) (by omega) H6.out.2.1 ?_; intro v9 w9 hownw9 hgroww9 hatw9; have hrb9 := hrb.grown hgroww9 (Ne.symm hne5); have hC9 := hC8.grown hgroww9 hC8.size (fun b hb => (ho5.lt b hb).1); have hsz9 := hC9.size; have r7 := (rd_of_own (k := .u8) (l := P7) (own_two ho7 hgroww9 hd57)).rdv; have H7 := Lib.hid r7; clear r7) | (at_builtin; refine wpList_append_any _ rfl _ _ 27 rfl W0.heap.size 5 i0 _ 1 1 Try.underlying27 hi hz0 hz1 hz2 rfl (by decide) _ (P5.length + P6.length) _ rfl hownw9 A7 P7.length c7 _ rfl H7.out.2.2.2.2 (oneInts _ _) (by unfold maxLen; omega) (by omega) (by omega) H7.out.2.1 ?_; intro v10 w10 hownw10 hgroww10 hatw10; have hrb10 := hrb9.grown hgroww10 (Ne.symm (own_blk_ne hownw9 hrb9 (by decide))); have hC10 := hC9.grown hgroww10 hC9.size (fun b hb => (hownw9.lt b hb).1); obtain ⟨A10, c10, rfl, _⟩ := sl_of_own hownw10) | fail)
              have hr10 : Rd w10 .u8 (.slice A10 (P5.length + P6.length + P7.length) c10) (P5 ++ (P6 ++ P7)) := rd_of_own (k := .u8) (l := P5 ++ (P6 ++ P7)) (by rw [List.map_append, List.map_append, ← List.append_assoc]; exact hownw10)
              have hk10 : BytesOk (P5 ++ (P6 ++ P7)) := fun x hx => by
                rcases List.mem_append.1 hx with hx | hx
                · exact hk5 x hx
                · rcases List.mem_append.1 hx with hx | hx
                  · exact hk6 x hx
                  · exact hk7 x hx
              refine (put_new rg _ (P5 ++ (P6 ++ P7)) true w10 hrb10 hr10 hk10 (by simp; omega)).mono ?_
              rintro e w11 ⟨k, obs, ov, hc1, hc2, rfl, hoo, hown11, hobs, hg11⟩
              have hC11 := hC10.grown hg11 hC10.size (fun b hb => by injection hb with hb; omega)
              have hT11 := HT0.out.below hC11
              have hB11 := hT11.n
              obtain ⟨hL1, hL2⟩ := HLAW.out (by first | rfl | trivial) (by first | rfl | trivial) (by first | rfl | trivial) k hc1 hc2
              clear hr10 hk10 hrb10 hrb9 hrb hownw10 hownw9 hgroww10 hgroww9 hatw10 hatw9 ho5 ho6 ho7 hne5 hg11 hc1 hc2 hC7 hC8 hC9 hC10 hC11 H6 H7 hT7 hb8 hd57
              cases LS
              · obtain ⟨hee, hout⟩ := hL2 HLS.out.symm
                clear hL1 hL2
                have hpe : putE (iterR k (rs0 (P5 ++ (P6 ++ P7)))).e true = 4 := by rw [hee]; rfl
                rw [hpe]
                clear hpe hee
                have hln : obs.length = 1 := by have h1 := congrArg List.length (hoo.trans hout); simpa [obOut] using h1
                obtain ⟨Ao, co, rfl, hnc, hcm, hobr⟩ := obr_of_own hown11 hobs
                rw [hln] at hobr hnc ⊢
                have hob2 : Obr (w11.alloc (.cells #[.int .u64 Ga', .int .u64 Oa, .int .u8 pa', .bool false, .slice A1 La.length k1] 29)) Ao 1 obs := obr_alloc hobr _
                have hlit : Obr (w11.alloc (.cells #[.int .u64 Ga', .int .u64 Oa, .int .u8 pa', .bool false, .slice A1 La.length k1] 29)) (some ⟨w11.heap.size, 0, none⟩) 1 [((Ga', Oa, pa'), La, .slice A1 La.length k1)] := obr_lit1 (Blk.new w11 29 _) (hT11.ra.1.below ((Below.refl _ _).alloc (Nat.le_refl _) (.cells #[.int .u64 Ga', .int .u64 Oa, .int .u8 pa', .bool false, .slice A1 La.length k1] 29)))
                have hsame := samel Ao (some ⟨w11.heap.size, 0, none⟩) 1 co 1 obs [((Ga', Oa, pa'), La, .slice A1 La.length k1)] (w11.alloc (.cells #[.int .u64 Ga', .int .u64 Oa, .int .u8 pa', .bool false, .slice A1 La.length k1] 29)) hob2 hlit (hoo.trans hout) (by decide) hnc (by decide) hcm (by unfold maxLen; decide)
                have a0 : World.cell? w11 ⟨w.heap.size + 1, 0, none⟩ = some (.int .u64 Ga') := hT11.a.cell 0
                have a1 : World.cell? w11 ⟨w.heap.size + 1, 1, none⟩ = some (.int .u64 Oa) := hT11.a.cell 1
                have a2 : World.cell? w11 ⟨w.heap.size + 1, 2, none⟩ = some (.int .u8 pa') := hT11.a.cell 2
                have a3 : World.cell? w11 ⟨w.heap.size + 1, 3, none⟩ = some (.bool false) := hT11.a.cell 3
                have a4 : World.cell? w11 ⟨w.heap.size + 1, 4, none⟩ = some (.slice A1 La.length k1) := hT11.a.cell 4
                have hB12 := hB11.alloc hB11.size (.cells #[.int .u64 Ga', .int .u64 Oa, .int .u8 pa', .bool false, .slice A1 La.length k1] 29)
                have hS := Lib.hid hsame
                clear hsame hob2 hlit hobr hown11 hobs hout hoo hln
                go_wp2_with fail
                refine hS.out.mono ?_
                rintro e w12 ⟨rfl, m, rfl⟩
                go_wp2_with fail
                go_ret
                exact ⟨rfl, below_drewN hB12 m⟩
              · obtain ⟨hee, hout⟩ := hL1 HLS.out.symm
                clear hL1 hL2
                have hpe : putE (iterR k (rs0 (P5 ++ (P6 ++ P7)))).e true = 0 := by rw [hee]; rfl
                rw [hpe]
                clear hpe hee
                have hln : obs.length = 2 := by have h1 := congrArg List.length (hoo.trans hout); simpa [obOut] using h1
                obtain ⟨Ao, co, rfl, hnc, hcm, hobr⟩ := obr_of_own hown11 hobs
                rw [hln] at hobr hnc ⊢
                have hob2 : Obr (w11.alloc (.cells #[.int .u64 Ga', .int .u64 Oa, .int .u8 pa', .bool false, .slice A1 La.length k1, .int .u64 Gb', .int .u64 Ob, .int .u8 pb', .bool false, .slice A2 Lb.length k2] 29)) Ao 2 obs := obr_alloc hobr _
                have hlit : Obr (w11.alloc (.cells #[.int .u64 Ga', .int .u64 Oa, .int .u8 pa', .bool false, .slice A1 La.length k1, .int .u64 Gb', .int .u64 Ob, .int .u8 pb', .bool false, .slice A2 Lb.length k2] 29)) (some ⟨w11.heap.size, 0, none⟩) 2 [((Ga', Oa, pa'), La, .slice A1 La.length k1), ((Gb', Ob, pb'), Lb, .slice A2 Lb.length k2)] := obr_lit2 (Blk.new w11 29 _) (hT11.ra.1.below ((Below.refl _ _).alloc (Nat.le_refl _) (.cells #[.int .u64 Ga', .int .u64 Oa, .int .u8 pa', .bool false, .slice A1 La.length k1, .int .u64 Gb', .int .u64 Ob, .int .u8 pb', .bool false, .slice A2 Lb.length k2] 29))) (hT11.rb.1.below ((Below.refl _ _).alloc (Nat.le_refl _) (.cells #[.int .u64 Ga', .int .u64 Oa, .int .u8 pa', .bool false, .slice A1 La.length k1, .int .u64 Gb', .int .u64 Ob, .int .u8 pb', .bool false, .slice A2 Lb.length k2] 29)))
                have hsame := samel Ao (some ⟨w11.heap.size, 0, none⟩) 2 co 2 obs [((Ga', Oa, pa'), La, .slice A1 La.length k1), ((Gb', Ob, pb'), Lb, .slice A2 Lb.length k2)] (w11.alloc (.cells #[.int .u64 Ga', .int .u64 Oa, .int .u8 pa', .bool false, .slice A1 La.length k1, .int .u64 Gb', .int .u64 Ob, .int .u8 pb', .bool false, .slice A2 Lb.length k2] 29)) hob2 hlit (hoo.trans hout) (by decide) hnc (by decide) hcm (by unfold maxLen; decide)
                have a0 : World.cell? w11 ⟨w.heap.size + 1, 0, none⟩ = some (.int .u64 Ga') := hT11.a.cell 0
                have a1 : World.cell? w11 ⟨w.heap.size + 1, 1, none⟩ = some (.int .u64 Oa) := hT11.a.cell 1
                have a2 : World.cell? w11 ⟨w.heap.size + 1, 2, none⟩ = some (.int .u8 pa') := hT11.a.cell 2
                have a3 : World.cell? w11 ⟨w.heap.size + 1, 3, none⟩ = some (.bool false) := hT11.a.cell 3
                have a4 : World.cell? w11 ⟨w.heap.size + 1, 4, none⟩ = some (.slice A1 La.length k1) := hT11.a.cell 4
                have b0 : World.cell? w11 ⟨w.heap.size + 1 + 1, 0, none⟩ = some (.int .u64 Gb') := hT11.b.cell 0
                have b1 : World.cell? w11 ⟨w.heap.size + 1 + 1, 1, none⟩ = some (.int .u64 Ob) := hT11.b.cell 1
                have b2 : World.cell? w11 ⟨w.heap.size + 1 + 1, 2, none⟩ = some (.int .u8 pb') := hT11.b.cell 2
                have b3 : World.cell? w11 ⟨w.heap.size + 1 + 1, 3, none⟩ = some (.bool false) := hT11.b.cell 3
                have b4 : World.cell? w11 ⟨w.heap.size + 1 + 1, 4, none⟩ = some (.slice A2 Lb.length k2) := hT11.b.cell 4
                have hB12 := hB11.alloc hB11.size (.cells #[.int .u64 Ga', .int .u64 Oa, .int .u8 pa', .bool false, .slice A1 La.length k1, .int .u64 Gb', .int .u64 Ob, .int .u8 pb', .bool false, .slice A2 Lb.length k2] 29)
                have hS := Lib.hid hsame
                clear hsame hob2 hlit hobr hown11 hobs hout hoo hln
                go_wp2_with fail
                refine hS.out.mono ?_
                rintro e w12 ⟨rfl, m, rfl⟩
                go_wp2_with fail
                go_ret
                exact ⟨rfl, below_drewN hB12 m⟩
          · subst e5 e6
            have g7 : (E7 != 0) = true := by simpa using e7
            clear e7
            go_wp2_with fail
            go_ret
            exact ⟨rfl, hB7⟩
        · subst e5
          have g6 : (E6 != 0) = true := by simpa using e6
          clear e6
          go_wp2_with fail
          go_ret
          exact ⟨rfl, hB7⟩
      · have g5 : (E5 != 0) = true := by simpa using e5
        clear e5
        go_wp2_with fail
        go_ret
        exact ⟨rfl, hB7⟩
open Go.ChangeShapes Go.WideShapes Go.ChangeAt
set_option maxRecDepth 100000 in
theorem falls_lifted (os : Os) (started : os.Started) (H : Type) (enc : TypeId × Value → H) :
    ReturnsInHanded {} Try.checked os 5 .any (Rows.itemFallsSpec.pre6 enc Try.prog Try.f5 Rows.itemFallsRow.domain false) (Rows.itemFallsSpec.post enc Try.prog Try.f5 false true false false) := by
  refine returnsInHanded_of_change (C := Try.checked) own started (by kernel_rfl) Try.func5
    (ChangeSpec.witness6 (enc := enc) (C := Try.checked) false ⟨#[], #[.agg #[.bool false, .int .u64 0, .int .u64 0, .int .u8 0], .agg #[.int .u64 0, .int .u64 0, .int .u8 0, .bool false, .slice none 0 0], .agg #[.int .u64 0, .int .u64 0, .int .u8 0, .bool false, .slice none 0 0]], []⟩ 8 (by kernel_rfl) (by kernel_rfl) (by kernel_rfl) (by kernel_rfl)) ?_
  intro W base args ds gs before hval0 hW hcnd _
  have hval : ∀ (j : Nat) t v, Try.f5.params[j]? = some t → args[j]? = some v → Value.okWide Try.prog W .any base t v := hval0
  have hW' := hW
  obtain ⟨p, q, hA0, hV, rfl, hfz, hnd⟩ := hW
  have hA : DataW.TrodAll enc Try.prog W 0 (fun _ => true) true Try.f5.params.toList args.toList ds p := hA0
  rw [Try.params5] at hA hval
  obtain ⟨v0, vs0, d0, ds0, p0, q0, hargs, rfl, rfl, h0, r0⟩ := trodAll_cons hA
  obtain ⟨v1, vs1, d1, ds1, p1, q1, rfl, rfl, rfl, h1, r1⟩ := trodAll_cons r0
  obtain ⟨v2, vs2, d2, ds2, p2, q2, rfl, rfl, rfl, h2, r2⟩ := trodAll_cons r1
  obtain ⟨rfl, rfl, rfl⟩ := trodAll_nil r2
  obtain rfl : args = #[v0, v1, v2] := by cases args; simp_all
  obtain ⟨rfl, rfl⟩ := trodVars_none hV
  have k0 := h0
  have lt0 : ∀ x ∈ p0, x.block < W.heap.size := by obtain ⟨m, hm⟩ := k0; exact DataW.trod_lt m _ _ _ hm
  obtain ⟨f0, i0, g0, s0, rfl, u0, x0, y0⟩ := head_of (hval 0 24 v0 rfl rfl) h0
  have k1 := h1
  have lt1 : ∀ x ∈ p1, x.block < W.heap.size := by obtain ⟨m, hm⟩ := k1; exact DataW.trod_lt m _ _ _ hm
  obtain ⟨G1, O1, z1, b1, V1, l1, rfl, ho1, hR1, hK1⟩ := obj_of (hval 1 29 v1 rfl rfl) h1
  have k2 := h2
  have lt2 : ∀ x ∈ p2, x.block < W.heap.size := by obtain ⟨m, hm⟩ := k2; exact DataW.trod_lt m _ _ _ hm
  obtain ⟨G2, O2, z2, b2, V2, l2, rfl, ho2, hR2, hK2⟩ := obj_of (hval 2 29 v2 rfl rfl) h2
  clear hA0 hval0
  refine (falls_walk f0 i0 g0 s0 G1 O1 z1 b1 V1 l1 G2 O2 z2 b2 V2 l2 W hR1 hR2 hK1 hK2 u0 x0 y0 ho1 ho2).mono fun e W' ⟨he, bel⟩ => ?_
  subst he
  exact ⟨_, rfl, _, _, _, [], _, [], hW', trodAll_mk1 (shut_bool Try.underlying4 _), (trodAll_cons_mk (Below.trod laidOut (by kernel_rfl) (of_decide_eq_true (by kernel_rfl)) k0 bel lt0) (trodAll_cons_mk (Below.trod laidOut (by kernel_rfl) (of_decide_eq_true (by kernel_rfl)) k1 bel lt1) (trodAll_cons_mk (Below.trod laidOut (by kernel_rfl) (of_decide_eq_true (by kernel_rfl)) k2 bel lt2) trodAll_mk0))), rfl, bel.frame _, fun h => by cases h⟩

theorem falls_holds : Rows.ItemFallsSaid :=
  OpenClaim.holds_of_wide 5 Try.f5 rfl rfl rfl rfl rfl rfl rfl ⟨rfl, rfl, rfl, rfl, rfl⟩ rfl rfl rfl rfl rfl (by kernel_rfl) Try.func5 (by kernel_rfl)
    (of_decide_eq_true (by kernel_rfl)) (by unfold Func.isWrapper; first | (rw [if_pos (by decide +kernel)]; kernel_rfl) | (rw [if_neg (by decide +kernel)]; exact ⟨rfl, rfl⟩))
    (fun os started H enc _ => falls_lifted os started H enc)
#print axioms falls_holds

end Go.Proofs.Ythmdbkefbbjfmaa
