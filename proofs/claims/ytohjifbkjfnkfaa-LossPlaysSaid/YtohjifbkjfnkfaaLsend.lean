/-
  What Send does.
-/
import Derived.Test.YtohjifbkjfnkfaaLtake
namespace Go.Proofs.Ytohjifbkjfnkfaa
open Go.RowKit
set_option linter.unusedVariables false
set_option linter.unusedSimpArgs false


/-- Nothing but blocks of a ledger's has turned; there may be new ones. -/
structure KeepL (w w' : World) : Prop where
  os : w'.os = w.os
  tape : w'.tape = w.tape
  output : w'.output = w.output
  size : w.heap.size ≤ w'.heap.size
  block : ∀ (i : Nat) (o : Obj), w.heap[i]? = some o → (∀ cs fz, o ≠ .cells cs 36 fz) → (∀ cs fz, o ≠ .cells cs 73 fz) → w'.heap[i]? = some o
theorem KeepL.refl (w : World) : KeepL w w := ⟨rfl, rfl, rfl, Nat.le_refl _, fun _ _ h _ _ => h⟩
theorem KeepL.trans {a b c : World} (h : KeepL a b) (k : KeepL b c) : KeepL a c := ⟨k.os.trans h.os, k.tape.trans h.tape, k.output.trans h.output, Nat.le_trans h.size k.size, fun i o hb h1 h2 => k.block i o (h.block i o hb h1 h2) h1 h2⟩
theorem KeepL.drew {a b : World} (h : KeepL a b) : KeepL a b.drew := ⟨h.os, h.tape, h.output, h.size, h.block⟩
theorem KeepL.below {w w' : World} (h : Below w.heap.size w w') : KeepL w w' := ⟨h.os, h.tape, h.output, h.size, fun i o hb _ _ => (h.block i (Array.getElem?_eq_some_iff.1 hb).1).trans hb⟩
theorem KeepL.grown {w w' : World} {g : Nat} {cs : Array Value} (h : w.grownBy w' (some g)) (hb : Blk w g 73 cs) : KeepL w w' :=
  ⟨h.os, h.tape, h.output, h.size, fun i o hb' _ h2 => (h.block i (Array.getElem?_eq_some_iff.1 hb').1 (by
    intro e
    injection e with e
    subst e
    unfold Blk at hb
    rw [hb] at hb'
    injection hb' with hb'
    exact h2 _ _ hb'.symm)).trans hb'⟩
theorem KeepL.row {w w' : World} {v : Value} {base n : Nat} {xs : List Value} (h : w.grownBy w' v.ownBlock) (hb : w.ownsRow base 36 4 v n xs) : KeepL w w' :=
  ⟨h.os, h.tape, h.output, h.size, fun i o hb' h1 _ => (h.block i (Array.getElem?_eq_some_iff.1 hb').1 (by
    intro e
    rcases hb.2 with ⟨rfl, _⟩ | ⟨g', cap, cur, rfl, _, hh, _⟩
    · simp [Value.ownBlock] at e
    · have : i = g' := by simpa [Value.ownBlock] using e
      subst this
      rw [hh] at hb'
      injection hb' with hb'
      exact h1 _ _ hb'.symm)).trans hb'⟩
theorem KeepL.set {w : World} {g : Nat} {cs : Array Value} (hb : Blk w g 73 cs) (i : Nat) (u : Value) : KeepL w (w.setCell ⟨g, i, none⟩ u) :=
  ⟨rfl, rfl, rfl, by simp [World.setCell], fun k o hb' _ h2 => (Below.heap_setCell w _ u k (by
    rintro rfl
    unfold Blk at hb
    rw [hb] at hb'
    injection hb' with hb'
    exact h2 _ _ hb'.symm)).trans hb'⟩
theorem KeepL.blk {w w' : World} (h : KeepL w w') {i : Nat} {t : TypeId} {cs : Array Value} (hb : Blk w i t cs) (h1 : t ≠ 36) (h2 : t ≠ 73) : Blk w' i t cs :=
  h.block i _ hb (fun cs' fz e => by injection e with _ e; exact h1 e) (fun cs' fz e => by injection e with _ e; exact h2 e)
theorem KeepL.map {w w' : World} (h : KeepL w w') (i : Nat) (es : Array MapEntry) (cl : Nat) (hb : w.heap[i]? = some (.map es cl)) : w'.heap[i]? = some (.map es cl) :=
  h.block i _ hb (fun cs fz e => by cases e) (fun cs fz e => by cases e)
/-- What a ledger keeps, whatever is done besides. -/
theorem Led.below {B : Nat} {w w' : World} {g : Nat} {L : List Pk} {nx ak : Int} {sm : Bool} (h : Led B w g L nx ak sm) (hb : Below w.heap.size w w') : Led B w' g L nx ak sm := by
  obtain ⟨h0, V, h1, h2⟩ := h
  exact ⟨h0, V, h1.same hb, own_same h2 hb⟩
theorem Led.base {B B' : Nat} {w : World} {g : Nat} {L : List Pk} {nx ak : Int} {sm : Bool} (h : Led B w g L nx ak sm) (hB : B' ≤ B) : Led B' w g L nx ak sm := by
  obtain ⟨h0, V, h1, h2⟩ := h
  exact ⟨Nat.le_trans hB h0, V, h1, own_base h2 hB⟩
theorem Led.drew {B : Nat} {w : World} {g : Nat} {L : List Pk} {nx ak : Int} {sm : Bool} (h : Led B w g L nx ak sm) (n : Nat) : Led B (w.drewN n) g L nx ak sm := h
theorem Led.lt {B : Nat} {w : World} {g : Nat} {L : List Pk} {nx ak : Int} {sm : Bool} (h : Led B w g L nx ak sm) : g < w.heap.size := by obtain ⟨_, V, h1, _⟩ := h; exact h1.lt
theorem sent_world {B : Nat} {w w6 w7 : World} {g gg cp : Nat} {V : Value} {L : List Pk} {nx ak : Int} {sm : Bool} {p : Pk} (hBg : B ≤ g) (hBw : B ≤ w.heap.size) (hb : Blk w6 g 73 #[V, .int .u64 nx, .int .u64 ak, .bool sm]) (ho : w6.ownsRow B 36 4 V L.length (pkcells L))
    (h6 : Below w.heap.size w w6) (hown : w7.ownsRow B 36 4 (.slice (some ⟨gg, 0, none⟩) (L.length + 1) cp) (L.length + 1) (pkcells L ++ p.cells)) (hg : w6.grownBy w7 V.ownBlock) (n : Int) :
    ∀ wz, (wz = ((w7.setCell ⟨g, 0, none⟩ (.slice (some ⟨gg, 0, none⟩) (L.length + 1) cp)).setCell ⟨g, 1, none⟩ (.int .u64 n))) ∨ (wz = ((w7.setCell ⟨g, 0, none⟩ (.slice (some ⟨gg, 0, none⟩) (L.length + 1) cp)).setCell ⟨g, 1, none⟩ (.int .u64 n)).drew) ∨ (wz = ((w7.setCell ⟨g, 1, none⟩ (.int .u64 n)).setCell ⟨g, 0, none⟩ (.slice (some ⟨gg, 0, none⟩) (L.length + 1) cp))) ∨ (wz = ((w7.setCell ⟨g, 1, none⟩ (.int .u64 n)).setCell ⟨g, 0, none⟩ (.slice (some ⟨gg, 0, none⟩) (L.length + 1) cp)).drew) →
      Led B wz g (L ++ [p]) n ak sm ∧ Below B w wz ∧ KeepL w wz := by
  have hne := own_blk_ne ho hb (by decide)
  have hb7 := hb.grown hg (Ne.symm hne)
  have hne7 := own_blk_ne hown hb7 (by decide)
  have hB7 : Below B w w7 := (h6.mono hBw).grown hg (Nat.le_trans hBw h6.size) (fun b hb => (ho.lt b hb).1)
  have k7 : KeepL w w7 := (KeepL.below h6).trans (KeepL.row hg ho)
  have e : (L ++ [p]).length = L.length + 1 := by simp
  have e2 : pkcells (L ++ [p]) = pkcells L ++ p.cells := by rw [pkcells_append]; simp [pkcells]
  intro wz hz
  rcases hz with rfl | rfl | rfl | rfl
  · exact ⟨⟨hBg, _, (hb7.set_ 0 _).set_ 1 _, by rw [e, e2]; exact own_far (own_far hown hne7 _) hne7 _⟩, (hB7.setCell hBg _).setCell hBg _, (k7.trans (KeepL.set hb7 0 _)).trans (KeepL.set (hb7.set_ 0 _) 1 _)⟩
  · exact ⟨⟨hBg, _, (hb7.set_ 0 _).set_ 1 _, by rw [e, e2]; exact own_far (own_far hown hne7 _) hne7 _⟩, below_drewN ((hB7.setCell hBg _).setCell hBg _) 1, ((k7.trans (KeepL.set hb7 0 _)).trans (KeepL.set (hb7.set_ 0 _) 1 _)).drew⟩
  · exact ⟨⟨hBg, _, (hb7.set_ 1 _).set_ 0 _, by rw [e, e2]; exact own_far (own_far hown hne7 _) hne7 _⟩, (hB7.setCell hBg _).setCell hBg _, (k7.trans (KeepL.set hb7 1 _)).trans (KeepL.set (hb7.set_ 1 _) 0 _)⟩
  · exact ⟨⟨hBg, _, (hb7.set_ 1 _).set_ 0 _, by rw [e, e2]; exact own_far (own_far hown hne7 _) hne7 _⟩, below_drewN ((hB7.setCell hBg _).setCell hBg _) 1, ((k7.trans (KeepL.set hb7 1 _)).trans (KeepL.set (hb7.set_ 1 _) 0 _)).drew⟩
set_option maxHeartbeats 4000000 in
set_option maxRecDepth 100000 in
theorem send_ok (B g : Nat) (L : List Pk) (nx ak : Int) (sm : Bool) (p : Pk) (w : World) (hl : Led B w g L nx ak sm) (hBw : B ≤ w.heap.size) (hL : L.length ≤ 100000) (hp : PkOk p) (hn : nx ≤ p.num) :
    Calls Try.prog 13 #[.pointer (some ⟨g, 0, none⟩), p.agg] w fun e w' => e = .returned (.int .i64 0) ∧ Led B w' g (L ++ [p]) (p.num + 1) ak sm ∧ Below B w w' ∧ KeepL w w' := by
  obtain ⟨i0, hi, hz0, hz1, hz2⟩ := info_parts infoP
  obtain ⟨hBg, V, hb, ho⟩ := hl
  obtain ⟨A, cap, rfl, _, hnc, hcm, _⟩ := pks_of_own ho
  obtain ⟨pn, ps, pz, pa⟩ := p
  obtain ⟨hk1, hk2, hk3⟩ := hp
  simp only at hk1 hk2 hk3 hn
  have hO := Blk.new w 36 #[.int .u64 pn, .int .u64 ps, .int .i64 pz, .bool pa]
  have hb1 := hb.alloc (.cells #[.int .u64 pn, .int .u64 ps, .int .i64 pz, .bool pa] 36)
  have ho1 := ho.alloc (.cells #[.int .u64 pn, .int .u64 ps, .int .i64 pz, .bool pa] 36)
  have hB1 := (Below.refl w.heap.size w).alloc (Nat.le_refl _) (.cells #[.int .u64 pn, .int .u64 ps, .int .i64 pz, .bool pa] 36)
  have q1 : decide (pz < 0) = false := by simpa using hk3.1
  have q2 : decide (4611686018427387903 < pn) = false := by simpa using hk1.2
  have q3 : decide (4611686018427387903 < ps) = false := by simpa using hk2.2
  have q4 : decide (pn < nx) = false := by simpa using hn
  have hgl := hb.lt
  have c0 := hb1.cell 0
  have c1 := hb1.cell 1
  have f0 := hb1.frozen 0
  have f1 := hb1.frozen 1
  have o0 := hO.cell 0
  have o1 := hO.cell 1
  have o2 := hO.cell 2
  have o3 := hO.cell 3
  have hol := hO.lt
  unfold Pk.agg
  simp only [List.getElem?_toArray, List.getElem?_cons_zero, List.getElem?_cons_succ] at o0 o1 o2 o3 c0 c1
  have hnew : ∀ b, (Value.slice A L.length cap).ownBlock = some b → b < w.heap.size := fun b e => (ho.lt b e).2
  clear hb ho hO
  go_enter Try.func13, Try.ntmps13
  go_wp2_with fail
  go_quiet (fail)
  go_wp2_with fail
  refine wp_world (fun wv => Blk wv g 73 #[.slice A L.length cap, .int .u64 nx, .int .u64 ak, .bool sm] ∧ wv.ownsRow B 36 4 (.slice A L.length cap) L.length (pkcells L) ∧ Blk wv w.heap.size 36 #[.int .u64 pn, .int .u64 ps, .int .i64 pz, .bool pa] ∧ Below w.heap.size w wv) ⟨hb1, ho1, Blk.new w _ _, below_drewN hB1 _⟩ ?_
  clear hb1 ho1 hB1 c0 c1 f0 f1 o0 o1 o2 o3 hol
  rintro w6 ⟨hb, ho, hO, hB⟩
  have c0 := hb.cell 0
  have o0 := hO.cell 0
  have o1 := hO.cell 1
  have o2 := hO.cell 2
  have o3 := hO.cell 3
  have hol := hO.lt
  have hg6 := hb.lt
  simp only [List.getElem?_toArray, List.getElem?_cons_zero, List.getElem?_cons_succ] at o0 o1 o2 o3 c0
  have hne := own_blk_ne ho hb (by decide)
  have hneO : (Value.slice A L.length cap).ownBlock ≠ some w.heap.size := fun e => by have := hnew _ e; omega
  go_region_law
    ((refine step_append_lies _ (by rfl) _ _ _ (by rfl) B 36 i0 _ 4 32 Try.underlying26 hi hz0 hz1 hz2 rfl (by decide) (.slice A L.length cap) L.length _ (by rfl) (by exact ho.alloc _) ⟨w6.heap.size, 0, none⟩ 1 1 (Pk.cells ⟨pn, ps, pz, pa⟩) (by rfl) (by rfl) (World.news_of_block (cs := #[.int .u64 pn, .int .u64 ps, .int .i64 pz, .bool pa]) (t := 36) (fr := (0, 0)) (heap_alloc_new w6 _)) (pk_cells_one _) (by decide) (by unfold maxLen; omega) (by omega) (by simp; have := hB.size; omega) (w6.heap.size + 1) (by simp) ?_; intro gg cp w7 hown7 hgrow7 hat7 hlt7; have hB7 := ((hb.alloc (.cells #[.int .u64 pn, .int .u64 ps, .int .i64 pz, .bool pa] 36)).drew).grown hgrow7 (Ne.symm hne); have kx7 := hB7.frozen 0; have ky7 := hB7.frozen 1; have kz7 : w7.cell? ⟨g, 0, none⟩ = some (.slice A L.length cap) := hB7.cell 0; have kw7 : w7.cell? ⟨g, 1, none⟩ = some (.int .u64 nx) := hB7.cell 1; have ko7 : w7.cell? ⟨w.heap.size, 0, none⟩ = some (.int .u64 pn) := (((hO.alloc (.cells #[.int .u64 pn, .int .u64 ps, .int .i64 pz, .bool pa] 36)).drew).grown hgrow7 (Ne.symm hneO)).cell 0))
  all_goals
    have hw1 : IntKind.u64.wrap (pn + 1) = pn + 1 := Go.IntWalk.u64_in _ (by omega)
    first | rw [hw1] | skip
    have hs7 := sent_world (p := ⟨pn, ps, pz, pa⟩) hBg hBw (show Blk _ g 73 _ from (hb.alloc (.cells #[.int .u64 pn, .int .u64 ps, .int .i64 pz, .bool pa] 36))) (ho.alloc (.cells #[.int .u64 pn, .int .u64 ps, .int .i64 pz, .bool pa] 36)) (hB.alloc hB.size (.cells #[.int .u64 pn, .int .u64 ps, .int .i64 pz, .bool pa] 36)) hown7 (by first | exact hgrow7 | exact ⟨hgrow7.os, hgrow7.tape, hgrow7.output, hgrow7.size, hgrow7.block⟩) (pn + 1) _ (by first | exact .inl rfl | exact .inr (.inl rfl) | exact .inr (.inr (.inl rfl)) | exact .inr (.inr (.inr rfl)))
    clear kx7 ky7 kz7 kw7 ko7 hB7 hown7 hgrow7 hat7 hlt7
    go_wp2_with fail
    go_ret
    exact ⟨rfl, hs7⟩

end Go.Proofs.Ytohjifbkjfnkfaa
