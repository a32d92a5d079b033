/-
  What the reference's Read gives where nothing is read. No condition.
-/
import Derived.Test.YtjijmbpgfabgcaaDoorZRr79
namespace Go.Proofs.YtjijmbpgfabgcaaDoor
open Go.RowKit
set_option linter.unusedVariables false
set_option linter.unusedSimpArgs false

set_option maxHeartbeats 4000000 in
set_option maxRecDepth 100000 in
theorem rread_none (v : Value) (l : List Int) (w : World) (hr : RdT w v l) (hk : BytesOk l) (ht : vtake l = none) :
    Calls Tryd.prog 18 #[v] w fun e w' => RdOut (none, [], 2) e w' ∧ Below w.heap.size w w' := by
  have hO0 := Blk.new w 28 #[.int .u64 0, .int .u64 0, .int .u64 0, .slice none 0 0, .int .u8 0, .int .u8 0, .int .u64 0, .int .u64 0, .int .u64 0, .int .u64 0, .bool false, .int .u64 0, .slice none 0 0, .int .u64 0, .int .u64 0, .slice none 0 0]
  have hB0 : Below w.heap.size w (w.alloc (.cells #[.int .u64 0, .int .u64 0, .int .u64 0, .slice none 0 0, .int .u8 0, .int .u8 0, .int .u64 0, .int .u64 0, .int .u64 0, .int .u64 0, .bool false, .int .u64 0, .slice none 0 0, .int .u64 0, .int .u64 0, .slice none 0 0] 28)) := (Below.refl _ _).alloc (Nat.le_refl _) _
  have hr0 := (hr.below hB0).1
  go_enter Tryd.func18, Tryd.ntmps18
  go_wp2_with fail
  (with_reducible refine (rtake_none v l _ hr0 hk ht).mono ?_)
  rintro e w1 ⟨rfl, hb1⟩
  have hO1 := hO0.same hb1
  have hB1 := hB0.trans (hb1.mono hB0.size)
  clear hO0 hB0 hr0 hb1
  go_wp2_with (first | (refine wpList_store_row rfl _ _ _ rfl w.heap.size #[.int .u64 0, .int .u64 0, .int .u64 0, .slice none 0 0, .int .u8 0, .int .u8 0, .int .u64 0, .int .u64 0, .int .u64 0, .int .u64 0, .bool false, .int .u64 0, .slice none 0 0, .int .u64 0, .int .u64 0, .slice none 0 0] rfl rfl 28 #[.int .u64 0, .int .u64 0, .int .u64 0, .slice none 0 0, .int .u8 0, .int .u8 0, .int .u64 0, .int .u64 0, .int .u64 0, .int .u64 0, .bool false, .int .u64 0, .slice none 0 0, .int .u64 0, .int .u64 0, .slice none 0 0] hO1 (by rw [infoR28]; rfl) rfl za_one ?_) | fail)
  refine bodyPost_ret (v := .tuple #[.agg #[.int .u64 0, .int .u64 0, .int .u64 0, .slice none 0 0, .int .u8 0, .int .u8 0, .int .u64 0, .int .u64 0, .int .u64 0, .int .u64 0, .bool false, .int .u64 0, .slice none 0 0, .int .u64 0, .int .u64 0, .slice none 0 0], .slice none 0 0, .int .i64 2]) (by exact results_row3 Tryd.results18 _ _ rfl (Blk.row hO1 #[.int .u64 0, .int .u64 0, .int .u64 0, .slice none 0 0, .int .u8 0, .int .u8 0, .int .u64 0, .int .u64 0, .int .u64 0, .int .u64 0, .bool false, .int .u64 0, .slice none 0 0, .int .u64 0, .int .u64 0, .slice none 0 0]) Tryd.underlying28 rfl (by rw [infoR28]; rfl)) rfl ?_
  have hBf := below_row hB1 (Nat.le_refl w.heap.size) #[.int .u64 0, .int .u64 0, .int .u64 0, .slice none 0 0, .int .u8 0, .int .u8 0, .int .u64 0, .int .u64 0, .int .u64 0, .int .u64 0, .bool false, .int .u64 0, .slice none 0 0, .int .u64 0, .int .u64 0, .slice none 0 0]
  exact ⟨⟨.slice none 0 0, .slice none 0 0, .slice none 0 0, .slice none 0 0, rfl, Rd.nil _ _, Rd.nil _ _, Rd.nil _ _, Rd.nil _ _⟩, hBf⟩
set_option maxHeartbeats 4000000 in
set_option maxRecDepth 100000 in
theorem rread_kind (v : Value) (l r : List Int) (k : Int) (w : World) (hr : RdT w v l) (hk : BytesOk l) (hl : l.length ≤ 65535) (ht : vtake l = some (k, r)) (hp : (prt k).2 = false) :
    Calls Tryd.prog 18 #[v] w fun e w' => RdOut (none, [], 4) e w' ∧ Below w.heap.size w w' := by
  have hO0 := Blk.new w 28 #[.int .u64 0, .int .u64 0, .int .u64 0, .slice none 0 0, .int .u8 0, .int .u8 0, .int .u64 0, .int .u64 0, .int .u64 0, .int .u64 0, .bool false, .int .u64 0, .slice none 0 0, .int .u64 0, .int .u64 0, .slice none 0 0]
  have hB0 : Below w.heap.size w (w.alloc (.cells #[.int .u64 0, .int .u64 0, .int .u64 0, .slice none 0 0, .int .u8 0, .int .u8 0, .int .u64 0, .int .u64 0, .int .u64 0, .int .u64 0, .bool false, .int .u64 0, .slice none 0 0, .int .u64 0, .int .u64 0, .slice none 0 0] 28)) := (Below.refl _ _).alloc (Nat.le_refl _) _
  have hr0 := (hr.below hB0).1
  have hkk := (vtake_rest hk ht).2.2
  have hsh := rshape_all k
  go_enter Tryd.func18, Tryd.ntmps18
  go_wp2_with fail
  (with_reducible refine (rtake_some v l k r _ hr0 hk (by omega) ht).mono ?_)
  rintro e w1 ⟨u, rfl, ho1, hb1⟩
  have hr1 := rdt_of_own ho1
  obtain ⟨A1, c1, rfl⟩ := hr1.form
  have hO1 := hO0.same hb1
  have hB1 := hB0.trans (hb1.mono hB0.size)
  clear hO0 hB0 hr0 hb1 ho1 hr
  go_wp2_with fail
  (with_reducible refine (hsh _).mono ?_)
  clear hsh
  rintro e w2 ⟨rfl, rfl⟩
  rw [(dash k).2 hp]
  go_wp2_with (first | (refine wpList_store_row rfl _ _ _ rfl w.heap.size #[.int .u64 0, .int .u64 0, .int .u64 0, .slice none 0 0, .int .u8 0, .int .u8 0, .int .u64 0, .int .u64 0, .int .u64 0, .int .u64 0, .bool false, .int .u64 0, .slice none 0 0, .int .u64 0, .int .u64 0, .slice none 0 0] rfl rfl 28 #[.int .u64 0, .int .u64 0, .int .u64 0, .slice none 0 0, .int .u8 0, .int .u8 0, .int .u64 0, .int .u64 0, .int .u64 0, .int .u64 0, .bool false, .int .u64 0, .slice none 0 0, .int .u64 0, .int .u64 0, .slice none 0 0] hO1 (by rw [infoR28]; rfl) rfl za_one ?_) | fail)
  refine bodyPost_ret (v := .tuple #[.agg #[.int .u64 0, .int .u64 0, .int .u64 0, .slice none 0 0, .int .u8 0, .int .u8 0, .int .u64 0, .int .u64 0, .int .u64 0, .int .u64 0, .bool false, .int .u64 0, .slice none 0 0, .int .u64 0, .int .u64 0, .slice none 0 0], .slice none 0 0, .int .i64 4]) (by exact results_row3 Tryd.results18 _ _ rfl (Blk.row hO1 #[.int .u64 0, .int .u64 0, .int .u64 0, .slice none 0 0, .int .u8 0, .int .u8 0, .int .u64 0, .int .u64 0, .int .u64 0, .int .u64 0, .bool false, .int .u64 0, .slice none 0 0, .int .u64 0, .int .u64 0, .slice none 0 0]) Tryd.underlying28 rfl (by rw [infoR28]; rfl)) rfl ?_
  have hBf := below_row hB1 (Nat.le_refl w.heap.size) #[.int .u64 0, .int .u64 0, .int .u64 0, .slice none 0 0, .int .u8 0, .int .u8 0, .int .u64 0, .int .u64 0, .int .u64 0, .int .u64 0, .bool false, .int .u64 0, .slice none 0 0, .int .u64 0, .int .u64 0, .slice none 0 0]
  exact ⟨⟨.slice none 0 0, .slice none 0 0, .slice none 0 0, .slice none 0 0, rfl, Rd.nil _ _, Rd.nil _ _, Rd.nil _ _, Rd.nil _ _⟩, hBf⟩
set_option maxHeartbeats 4000000 in
set_option maxRecDepth 100000 in
theorem rread_two (v : Value) (l r : List Int) (k : Int) (w : World) (hr : RdT w v l) (hk : BytesOk l) (hl : l.length ≤ 65535) (ht : vtake l = some (k, r)) (hp : (prt k).2 = true) (hr2 : r.length < 2) :
    Calls Tryd.prog 18 #[v] w fun e w' => RdOut (none, [], 2) e w' ∧ Below w.heap.size w w' := by
  have hnd : sbs (shK k) ≠ ⟨#[45]⟩ := fun e => by rw [(dash k).1 e] at hp; cases hp
  have hstr : ((sbs (shK k)).toList == [45]) = false := str_ne hnd
  have hd2 : decide ((r.length : Int) < 2) = true := decide_eq_true (by omega)
  have hO0 := Blk.new w 28 #[.int .u64 0, .int .u64 0, .int .u64 0, .slice none 0 0, .int .u8 0, .int .u8 0, .int .u64 0, .int .u64 0, .int .u64 0, .int .u64 0, .bool false, .int .u64 0, .slice none 0 0, .int .u64 0, .int .u64 0, .slice none 0 0]
  have hB0 : Below w.heap.size w (w.alloc (.cells #[.int .u64 0, .int .u64 0, .int .u64 0, .slice none 0 0, .int .u8 0, .int .u8 0, .int .u64 0, .int .u64 0, .int .u64 0, .int .u64 0, .bool false, .int .u64 0, .slice none 0 0, .int .u64 0, .int .u64 0, .slice none 0 0] 28)) := (Below.refl _ _).alloc (Nat.le_refl _) _
  have hr0 := (hr.below hB0).1
  have hkk := (vtake_rest hk ht).2.2
  have hsh := rshape_all k
  go_enter Tryd.func18, Tryd.ntmps18
  go_wp2_with fail
  (with_reducible refine (rtake_some v l k r _ hr0 hk (by omega) ht).mono ?_)
  rintro e w1 ⟨u, rfl, ho1, hb1⟩
  have hr1 := rdt_of_own ho1
  obtain ⟨A1, c1, rfl⟩ := hr1.form
  have hO1 := hO0.same hb1
  have hB1 := hB0.trans (hb1.mono hB0.size)
  clear hO0 hB0 hr0 hb1 ho1 hr
  go_wp2_with fail
  (with_reducible refine (hsh _).mono ?_)
  clear hsh
  rintro e w2 ⟨rfl, rfl⟩
  go_wp2_with (first | (refine wpList_store_row rfl _ _ _ rfl w.heap.size #[.int .u64 0, .int .u64 0, .int .u64 0, .slice none 0 0, .int .u8 0, .int .u8 0, .int .u64 0, .int .u64 0, .int .u64 0, .int .u64 0, .bool false, .int .u64 0, .slice none 0 0, .int .u64 0, .int .u64 0, .slice none 0 0] rfl rfl 28 #[.int .u64 0, .int .u64 0, .int .u64 0, .slice none 0 0, .int .u8 0, .int .u8 0, .int .u64 0, .int .u64 0, .int .u64 0, .int .u64 0, .bool false, .int .u64 0, .slice none 0 0, .int .u64 0, .int .u64 0, .slice none 0 0] hO1 (by rw [infoR28]; rfl) rfl za_one ?_) | fail)
  refine bodyPost_ret (v := .tuple #[.agg #[.int .u64 0, .int .u64 0, .int .u64 0, .slice none 0 0, .int .u8 0, .int .u8 0, .int .u64 0, .int .u64 0, .int .u64 0, .int .u64 0, .bool false, .int .u64 0, .slice none 0 0, .int .u64 0, .int .u64 0, .slice none 0 0], .slice none 0 0, .int .i64 2]) (by exact results_row3 Tryd.results18 _ _ rfl (Blk.row hO1 #[.int .u64 0, .int .u64 0, .int .u64 0, .slice none 0 0, .int .u8 0, .int .u8 0, .int .u64 0, .int .u64 0, .int .u64 0, .int .u64 0, .bool false, .int .u64 0, .slice none 0 0, .int .u64 0, .int .u64 0, .slice none 0 0]) Tryd.underlying28 rfl (by rw [infoR28]; rfl)) rfl ?_
  have hBf := below_row hB1 (Nat.le_refl w.heap.size) #[.int .u64 0, .int .u64 0, .int .u64 0, .slice none 0 0, .int .u8 0, .int .u8 0, .int .u64 0, .int .u64 0, .int .u64 0, .int .u64 0, .bool false, .int .u64 0, .slice none 0 0, .int .u64 0, .int .u64 0, .slice none 0 0]
  exact ⟨⟨.slice none 0 0, .slice none 0 0, .slice none 0 0, .slice none 0 0, rfl, Rd.nil _ _, Rd.nil _ _, Rd.nil _ _, Rd.nil _ _⟩, hBf⟩
set_option maxHeartbeats 4000000 in
set_option maxRecDepth 100000 in
theorem rread_short (v : Value) (l q : List Int) (k a b : Int) (w : World) (hr : RdT w v l) (hk : BytesOk l) (hl : l.length ≤ 65535) (ht : vtake l = some (k, a :: b :: q)) (ha : 0 ≤ a ∧ a ≤ 255) (hb : 0 ≤ b ∧ b ≤ 255) (hp : (prt k).2 = true) (hsh2 : (q.length : Int) < 256 * a + b) :
    Calls Tryd.prog 18 #[v] w fun e w' => RdOut (none, [], 2) e w' ∧ Below w.heap.size w w' := by
  have hnd : sbs (shK k) ≠ ⟨#[45]⟩ := fun e => by rw [(dash k).1 e] at hp; cases hp
  have hstr : ((sbs (shK k)).toList == [45]) = false := str_ne hnd
  have hql := (vtake_rest hk ht).2.1
  simp only [List.length_cons] at hql
  obtain ⟨N, hN⟩ := Int.eq_ofNat_of_zero_le (show 0 ≤ 256 * a + b by omega)
  have h2i : decide ((q.length : Int) + 1 + 1 < 2) = false := decide_eq_false (by omega)
  have hdn : decide ((q.length : Int) + 1 + 1 < 2 + (256 * a + b)) = true := decide_eq_true (by omega)
  have hO0 := Blk.new w 28 #[.int .u64 0, .int .u64 0, .int .u64 0, .slice none 0 0, .int .u8 0, .int .u8 0, .int .u64 0, .int .u64 0, .int .u64 0, .int .u64 0, .bool false, .int .u64 0, .slice none 0 0, .int .u64 0, .int .u64 0, .slice none 0 0]
  have hB0 : Below w.heap.size w (w.alloc (.cells #[.int .u64 0, .int .u64 0, .int .u64 0, .slice none 0 0, .int .u8 0, .int .u8 0, .int .u64 0, .int .u64 0, .int .u64 0, .int .u64 0, .bool false, .int .u64 0, .slice none 0 0, .int .u64 0, .int .u64 0, .slice none 0 0] 28)) := (Below.refl _ _).alloc (Nat.le_refl _) _
  have hr0 := (hr.below hB0).1
  have hkk := (vtake_rest hk ht).2.2
  have hsh := rshape_all k
  go_enter Tryd.func18, Tryd.ntmps18
  go_wp2_with fail
  (with_reducible refine (rtake_some v l k (a :: b :: q) _ hr0 hk (by omega) ht).mono ?_)
  rintro e w1 ⟨u, rfl, ho1, hb1⟩
  have hr1 := rdt_of_own ho1
  obtain ⟨A1, c1, rfl⟩ := hr1.form
  have hO1 := hO0.same hb1
  have hB1 := hB0.trans (hb1.mono hB0.size)
  clear hO0 hB0 hr0 hb1 ho1 hr
  go_wp2_with fail
  (with_reducible refine (hsh _).mono ?_)
  clear hsh
  rintro e w2 ⟨rfl, rfl⟩
  obtain ⟨g, off, rfl, _, d0⟩ := hr1.1.at_ 0 (by simp)
  obtain ⟨g', off', e', _, d1⟩ := hr1.1.at_ 1 (by simp)
  simp only [Option.some.injEq, Addr.mk.injEq, and_true] at e'
  obtain ⟨rfl, rfl⟩ := e'
  simp only [Nat.add_zero, List.getD_cons_zero, List.getD_cons_succ] at d0 d1
  go_wp2_with fail
  have Cd0 := Cls.cells d0 (World.block_lt_of_cell? _ _ d0)
  have Cd1 := Cls.cells d1 (World.block_lt_of_cell? _ _ d1)
  refine wp_region_cls (by kernel_rfl) (by kernel_rfl) ?_
  repeat (go_big_quiet_step (fail))
  refine wpQuiet_nil ?_
  intro w3 hb3
  have d0 := keepB_cell d0 w3 hb3
  have d1 := keepB_cell d1 w3 hb3
  clear Cd0 Cd1
  have hO3 := hO1.same hb3
  have hB3 := hB1.trans (hb3.mono hB1.size)
  clear hO1 hB1 hb3 hr1 d0 d1
  go_wp2_with (first | (refine wpList_store_row rfl _ _ _ rfl w.heap.size #[.int .u64 0, .int .u64 0, .int .u64 0, .slice none 0 0, .int .u8 0, .int .u8 0, .int .u64 0, .int .u64 0, .int .u64 0, .int .u64 0, .bool false, .int .u64 0, .slice none 0 0, .int .u64 0, .int .u64 0, .slice none 0 0] rfl rfl 28 #[.int .u64 0, .int .u64 0, .int .u64 0, .slice none 0 0, .int .u8 0, .int .u8 0, .int .u64 0, .int .u64 0, .int .u64 0, .int .u64 0, .bool false, .int .u64 0, .slice none 0 0, .int .u64 0, .int .u64 0, .slice none 0 0] hO3 (by rw [infoR28]; rfl) rfl za_one ?_) | fail)
  refine bodyPost_ret (v := .tuple #[.agg #[.int .u64 0, .int .u64 0, .int .u64 0, .slice none 0 0, .int .u8 0, .int .u8 0, .int .u64 0, .int .u64 0, .int .u64 0, .int .u64 0, .bool false, .int .u64 0, .slice none 0 0, .int .u64 0, .int .u64 0, .slice none 0 0], .slice none 0 0, .int .i64 2]) (by exact results_row3 Tryd.results18 _ _ rfl (Blk.row hO3 #[.int .u64 0, .int .u64 0, .int .u64 0, .slice none 0 0, .int .u8 0, .int .u8 0, .int .u64 0, .int .u64 0, .int .u64 0, .int .u64 0, .bool false, .int .u64 0, .slice none 0 0, .int .u64 0, .int .u64 0, .slice none 0 0]) Tryd.underlying28 rfl (by rw [infoR28]; rfl)) rfl ?_
  have hBf := below_row hB3 (Nat.le_refl w.heap.size) #[.int .u64 0, .int .u64 0, .int .u64 0, .slice none 0 0, .int .u8 0, .int .u8 0, .int .u64 0, .int .u64 0, .int .u64 0, .int .u64 0, .bool false, .int .u64 0, .slice none 0 0, .int .u64 0, .int .u64 0, .slice none 0 0]
  exact ⟨⟨.slice none 0 0, .slice none 0 0, .slice none 0 0, .slice none 0 0, rfl, Rd.nil _ _, Rd.nil _ _, Rd.nil _ _, Rd.nil _ _⟩, hBf⟩

end Go.Proofs.YtjijmbpgfabgcaaDoor
