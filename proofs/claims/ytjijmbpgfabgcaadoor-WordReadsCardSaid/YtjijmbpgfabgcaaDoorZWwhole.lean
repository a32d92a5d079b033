/-
  What whole of a message's bytes gives: the walk. No condition.
-/
import Derived.Test.YtjijmbpgfabgcaaDoorZL
import Derived.Deep.CutBlock
namespace Go.Proofs.YtjijmbpgfabgcaaDoor
open Go.RowKit
set_option linter.unusedVariables false
set_option linter.unusedSimpArgs false

set_option maxHeartbeats 4000000 in
set_option maxRecDepth 100000 in
theorem whole_none (kd P : Int) (v : Value) (l : List Int) (w : World) (hP : P ∈ SH) (hr : RdT w v l) (hk : BytesOk l) (hl : l.length ≤ 1000000) (hn : parse (shP P) (M.nil kd) l = none) :
    Calls Tryd.prog 35 #[.int .u64 kd, .int .i64 P, v] w fun e w' => WOut none e w' ∧ Below w.heap.size w w' := by
  obtain ⟨A, cap, rfl⟩ := hr.form
  have hmf : ∀ (fn : Fn) (first cap : Array Value) (w : World), (Instr.makeFunc fn first cap).run Tryd.prog w = .ok (.func fn first cap) w := fun _ _ _ _ => rfl
  have hO0 := Blk.new w 31 #[.int .u64 kd, .int .u64 0, .int .u64 0, .slice none 0 0, .int .u8 0, .int .u8 0, .int .u64 0, .int .u64 0, .int .u64 0, .int .u64 0, .bool false, .int .u64 0, .slice none 0 0, .int .u64 0, .int .u64 0, .slice none 0 0]
  have hE0 := Blk.new (w.alloc (.cells #[.int .u64 kd, .int .u64 0, .int .u64 0, .slice none 0 0, .int .u8 0, .int .u8 0, .int .u64 0, .int .u64 0, .int .u64 0, .int .u64 0, .bool false, .int .u64 0, .slice none 0 0, .int .u64 0, .int .u64 0, .slice none 0 0] 31)) 32 #[.int .i64 0]
  have hQ0 := Blk.new ((w.alloc (.cells #[.int .u64 kd, .int .u64 0, .int .u64 0, .slice none 0 0, .int .u8 0, .int .u8 0, .int .u64 0, .int .u64 0, .int .u64 0, .int .u64 0, .bool false, .int .u64 0, .slice none 0 0, .int .u64 0, .int .u64 0, .slice none 0 0] 31)).alloc (.cells #[.int .i64 0] 32)) 95 #[.slice A l.length cap]
  have hO1 := (hO0.alloc (.cells #[.int .i64 0] 32)).alloc (.cells #[.slice A l.length cap] 95)
  rw [show (w.alloc (.cells #[.int .u64 kd, .int .u64 0, .int .u64 0, .slice none 0 0, .int .u8 0, .int .u8 0, .int .u64 0, .int .u64 0, .int .u64 0, .int .u64 0, .bool false, .int .u64 0, .slice none 0 0, .int .u64 0, .int .u64 0, .slice none 0 0] 31)).heap.size = w.heap.size + 1 by simp] at hE0
  rw [show ((w.alloc (.cells #[.int .u64 kd, .int .u64 0, .int .u64 0, .slice none 0 0, .int .u8 0, .int .u8 0, .int .u64 0, .int .u64 0, .int .u64 0, .int .u64 0, .bool false, .int .u64 0, .slice none 0 0, .int .u64 0, .int .u64 0, .slice none 0 0] 31)).alloc (.cells #[.int .i64 0] 32)).heap.size = w.heap.size + 1 + 1 by simp] at hQ0
  have hE1 := hE0.alloc (.cells #[.slice A l.length cap] 95)
  have hb1 : Below w.heap.size w (((w.alloc (.cells #[.int .u64 kd, .int .u64 0, .int .u64 0, .slice none 0 0, .int .u8 0, .int .u8 0, .int .u64 0, .int .u64 0, .int .u64 0, .int .u64 0, .bool false, .int .u64 0, .slice none 0 0, .int .u64 0, .int .u64 0, .slice none 0 0] 31)).alloc (.cells #[.int .i64 0] 32)).alloc (.cells #[.slice A l.length cap] 95)) := (((Below.refl w.heap.size w).alloc (Nat.le_refl _) _).alloc (by simp) _).alloc (by simp; omega) _
  have hr1 := hr.below hb1
  have hM1 : MB w.heap.size (((w.alloc (.cells #[.int .u64 kd, .int .u64 0, .int .u64 0, .slice none 0 0, .int .u8 0, .int .u8 0, .int .u64 0, .int .u64 0, .int .u64 0, .int .u64 0, .bool false, .int .u64 0, .slice none 0 0, .int .u64 0, .int .u64 0, .slice none 0 0] 31)).alloc (.cells #[.int .i64 0] 32)).alloc (.cells #[.slice A l.length cap] 95)) w.heap.size (M.nil kd) := ⟨Nat.le_refl _, .slice none 0 0, .slice none 0 0, .slice none 0 0, hO1, RdT.nil _, RdT.nil _, World.ownsRow_nil _ _ _ _⟩
  have hY1 : Eye w.heap.size (((w.alloc (.cells #[.int .u64 kd, .int .u64 0, .int .u64 0, .slice none 0 0, .int .u8 0, .int .u8 0, .int .u64 0, .int .u64 0, .int .u64 0, .int .u64 0, .bool false, .int .u64 0, .slice none 0 0, .int .u64 0, .int .u64 0, .slice none 0 0] 31)).alloc (.cells #[.int .i64 0] 32)).alloc (.cells #[.slice A l.length cap] 95)) (w.heap.size + 1 + 1) l := ⟨by omega, _, hQ0, hr1⟩
  have hfl := yf_all w.heap.size (w.heap.size + 1 + 1) w.heap.size P kd l _ hP hY1 hM1 hb1.size hk hl
  obtain ⟨o, ho⟩ : ∃ o, o = parse (shP P) (M.nil kd) l := ⟨_, rfl⟩
  rw [← ho] at hfl
  have HO := Lib.hid ho
  clear ho
  have hno : o = none := by rw [HO.out, hn]
  subst hno
  go_enter_defers Tryd.func35, Tryd.ntmps35
  go_wp2_with fail
  (with_reducible refine hfl.mono ?_)
  clear hfl
  rintro e w2 ⟨⟨rfl, cs, hO3, hcs⟩, hK3⟩
  have hE3 := hK3.kept hE1 (by decide) (by decide) (by decide)
  go_wp2_with fail
  refine leaves_cons (f := 51) (args := #[.pointer (some ⟨w.heap.size, 0, none⟩), .pointer (some ⟨w.heap.size + 1, 0, none⟩)]) (by simp) (by simp [go_sem]) ?_
  refine (catch_unfit w.heap.size w.heap.size (w.heap.size + 1) cs _ w2 hO3 hcs hE3 hK3.sz (Nat.le_refl _) (Nat.le_succ _)).mono ?_
  rintro e u' w3 ⟨rfl, rfl, hO4, hE4, hB4⟩
  have hB := hK3.1.trans hB4
  have hB1 := hb1.trans hB
  have y0 : w3.cell? ⟨w.heap.size, 0, none⟩ = some (.int .u64 0) := hO4.cell 0
  have y1 : w3.cell? ⟨w.heap.size, 1, none⟩ = some (.int .u64 0) := hO4.cell 1
  have y2 : w3.cell? ⟨w.heap.size, 2, none⟩ = some (.int .u64 0) := hO4.cell 2
  have y3 : w3.cell? ⟨w.heap.size, 3, none⟩ = some (.slice none 0 0) := hO4.cell 3
  have y4 : w3.cell? ⟨w.heap.size, 4, none⟩ = some (.int .u8 0) := hO4.cell 4
  have y5 : w3.cell? ⟨w.heap.size, 5, none⟩ = some (.int .u8 0) := hO4.cell 5
  have y6 : w3.cell? ⟨w.heap.size, 6, none⟩ = some (.int .u64 0) := hO4.cell 6
  have y7 : w3.cell? ⟨w.heap.size, 7, none⟩ = some (.int .u64 0) := hO4.cell 7
  have y8 : w3.cell? ⟨w.heap.size, 8, none⟩ = some (.int .u64 0) := hO4.cell 8
  have y9 : w3.cell? ⟨w.heap.size, 9, none⟩ = some (.int .u64 0) := hO4.cell 9
  have y10 : w3.cell? ⟨w.heap.size, 10, none⟩ = some (.bool false) := hO4.cell 10
  have y11 : w3.cell? ⟨w.heap.size, 11, none⟩ = some (.int .u64 0) := hO4.cell 11
  have y12 : w3.cell? ⟨w.heap.size, 12, none⟩ = some (.slice none 0 0) := hO4.cell 12
  have y13 : w3.cell? ⟨w.heap.size, 13, none⟩ = some (.int .u64 0) := hO4.cell 13
  have y14 : w3.cell? ⟨w.heap.size, 14, none⟩ = some (.int .u64 0) := hO4.cell 14
  have y15 : w3.cell? ⟨w.heap.size, 15, none⟩ = some (.slice none 0 0) := hO4.cell 15
  have ye : w3.cell? ⟨w.heap.size + 1, 0, none⟩ = some (.int .i64 4) := hE4.cell 0
  simp [Leaves, settle, results, Tryd.results35, go_sem, y0, y1, y2, y3, y4, y5, y6, y7, y8, y9, y10, y11, y12, y13, y14, y15, ye]
  exact ⟨rfl, hB1⟩
set_option maxHeartbeats 4000000 in
set_option maxRecDepth 100000 in
theorem whole_more (kd P : Int) (v : Value) (l : List Int) (y : M) (x : Int) (r : List Int) (w : World) (hP : P ∈ SH) (hr : RdT w v l) (hk : BytesOk l) (hl : l.length ≤ 1000000) (hn : parse (shP P) (M.nil kd) l = some (y, x :: r)) :
    Calls Tryd.prog 35 #[.int .u64 kd, .int .i64 P, v] w fun e w' => WOut none e w' ∧ Below w.heap.size w w' := by
  obtain ⟨A, cap, rfl⟩ := hr.form
  have hmf : ∀ (fn : Fn) (first cap : Array Value) (w : World), (Instr.makeFunc fn first cap).run Tryd.prog w = .ok (.func fn first cap) w := fun _ _ _ _ => rfl
  have hO0 := Blk.new w 31 #[.int .u64 kd, .int .u64 0, .int .u64 0, .slice none 0 0, .int .u8 0, .int .u8 0, .int .u64 0, .int .u64 0, .int .u64 0, .int .u64 0, .bool false, .int .u64 0, .slice none 0 0, .int .u64 0, .int .u64 0, .slice none 0 0]
  have hE0 := Blk.new (w.alloc (.cells #[.int .u64 kd, .int .u64 0, .int .u64 0, .slice none 0 0, .int .u8 0, .int .u8 0, .int .u64 0, .int .u64 0, .int .u64 0, .int .u64 0, .bool false, .int .u64 0, .slice none 0 0, .int .u64 0, .int .u64 0, .slice none 0 0] 31)) 32 #[.int .i64 0]
  have hQ0 := Blk.new ((w.alloc (.cells #[.int .u64 kd, .int .u64 0, .int .u64 0, .slice none 0 0, .int .u8 0, .int .u8 0, .int .u64 0, .int .u64 0, .int .u64 0, .int .u64 0, .bool false, .int .u64 0, .slice none 0 0, .int .u64 0, .int .u64 0, .slice none 0 0] 31)).alloc (.cells #[.int .i64 0] 32)) 95 #[.slice A l.length cap]
  have hO1 := (hO0.alloc (.cells #[.int .i64 0] 32)).alloc (.cells #[.slice A l.length cap] 95)
  rw [show (w.alloc (.cells #[.int .u64 kd, .int .u64 0, .int .u64 0, .slice none 0 0, .int .u8 0, .int .u8 0, .int .u64 0, .int .u64 0, .int .u64 0, .int .u64 0, .bool false, .int .u64 0, .slice none 0 0, .int .u64 0, .int .u64 0, .slice none 0 0] 31)).heap.size = w.heap.size + 1 by simp] at hE0
  rw [show ((w.alloc (.cells #[.int .u64 kd, .int .u64 0, .int .u64 0, .slice none 0 0, .int .u8 0, .int .u8 0, .int .u64 0, .int .u64 0, .int .u64 0, .int .u64 0, .bool false, .int .u64 0, .slice none 0 0, .int .u64 0, .int .u64 0, .slice none 0 0] 31)).alloc (.cells #[.int .i64 0] 32)).heap.size = w.heap.size + 1 + 1 by simp] at hQ0
  have hE1 := hE0.alloc (.cells #[.slice A l.length cap] 95)
  have hb1 : Below w.heap.size w (((w.alloc (.cells #[.int .u64 kd, .int .u64 0, .int .u64 0, .slice none 0 0, .int .u8 0, .int .u8 0, .int .u64 0, .int .u64 0, .int .u64 0, .int .u64 0, .bool false, .int .u64 0, .slice none 0 0, .int .u64 0, .int .u64 0, .slice none 0 0] 31)).alloc (.cells #[.int .i64 0] 32)).alloc (.cells #[.slice A l.length cap] 95)) := (((Below.refl w.heap.size w).alloc (Nat.le_refl _) _).alloc (by simp) _).alloc (by simp; omega) _
  have hr1 := hr.below hb1
  have hM1 : MB w.heap.size (((w.alloc (.cells #[.int .u64 kd, .int .u64 0, .int .u64 0, .slice none 0 0, .int .u8 0, .int .u8 0, .int .u64 0, .int .u64 0, .int .u64 0, .int .u64 0, .bool false, .int .u64 0, .slice none 0 0, .int .u64 0, .int .u64 0, .slice none 0 0] 31)).alloc (.cells #[.int .i64 0] 32)).alloc (.cells #[.slice A l.length cap] 95)) w.heap.size (M.nil kd) := ⟨Nat.le_refl _, .slice none 0 0, .slice none 0 0, .slice none 0 0, hO1, RdT.nil _, RdT.nil _, World.ownsRow_nil _ _ _ _⟩
  have hY1 : Eye w.heap.size (((w.alloc (.cells #[.int .u64 kd, .int .u64 0, .int .u64 0, .slice none 0 0, .int .u8 0, .int .u8 0, .int .u64 0, .int .u64 0, .int .u64 0, .int .u64 0, .bool false, .int .u64 0, .slice none 0 0, .int .u64 0, .int .u64 0, .slice none 0 0] 31)).alloc (.cells #[.int .i64 0] 32)).alloc (.cells #[.slice A l.length cap] 95)) (w.heap.size + 1 + 1) l := ⟨by omega, _, hQ0, hr1⟩
  have hfl := yf_all w.heap.size (w.heap.size + 1 + 1) w.heap.size P kd l _ hP hY1 hM1 hb1.size hk hl
  obtain ⟨o, ho⟩ : ∃ o, o = parse (shP P) (M.nil kd) l := ⟨_, rfl⟩
  rw [← ho] at hfl
  have HO := Lib.hid ho
  clear ho
  have hno : o = some (y, x :: r) := by rw [HO.out, hn]
  subst hno
  go_enter_defers Tryd.func35, Tryd.ntmps35
  go_wp2_with fail
  (with_reducible refine hfl.mono ?_)
  clear hfl
  rintro e w2 ⟨⟨rfl, hY3, hM3⟩, hK3⟩
  have hE3 := hK3.kept hE1 (by decide) (by decide) (by decide)
  obtain ⟨_, yv, hQ3, hyr⟩ := hY3
  obtain ⟨_, nv, rv, vv, hO3, hn3, hr3, ho3⟩ := hM3
  obtain ⟨yA, yc, rfl⟩ := hyr.form
  have cq : w2.cell? ⟨w.heap.size + 1 + 1, 0, none⟩ = some (.slice yA (x :: r).length yc) := hQ3.cell 0
  have hsz3 := hK3.sz
  have hb3 := hb1.trans hK3.1
  rw [List.length_cons] at cq
  go_wp2_with fail
  (with_reducible refine (must_no w2).mono ?_)
  rintro e w2' ⟨rfl, rfl⟩
  go_wp2_with fail
  refine leaves_cons (f := 51) (args := #[.pointer (some ⟨w.heap.size, 0, none⟩), .pointer (some ⟨w.heap.size + 1, 0, none⟩)]) (by simp) (by simp [go_sem]) ?_
  refine (catch_unfit w.heap.size w.heap.size (w.heap.size + 1) _ _ w2 hO3 rfl hE3 hsz3 (Nat.le_refl _) (Nat.le_succ _)).mono ?_
  rintro e u' w3 ⟨rfl, rfl, hO4, hE4, hB4⟩
  have hB1 := hb3.trans hB4
  have y0 : w3.cell? ⟨w.heap.size, 0, none⟩ = some (.int .u64 0) := hO4.cell 0
  have y1 : w3.cell? ⟨w.heap.size, 1, none⟩ = some (.int .u64 0) := hO4.cell 1
  have y2 : w3.cell? ⟨w.heap.size, 2, none⟩ = some (.int .u64 0) := hO4.cell 2
  have y3 : w3.cell? ⟨w.heap.size, 3, none⟩ = some (.slice none 0 0) := hO4.cell 3
  have y4 : w3.cell? ⟨w.heap.size, 4, none⟩ = some (.int .u8 0) := hO4.cell 4
  have y5 : w3.cell? ⟨w.heap.size, 5, none⟩ = some (.int .u8 0) := hO4.cell 5
  have y6 : w3.cell? ⟨w.heap.size, 6, none⟩ = some (.int .u64 0) := hO4.cell 6
  have y7 : w3.cell? ⟨w.heap.size, 7, none⟩ = some (.int .u64 0) := hO4.cell 7
  have y8 : w3.cell? ⟨w.heap.size, 8, none⟩ = some (.int .u64 0) := hO4.cell 8
  have y9 : w3.cell? ⟨w.heap.size, 9, none⟩ = some (.int .u64 0) := hO4.cell 9
  have y10 : w3.cell? ⟨w.heap.size, 10, none⟩ = some (.bool false) := hO4.cell 10
  have y11 : w3.cell? ⟨w.heap.size, 11, none⟩ = some (.int .u64 0) := hO4.cell 11
  have y12 : w3.cell? ⟨w.heap.size, 12, none⟩ = some (.slice none 0 0) := hO4.cell 12
  have y13 : w3.cell? ⟨w.heap.size, 13, none⟩ = some (.int .u64 0) := hO4.cell 13
  have y14 : w3.cell? ⟨w.heap.size, 14, none⟩ = some (.int .u64 0) := hO4.cell 14
  have y15 : w3.cell? ⟨w.heap.size, 15, none⟩ = some (.slice none 0 0) := hO4.cell 15
  have ye : w3.cell? ⟨w.heap.size + 1, 0, none⟩ = some (.int .i64 4) := hE4.cell 0
  simp [Leaves, settle, results, Tryd.results35, go_sem, y0, y1, y2, y3, y4, y5, y6, y7, y8, y9, y10, y11, y12, y13, y14, y15, ye]
  exact ⟨rfl, hB1⟩
set_option maxHeartbeats 4000000 in
set_option maxRecDepth 100000 in
theorem whole_wrong (kd P : Int) (v : Value) (l : List Int) (y : M) (w : World) (hG : Glob w) (hP : P ∈ SH) (hr : RdT w v l) (hk : BytesOk l) (hl : l.length ≤ 1000000) (hn : parse (shP P) (M.nil kd) l = some (y, [])) (hy : y.Ok) (hyf : y.Fit) (hrt : rt y = false) :
    Calls Tryd.prog 35 #[.int .u64 kd, .int .i64 P, v] w fun e w' => WOut none e w' ∧ Below w.heap.size w w' := by
  obtain ⟨A, cap, rfl⟩ := hr.form
  have hmf : ∀ (fn : Fn) (first cap : Array Value) (w : World), (Instr.makeFunc fn first cap).run Tryd.prog w = .ok (.func fn first cap) w := fun _ _ _ _ => rfl
  have hO0 := Blk.new w 31 #[.int .u64 kd, .int .u64 0, .int .u64 0, .slice none 0 0, .int .u8 0, .int .u8 0, .int .u64 0, .int .u64 0, .int .u64 0, .int .u64 0, .bool false, .int .u64 0, .slice none 0 0, .int .u64 0, .int .u64 0, .slice none 0 0]
  have hE0 := Blk.new (w.alloc (.cells #[.int .u64 kd, .int .u64 0, .int .u64 0, .slice none 0 0, .int .u8 0, .int .u8 0, .int .u64 0, .int .u64 0, .int .u64 0, .int .u64 0, .bool false, .int .u64 0, .slice none 0 0, .int .u64 0, .int .u64 0, .slice none 0 0] 31)) 32 #[.int .i64 0]
  have hQ0 := Blk.new ((w.alloc (.cells #[.int .u64 kd, .int .u64 0, .int .u64 0, .slice none 0 0, .int .u8 0, .int .u8 0, .int .u64 0, .int .u64 0, .int .u64 0, .int .u64 0, .bool false, .int .u64 0, .slice none 0 0, .int .u64 0, .int .u64 0, .slice none 0 0] 31)).alloc (.cells #[.int .i64 0] 32)) 95 #[.slice A l.length cap]
  have hO1 := (hO0.alloc (.cells #[.int .i64 0] 32)).alloc (.cells #[.slice A l.length cap] 95)
  rw [show (w.alloc (.cells #[.int .u64 kd, .int .u64 0, .int .u64 0, .slice none 0 0, .int .u8 0, .int .u8 0, .int .u64 0, .int .u64 0, .int .u64 0, .int .u64 0, .bool false, .int .u64 0, .slice none 0 0, .int .u64 0, .int .u64 0, .slice none 0 0] 31)).heap.size = w.heap.size + 1 by simp] at hE0
  rw [show ((w.alloc (.cells #[.int .u64 kd, .int .u64 0, .int .u64 0, .slice none 0 0, .int .u8 0, .int .u8 0, .int .u64 0, .int .u64 0, .int .u64 0, .int .u64 0, .bool false, .int .u64 0, .slice none 0 0, .int .u64 0, .int .u64 0, .slice none 0 0] 31)).alloc (.cells #[.int .i64 0] 32)).heap.size = w.heap.size + 1 + 1 by simp] at hQ0
  have hE1 := hE0.alloc (.cells #[.slice A l.length cap] 95)
  have hb1 : Below w.heap.size w (((w.alloc (.cells #[.int .u64 kd, .int .u64 0, .int .u64 0, .slice none 0 0, .int .u8 0, .int .u8 0, .int .u64 0, .int .u64 0, .int .u64 0, .int .u64 0, .bool false, .int .u64 0, .slice none 0 0, .int .u64 0, .int .u64 0, .slice none 0 0] 31)).alloc (.cells #[.int .i64 0] 32)).alloc (.cells #[.slice A l.length cap] 95)) := (((Below.refl w.heap.size w).alloc (Nat.le_refl _) _).alloc (by simp) _).alloc (by simp; omega) _
  have hr1 := hr.below hb1
  have hM1 : MB w.heap.size (((w.alloc (.cells #[.int .u64 kd, .int .u64 0, .int .u64 0, .slice none 0 0, .int .u8 0, .int .u8 0, .int .u64 0, .int .u64 0, .int .u64 0, .int .u64 0, .bool false, .int .u64 0, .slice none 0 0, .int .u64 0, .int .u64 0, .slice none 0 0] 31)).alloc (.cells #[.int .i64 0] 32)).alloc (.cells #[.slice A l.length cap] 95)) w.heap.size (M.nil kd) := ⟨Nat.le_refl _, .slice none 0 0, .slice none 0 0, .slice none 0 0, hO1, RdT.nil _, RdT.nil _, World.ownsRow_nil _ _ _ _⟩
  have hY1 : Eye w.heap.size (((w.alloc (.cells #[.int .u64 kd, .int .u64 0, .int .u64 0, .slice none 0 0, .int .u8 0, .int .u8 0, .int .u64 0, .int .u64 0, .int .u64 0, .int .u64 0, .bool false, .int .u64 0, .slice none 0 0, .int .u64 0, .int .u64 0, .slice none 0 0] 31)).alloc (.cells #[.int .i64 0] 32)).alloc (.cells #[.slice A l.length cap] 95)) (w.heap.size + 1 + 1) l := ⟨by omega, _, hQ0, hr1⟩
  have hfl := yf_all w.heap.size (w.heap.size + 1 + 1) w.heap.size P kd l _ hP hY1 hM1 hb1.size hk hl
  obtain ⟨o, ho⟩ : ∃ o, o = parse (shP P) (M.nil kd) l := ⟨_, rfl⟩
  rw [← ho] at hfl
  have HO := Lib.hid ho
  clear ho
  have hno : o = some (y, []) := by rw [HO.out, hn]
  subst hno
  go_enter_defers Tryd.func35, Tryd.ntmps35
  go_wp2_with fail
  (with_reducible refine hfl.mono ?_)
  clear hfl
  rintro e w2 ⟨⟨rfl, hY3, hM3⟩, hK3⟩
  have hE3 := hK3.kept hE1 (by decide) (by decide) (by decide)
  obtain ⟨_, yv, hQ3, hyr⟩ := hY3
  obtain ⟨_, nv, rv, vv, hO3, hn3, hr3, ho3⟩ := hM3
  obtain ⟨yA, yc, rfl⟩ := hyr.form
  have cq : w2.cell? ⟨w.heap.size + 1 + 1, 0, none⟩ = some (.slice yA 0 yc) := hQ3.cell 0
  have m0 : w2.cell? ⟨w.heap.size, 0, none⟩ = some (.int .u64 y.kd) := hO3.cell 0
  have m1 : w2.cell? ⟨w.heap.size, 1, none⟩ = some (.int .u64 y.id) := hO3.cell 1
  have m2 : w2.cell? ⟨w.heap.size, 2, none⟩ = some (.int .u64 y.al) := hO3.cell 2
  have m3 : w2.cell? ⟨w.heap.size, 3, none⟩ = some (nv) := hO3.cell 3
  have m4 : w2.cell? ⟨w.heap.size, 4, none⟩ = some (.int .u8 y.pr) := hO3.cell 4
  have m5 : w2.cell? ⟨w.heap.size, 5, none⟩ = some (.int .u8 y.od) := hO3.cell 5
  have m6 : w2.cell? ⟨w.heap.size, 6, none⟩ = some (.int .u64 y.sg) := hO3.cell 6
  have m7 : w2.cell? ⟨w.heap.size, 7, none⟩ = some (.int .u64 y.so) := hO3.cell 7
  have m8 : w2.cell? ⟨w.heap.size, 8, none⟩ = some (.int .u64 y.eg) := hO3.cell 8
  have m9 : w2.cell? ⟨w.heap.size, 9, none⟩ = some (.int .u64 y.eo) := hO3.cell 9
  have m10 : w2.cell? ⟨w.heap.size, 10, none⟩ = some (.bool y.sm) := hO3.cell 10
  have m11 : w2.cell? ⟨w.heap.size, 11, none⟩ = some (.int .u64 y.cd) := hO3.cell 11
  have m12 : w2.cell? ⟨w.heap.size, 12, none⟩ = some (rv) := hO3.cell 12
  have m13 : w2.cell? ⟨w.heap.size, 13, none⟩ = some (.int .u64 y.n) := hO3.cell 13
  have m14 : w2.cell? ⟨w.heap.size, 14, none⟩ = some (.int .u64 y.ve) := hO3.cell 14
  have m15 : w2.cell? ⟨w.heap.size, 15, none⟩ = some (vv) := hO3.cell 15
  have hG2 := (hG.same hb1).below hK3.1 hG.lt
  have hrr := right_all y nv rv vv w2 hG2 ⟨hn3.1, hr3.1, rd_of_own ho3⟩ hy hyf
  rw [hrt] at hrr
  have hsz2 := hK3.sz
  have hb2 := hb1.trans hK3.1
  go_wp2_with fail
  (with_reducible refine hrr.mono ?_)
  clear hrr
  rintro e w5 ⟨rfl, hb5⟩
  have hO3 := hO3.same hb5
  have hE3 := hE3.same hb5
  have hsz3 := Nat.le_trans hsz2 hb5.size
  have hb3 := hb2.trans (hb5.mono hsz2)
  go_wp2_with fail
  (with_reducible refine (must_no w5).mono ?_)
  rintro e w2' ⟨rfl, rfl⟩
  go_wp2_with fail
  refine leaves_cons (f := 51) (args := #[.pointer (some ⟨w.heap.size, 0, none⟩), .pointer (some ⟨w.heap.size + 1, 0, none⟩)]) (by simp) (by simp [go_sem]) ?_
  refine (catch_unfit w.heap.size w.heap.size (w.heap.size + 1) _ _ w5 hO3 rfl hE3 hsz3 (Nat.le_refl _) (Nat.le_succ _)).mono ?_
  rintro e u' w3 ⟨rfl, rfl, hO4, hE4, hB4⟩
  have hB1 := hb3.trans hB4
  have y0 : w3.cell? ⟨w.heap.size, 0, none⟩ = some (.int .u64 0) := hO4.cell 0
  have y1 : w3.cell? ⟨w.heap.size, 1, none⟩ = some (.int .u64 0) := hO4.cell 1
  have y2 : w3.cell? ⟨w.heap.size, 2, none⟩ = some (.int .u64 0) := hO4.cell 2
  have y3 : w3.cell? ⟨w.heap.size, 3, none⟩ = some (.slice none 0 0) := hO4.cell 3
  have y4 : w3.cell? ⟨w.heap.size, 4, none⟩ = some (.int .u8 0) := hO4.cell 4
  have y5 : w3.cell? ⟨w.heap.size, 5, none⟩ = some (.int .u8 0) := hO4.cell 5
  have y6 : w3.cell? ⟨w.heap.size, 6, none⟩ = some (.int .u64 0) := hO4.cell 6
  have y7 : w3.cell? ⟨w.heap.size, 7, none⟩ = some (.int .u64 0) := hO4.cell 7
  have y8 : w3.cell? ⟨w.heap.size, 8, none⟩ = some (.int .u64 0) := hO4.cell 8
  have y9 : w3.cell? ⟨w.heap.size, 9, none⟩ = some (.int .u64 0) := hO4.cell 9
  have y10 : w3.cell? ⟨w.heap.size, 10, none⟩ = some (.bool false) := hO4.cell 10
  have y11 : w3.cell? ⟨w.heap.size, 11, none⟩ = some (.int .u64 0) := hO4.cell 11
  have y12 : w3.cell? ⟨w.heap.size, 12, none⟩ = some (.slice none 0 0) := hO4.cell 12
  have y13 : w3.cell? ⟨w.heap.size, 13, none⟩ = some (.int .u64 0) := hO4.cell 13
  have y14 : w3.cell? ⟨w.heap.size, 14, none⟩ = some (.int .u64 0) := hO4.cell 14
  have y15 : w3.cell? ⟨w.heap.size, 15, none⟩ = some (.slice none 0 0) := hO4.cell 15
  have ye : w3.cell? ⟨w.heap.size + 1, 0, none⟩ = some (.int .i64 4) := hE4.cell 0
  simp [Leaves, settle, results, Tryd.results35, go_sem, y0, y1, y2, y3, y4, y5, y6, y7, y8, y9, y10, y11, y12, y13, y14, y15, ye]
  exact ⟨rfl, hB1⟩

end Go.Proofs.YtjijmbpgfabgcaaDoor
