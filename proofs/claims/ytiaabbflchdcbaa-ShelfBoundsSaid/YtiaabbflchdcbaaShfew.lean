/-
  What Few and Same of the reference do to objects; the document's examples.
-/
import Derived.Test.YtiaabbflchdcbaaSopn
namespace Go.Proofs.Ytiaabbflchdcbaa
open Go.RowKit
set_option linter.unusedVariables false
set_option linter.unusedSimpArgs false


set_option maxHeartbeats 1000000 in
set_option maxRecDepth 100000 in
theorem few_any (G O pr : Int) (gr : Bool) (V : Value) (l : List Int) (w : World) (hv : Rd w .u8 V l) :
    Calls Try.prog 11 #[.agg #[.int .u64 G, .int .u64 O, .int .u8 pr, .bool gr, V]] w fun e w' => ∃ V', e = .returned (.agg #[.int .u64 G, .int .u64 O, .int .u8 pr, .bool gr, V']) ∧ w'.ownsRow w.heap.size 5 1 V' (l.take 2100).length ((l.take 2100).map (Value.int .u8)) ∧ Below w.heap.size w w' := by
  obtain ⟨Ad, cd, rfl⟩ := hv.form
  have hO := (Blk.new w 35 #[.int .u64 G, .int .u64 O, .int .u8 pr, .bool gr, (.slice Ad l.length cd)]).alloc (.cells #[.int .u64 0, .int .u64 0, .int .u8 0, .bool false, .slice none 0 0] 35)
  have hZ := Blk.new (w.alloc (.cells #[.int .u64 G, .int .u64 O, .int .u8 pr, .bool gr, (.slice Ad l.length cd)] 35)) 35 #[.int .u64 0, .int .u64 0, .int .u8 0, .bool false, .slice none 0 0]
  rw [World.size_alloc] at hZ
  have hB0 := ((Below.refl w.heap.size w).alloc (Nat.le_refl _) (.cells #[.int .u64 G, .int .u64 O, .int .u8 pr, .bool gr, (.slice Ad l.length cd)] 35)).alloc (by simp) (.cells #[.int .u64 0, .int .u64 0, .int .u8 0, .bool false, .slice none 0 0] 35)
  have HV := Lib.hid hv
  clear hv
  go_enter Try.func11, Try.ntmps11
  go_wp2_with fail
  refine (show Calls Try.prog 10 #[_, .int .i64 2100] _ _ from cut_any (.slice Ad l.length cd) l 2100 _ (HV.out.below hB0) (by omega)).mono ?_
  rintro e w1 ⟨v1, rfl, ho, hb1⟩
  have hO1 := hO.same hb1
  have hZ1 := hZ.same hb1
  have hB1 := hB0.trans (hb1.mono hB0.size)
  have hs1 := hb1.size
  simp only [World.size_alloc] at hs1
  have ho1 := own_base (base' := w.heap.size + 2) ho (by simp)
  clear hO hZ hB0 ho hb1
  have c0 : w1.cell? ⟨w.heap.size, 0, none⟩ = some (.int .u64 G) := hO1.cell 0
  have c1 : w1.cell? ⟨w.heap.size, 1, none⟩ = some (.int .u64 O) := hO1.cell 1
  have c2 : w1.cell? ⟨w.heap.size, 2, none⟩ = some (.int .u8 pr) := hO1.cell 2
  have c3 : w1.cell? ⟨w.heap.size, 3, none⟩ = some (.bool gr) := hO1.cell 3
  have c4 : w1.cell? ⟨w.heap.size, 4, none⟩ = some (.slice Ad l.length cd) := hO1.cell 4
  have f0 := hO1.frozen 0
  have f1 := hO1.frozen 1
  have f2 := hO1.frozen 2
  have f3 := hO1.frozen 3
  have f4 := hO1.frozen 4
  have z0 := hZ1.frozen 0
  have z1 := hZ1.frozen 1
  have z2 := hZ1.frozen 2
  have z3 := hZ1.frozen 3
  have z4 := hZ1.frozen 4
  have y0 : w1.cell? ⟨w.heap.size + 1, 0, none⟩ = some (.int .u64 0) := hZ1.cell 0
  have y1 : w1.cell? ⟨w.heap.size + 1, 1, none⟩ = some (.int .u64 0) := hZ1.cell 1
  have y2 : w1.cell? ⟨w.heap.size + 1, 2, none⟩ = some (.int .u8 0) := hZ1.cell 2
  have y3 : w1.cell? ⟨w.heap.size + 1, 3, none⟩ = some (.bool false) := hZ1.cell 3
  have y4 : w1.cell? ⟨w.heap.size + 1, 4, none⟩ = some (.slice none 0 0) := hZ1.cell 4
  obtain ⟨A1, k1, rfl⟩ := (rd_of_own (k := .u8) ho1).form
  obtain ⟨n1, hn1⟩ : ∃ n1, n1 = (l.take 2100).length := ⟨_, rfl⟩
  rw [← hn1] at ho1 ⊢
  have HN := Lib.hid hn1
  clear hn1
  have hfar : ∀ g, g < w.heap.size + 2 → (Value.slice A1 n1 k1).ownBlock ≠ some g := fun g hg he => by have := (ho1.lt g he).1; omega
  have hy2 : w.heap.size + 1 < w1.heap.size := by omega
  go_wp2_with fail
  refine bodyPost_ret (v := .agg #[.int .u64 G, .int .u64 O, .int .u8 pr, .bool gr, (.slice A1 n1 k1)]) (by simp [results, Try.results11, go_sem, y0, y1, y2, y3, y4, c0, c1, c2, c3, c4]) rfl ⟨_, rfl, ?_, ?_⟩
  · rw [← HN.out]; exact own_base (own_far (own_far (own_far (own_far (own_far (own_far ho1 (hfar _ (by simp)) _) (hfar _ (by simp)) _) (hfar _ (by simp)) _) (hfar _ (by simp)) _) (hfar _ (by simp)) _) (hfar _ (by simp)) _) (by omega)
  · exact (((((hB1.setCell (by simp) _).setCell (by simp) _).setCell (by simp) _).setCell (by simp) _).setCell (by simp) _).setCell (by simp) _

set_option maxHeartbeats 1000000 in
set_option maxRecDepth 100000 in
theorem same1 (a b : Nat) (G O pr : Int) (gr : Bool) (V V' : Value) (l : List Int) (w : World) (ha : Blk w a 35 #[.int .u64 G, .int .u64 O, .int .u8 pr, .bool gr, V]) (hb : Blk w b 35 #[.int .u64 G, .int .u64 O, .int .u8 pr, .bool gr, V']) (hv : Rd w .u8 V l) (hv' : Rd w .u8 V' l) :
    Calls Try.prog 14 #[.slice (some ⟨a, 0, none⟩) 1 1, .slice (some ⟨b, 0, none⟩) 1 1] w fun e w' => e = .returned (.bool true) ∧ ∃ n, w.drewN n = w' := by
  have c0 : w.cell? ⟨a, 0, none⟩ = some (.int .u64 G) := ha.cell 0
  have c1 : w.cell? ⟨a, 1, none⟩ = some (.int .u64 O) := ha.cell 1
  have c2 : w.cell? ⟨a, 2, none⟩ = some (.int .u8 pr) := ha.cell 2
  have c3 : w.cell? ⟨a, 3, none⟩ = some (.bool gr) := ha.cell 3
  have c4 : w.cell? ⟨a, 4, none⟩ = some (V) := ha.cell 4
  have d0 : w.cell? ⟨b, 0, none⟩ = some (.int .u64 G) := hb.cell 0
  have d1 : w.cell? ⟨b, 1, none⟩ = some (.int .u64 O) := hb.cell 1
  have d2 : w.cell? ⟨b, 2, none⟩ = some (.int .u8 pr) := hb.cell 2
  have d3 : w.cell? ⟨b, 3, none⟩ = some (.bool gr) := hb.cell 3
  have d4 : w.cell? ⟨b, 4, none⟩ = some (V') := hb.cell 4
  go_enter Try.func14, Try.ntmps14
  go_wp2_with fail
  refine wp_loop_rounds 2 ?_
  rw [rounds_succ]
  go_wp2_with fail
  go_quiet ((go_at_call 35; first | exact quiet_one (same_yes V V' l _ hv hv') | exact quiet_add (same_yes V V' l _ hv hv')))
  go_wp2_with fail
  rw [rounds_succ]
  go_wp2_with fail
  go_ret
  exact ⟨rfl, nq, rfl⟩

end Go.Proofs.Ytiaabbflchdcbaa
