/-
  The reference's Only, and a string's iterator in memory. No condition.
-/
import Derived.Test.YtjijmbpgfabgcaaDoorZRlet
import Derived.Test.YtjijmbpgfabgcaaDoorZWfew
namespace Go.Proofs.YtjijmbpgfabgcaaDoor
open Go.RowKit
set_option linter.unusedVariables false
set_option linter.unusedSimpArgs false

/-- The iterator stands before the letter number pos. -/
def ItAt (w : World) (k : Nat) (L : List Int) (pos : Nat) : Prop := w.heap[k]? = some (.stringIter (sbs L) pos)
theorem grown_iter {w : World} {k : Nat} (s : ByteArray) (pos : Nat) : w.grownBy (w.iterAt k s pos) (some k) :=
  ⟨rfl, rfl, rfl, by rw [Lib.iterAt_size]; exact Nat.le_refl _, fun i _ hne => Lib.iterAt_other w k i s pos (fun e => hne (by rw [e]))⟩
theorem ItAt.kept {w w' : World} {k : Nat} {L : List Int} {pos : Nat} {row : Option Nat} (h : ItAt w k L pos) (hg : w.grownBy w' row) (hr : some k ≠ row) : ItAt w' k L pos :=
  (hg.block k (Array.getElem?_eq_some_iff.1 h).1 hr).trans h
theorem ItAt.below {w w' : World} {k : Nat} {L : List Int} {pos : Nat} (h : ItAt w k L pos) (hb : Below w.heap.size w w') : ItAt w' k L pos := h.kept (grown_below hb none) (by simp)
theorem ItAt.new (w : World) (L : List Int) : ItAt (w.alloc (.stringIter (sbs L) 0)) w.heap.size L 0 := heap_alloc_new w _
theorem ItAt.ne {w : World} {k g : Nat} {L : List Int} {pos : Nat} {t : TypeId} {cs : Array Value} (h : ItAt w k L pos) (hb : Blk w g t cs) : g ≠ k := by
  rintro rfl
  unfold ItAt at h
  unfold Blk at hb
  rw [h] at hb
  cases hb
theorem ItAt.next {P : Program} {w : World} {k : Nat} {L : List Int} {pos : Nat} (h : ItAt w k L pos) (hp : pos < L.length) (hL : ∀ c ∈ L, c ∈ LETS) :
    ∃ wi c, L.getD pos 0 = c ∧ c ∈ L ∧ (∀ ty, (Instr.next (.pointer (some ⟨k, 0, none⟩)) true ty).run P w = .ok (.tuple #[.bool true, .int .i64 pos, .int .i32 c]) wi) ∧ ItAt wi k L (pos + 1) ∧ w.grownBy wi (some k) := by
  refine ⟨_, _, rfl, by rw [show L.getD pos 0 = L[pos] by simp [List.getD, hp]]; exact List.getElem_mem hp, fun ty => next_letter w k L pos ty h hp (fun c hc => ?_), Lib.iterAt_heap w k (sbs L) pos (pos + 1) h, grown_iter _ _⟩
  have := hL c hc
  simp only [LETS, List.mem_cons, List.not_mem_nil, or_false] at this
  omega
theorem ItAt.end_ {P : Program} {w : World} {k : Nat} {L : List Int} {pos : Nat} (h : ItAt w k L pos) (hp : ¬ pos < L.length) :
    ∀ ty, (Instr.next (.pointer (some ⟨k, 0, none⟩)) true ty).run P w = .ok (.tuple #[.bool false]) w := fun ty =>
  Lib.run_next_end_at w k (sbs L) pos ty h (by rw [sbs_size]; exact hp)
theorem fold_take {α : Type} (f : α → Int → α) (a : α) (L : List Int) (pos : Nat) (h : pos < L.length) : (L.take (pos + 1)).foldl f a = f ((L.take pos).foldl f a) (L.getD pos 0) := by
  rw [List.take_succ_eq_append_getElem h, List.foldl_append]
  simp [List.getD, h]
theorem only_take (m : M) (L : List Int) (pos : Nat) (h : pos < L.length) : only m (L.take (pos + 1)) = setL m (only m (L.take pos)) (L.getD pos 0) := fold_take _ _ L pos h
/-- A text of the message that is made: the given one, or none. -/
def TV (v : Value) (l : List Int) (u : Value) (k : List Int) : Prop := (v = u ∧ l = k) ∨ (v = .slice none 0 0 ∧ l = [])
theorem TV.rd {w : World} {kd : IntKind} {v u : Value} {l k : List Int} (h : TV v l u k) (hr : Rd w kd u k) : Rd w kd v l := by
  rcases h with ⟨rfl, rfl⟩ | ⟨rfl, rfl⟩
  · exact hr
  · exact Rd.nil _ _
theorem far_set {w : World} {g g' : Nat} {t : TypeId} {cs : Array Value} (h : Blk w g' t cs) (hn : g' ≠ g) (i : Nat) (u : Value) : Blk (w.setCell ⟨g, i, none⟩ u) g' t cs := h.far hn u
theorem it_set {w : World} {k g i : Nat} {L : List Int} {pos : Nat} (h : ItAt w k L pos) (hn : g ≠ k) (u : Value) : ItAt (w.setCell ⟨g, i, none⟩ u) k L pos := h.kept (grown_set (grown_refl w (some g)) i u) (by simpa using Ne.symm hn)
theorem letters {k : Int} (h : (prt k).2 = true) : shK k = shP (prt k).1 ∧ ∀ c ∈ shK k, c ∈ LETS := by
  have e : shK k = shP (prt k).1 := by unfold shK; rw [if_pos h]
  exact ⟨e, fun c hc => (shP_ok _ (prt_mem k h)).1 c (by rw [← e]; exact hc)⟩
set_option maxHeartbeats 4000000 in
set_option maxRecDepth 100000 in
theorem ronly_all (m : M) (nv rv vv : Value) (w : World) (hM : MV w m nv rv vv) (hk : (prt m.kd).2 = true) :
    Calls Tryd.prog 49 #[.agg (m.cells nv rv vv)] w fun e w' => ∃ nv' rv' vv', e = .returned (.agg ((only m (shK m.kd)).cells nv' rv' vv')) ∧ MV w' (only m (shK m.kd)) nv' rv' vv' ∧ Below w.heap.size w w' := by
  obtain ⟨nA, nc, rfl⟩ := hM.nm.form
  obtain ⟨rA, rc, rfl⟩ := hM.rs.form
  obtain ⟨vA, vc, rfl⟩ := hM.vs.form
  have hLL := (letters hk).2
  obtain ⟨L, hL⟩ : ∃ L, L = shK m.kd := ⟨_, rfl⟩
  have hO0 := (((Blk.new w 28 #[.int .u64 m.kd, .int .u64 m.id, .int .u64 m.al, .slice nA m.nm.length nc, .int .u8 m.pr, .int .u8 m.od, .int .u64 m.sg, .int .u64 m.so, .int .u64 m.eg, .int .u64 m.eo, .bool m.sm, .int .u64 m.cd, .slice rA m.rs.length rc, .int .u64 m.n, .int .u64 m.ve, .slice vA m.vs.length vc]).alloc (.cells #[.int .u64 0, .int .u64 0, .int .u64 0, .slice none 0 0, .int .u8 0, .int .u8 0, .int .u64 0, .int .u64 0, .int .u64 0, .int .u64 0, .bool false, .int .u64 0, .slice none 0 0, .int .u64 0, .int .u64 0, .slice none 0 0] 28)).alloc (.cells #[.int .u64 m.kd, .int .u64 0, .int .u64 0, .slice none 0 0, .int .u8 0, .int .u8 0, .int .u64 0, .int .u64 0, .int .u64 0, .int .u64 0, .bool false, .int .u64 0, .slice none 0 0, .int .u64 0, .int .u64 0, .slice none 0 0] 28)).alloc (.stringIter (sbs L) 0)
  have hZ0 := ((Blk.new (w.alloc (.cells #[.int .u64 m.kd, .int .u64 m.id, .int .u64 m.al, .slice nA m.nm.length nc, .int .u8 m.pr, .int .u8 m.od, .int .u64 m.sg, .int .u64 m.so, .int .u64 m.eg, .int .u64 m.eo, .bool m.sm, .int .u64 m.cd, .slice rA m.rs.length rc, .int .u64 m.n, .int .u64 m.ve, .slice vA m.vs.length vc] 28)) 28 #[.int .u64 0, .int .u64 0, .int .u64 0, .slice none 0 0, .int .u8 0, .int .u8 0, .int .u64 0, .int .u64 0, .int .u64 0, .int .u64 0, .bool false, .int .u64 0, .slice none 0 0, .int .u64 0, .int .u64 0, .slice none 0 0]).alloc (.cells #[.int .u64 m.kd, .int .u64 0, .int .u64 0, .slice none 0 0, .int .u8 0, .int .u8 0, .int .u64 0, .int .u64 0, .int .u64 0, .int .u64 0, .bool false, .int .u64 0, .slice none 0 0, .int .u64 0, .int .u64 0, .slice none 0 0] 28)).alloc (.stringIter (sbs L) 0)
  have hX0 := (Blk.new ((w.alloc (.cells #[.int .u64 m.kd, .int .u64 m.id, .int .u64 m.al, .slice nA m.nm.length nc, .int .u8 m.pr, .int .u8 m.od, .int .u64 m.sg, .int .u64 m.so, .int .u64 m.eg, .int .u64 m.eo, .bool m.sm, .int .u64 m.cd, .slice rA m.rs.length rc, .int .u64 m.n, .int .u64 m.ve, .slice vA m.vs.length vc] 28)).alloc (.cells #[.int .u64 0, .int .u64 0, .int .u64 0, .slice none 0 0, .int .u8 0, .int .u8 0, .int .u64 0, .int .u64 0, .int .u64 0, .int .u64 0, .bool false, .int .u64 0, .slice none 0 0, .int .u64 0, .int .u64 0, .slice none 0 0] 28)) 28 #[.int .u64 m.kd, .int .u64 0, .int .u64 0, .slice none 0 0, .int .u8 0, .int .u8 0, .int .u64 0, .int .u64 0, .int .u64 0, .int .u64 0, .bool false, .int .u64 0, .slice none 0 0, .int .u64 0, .int .u64 0, .slice none 0 0]).alloc (.stringIter (sbs L) 0)
  have hI0 := ItAt.new (((w.alloc (.cells #[.int .u64 m.kd, .int .u64 m.id, .int .u64 m.al, .slice nA m.nm.length nc, .int .u8 m.pr, .int .u8 m.od, .int .u64 m.sg, .int .u64 m.so, .int .u64 m.eg, .int .u64 m.eo, .bool m.sm, .int .u64 m.cd, .slice rA m.rs.length rc, .int .u64 m.n, .int .u64 m.ve, .slice vA m.vs.length vc] 28)).alloc (.cells #[.int .u64 0, .int .u64 0, .int .u64 0, .slice none 0 0, .int .u8 0, .int .u8 0, .int .u64 0, .int .u64 0, .int .u64 0, .int .u64 0, .bool false, .int .u64 0, .slice none 0 0, .int .u64 0, .int .u64 0, .slice none 0 0] 28)).alloc (.cells #[.int .u64 m.kd, .int .u64 0, .int .u64 0, .slice none 0 0, .int .u8 0, .int .u8 0, .int .u64 0, .int .u64 0, .int .u64 0, .int .u64 0, .bool false, .int .u64 0, .slice none 0 0, .int .u64 0, .int .u64 0, .slice none 0 0] 28)) L
  have hB0 := ((((Below.refl w.heap.size w).alloc (Nat.le_refl _) (.cells #[.int .u64 m.kd, .int .u64 m.id, .int .u64 m.al, .slice nA m.nm.length nc, .int .u8 m.pr, .int .u8 m.od, .int .u64 m.sg, .int .u64 m.so, .int .u64 m.eg, .int .u64 m.eo, .bool m.sm, .int .u64 m.cd, .slice rA m.rs.length rc, .int .u64 m.n, .int .u64 m.ve, .slice vA m.vs.length vc] 28)).alloc (by simp) (.cells #[.int .u64 0, .int .u64 0, .int .u64 0, .slice none 0 0, .int .u8 0, .int .u8 0, .int .u64 0, .int .u64 0, .int .u64 0, .int .u64 0, .bool false, .int .u64 0, .slice none 0 0, .int .u64 0, .int .u64 0, .slice none 0 0] 28)).alloc (by simp; omega) (.cells #[.int .u64 m.kd, .int .u64 0, .int .u64 0, .slice none 0 0, .int .u8 0, .int .u8 0, .int .u64 0, .int .u64 0, .int .u64 0, .int .u64 0, .bool false, .int .u64 0, .slice none 0 0, .int .u64 0, .int .u64 0, .slice none 0 0] 28)).alloc (by simp; omega) (.stringIter (sbs L) 0)
  simp only [World.size_alloc] at hZ0 hX0 hI0
  rw [← hL] at hLL
  have hsh := rshape_all m.kd
  rw [← hL] at hsh ⊢
  have HL := Lib.hid hL
  clear hL
  go_enter Tryd.func49, Tryd.ntmps49
  go_wp2_with fail
  (with_reducible refine (hsh _).mono ?_)
  clear hsh
  rintro e w1 ⟨rfl, rfl⟩
  go_wp2_with fail
  have hmx : w.heap.size ≠ w.heap.size + 1 + 1 := by omega
  have hrx : w.heap.size + 1 ≠ w.heap.size + 1 + 1 := by omega
  have hxi : w.heap.size + 1 + 1 ≠ w.heap.size + 1 + 1 + 1 := by omega
  have hxw : w.heap.size ≤ w.heap.size + 1 + 1 := by omega
  have hmi : some w.heap.size ≠ some (w.heap.size + 1 + 1 + 1) := by simp; omega
  have hri : some (w.heap.size + 1) ≠ some (w.heap.size + 1 + 1 + 1) := by simp
  have hXi : some (w.heap.size + 1 + 1) ≠ some (w.heap.size + 1 + 1 + 1) := by simp
  have hRS := fun (W : World) (h : Below w.heap.size w W) => hM.below h
  clear hM
  go_loopg [] L.length (fun gk wr => ∃ pos nA2 nc2 rA2 rc2 vA2 vc2, gk = L.length - pos ∧ pos ≤ L.length ∧ TV (.slice nA2 (only m (L.take pos)).nm.length nc2) (only m (L.take pos)).nm (.slice nA m.nm.length nc) m.nm ∧ TV (.slice rA2 (only m (L.take pos)).rs.length rc2) (only m (L.take pos)).rs (.slice rA m.rs.length rc) m.rs ∧ TV (.slice vA2 (only m (L.take pos)).vs.length vc2) (only m (L.take pos)).vs (.slice vA m.vs.length vc) m.vs ∧ ItAt wr (w.heap.size + 1 + 1 + 1) L pos ∧ Blk wr w.heap.size 28 #[.int .u64 m.kd, .int .u64 m.id, .int .u64 m.al, .slice nA m.nm.length nc, .int .u8 m.pr, .int .u8 m.od, .int .u64 m.sg, .int .u64 m.so, .int .u64 m.eg, .int .u64 m.eo, .bool m.sm, .int .u64 m.cd, .slice rA m.rs.length rc, .int .u64 m.n, .int .u64 m.ve, .slice vA m.vs.length vc] ∧ Blk wr (w.heap.size + 1) 28 #[.int .u64 0, .int .u64 0, .int .u64 0, .slice none 0 0, .int .u8 0, .int .u8 0, .int .u64 0, .int .u64 0, .int .u64 0, .int .u64 0, .bool false, .int .u64 0, .slice none 0 0, .int .u64 0, .int .u64 0, .slice none 0 0] ∧ Blk wr (w.heap.size + 1 + 1) 28 #[.int .u64 (only m (L.take pos)).kd, .int .u64 (only m (L.take pos)).id, .int .u64 (only m (L.take pos)).al, .slice nA2 (only m (L.take pos)).nm.length nc2, .int .u8 (only m (L.take pos)).pr, .int .u8 (only m (L.take pos)).od, .int .u64 (only m (L.take pos)).sg, .int .u64 (only m (L.take pos)).so, .int .u64 (only m (L.take pos)).eg, .int .u64 (only m (L.take pos)).eo, .bool (only m (L.take pos)).sm, .int .u64 (only m (L.take pos)).cd, .slice rA2 (only m (L.take pos)).rs.length rc2, .int .u64 (only m (L.take pos)).n, .int .u64 (only m (L.take pos)).ve, .slice vA2 (only m (L.take pos)).vs.length vc2] ∧ Below w.heap.size w wr)
  case atStart => exact ⟨0, none, 0, none, 0, none, 0, rfl, Nat.zero_le _, .inr ⟨rfl, rfl⟩, .inr ⟨rfl, rfl⟩, .inr ⟨rfl, rfl⟩, hI0, hO0, hZ0, hX0, hB0⟩
  case round =>
    clear hI0 hO0 hZ0 hX0 hB0
    obtain ⟨pos, nA2, nc2, rA2, rc2, vA2, vc2, hgk, hpl, t1, t2, t3, hit, hO, hZ, hX, hB⟩ := hrel
    by_cases hlt : pos < L.length
    · obtain ⟨wi, c, hc, hcm, hnx, hit1, hgi⟩ := hit.next (P := Tryd.prog) hlt hLL
      replace hO := hO.grown hgi hmi
      replace hZ := hZ.grown hgi hri
      replace hX := hX.grown hgi hXi
      replace hB := hB.grown hgi hB.size (fun k hk => by simp only [Option.some.injEq] at hk; omega)
      replace hit := hit1
      have hcl := hLL c hcm
      obtain ⟨x, hxd⟩ : ∃ x, x = only m (L.take pos) := ⟨_, rfl⟩
      rw [← hxd] at t1 t2 t3 hX
      clear hit1 hcm
      simp only [LETS, List.mem_cons, List.not_mem_nil, or_false] at hcl
      have HH := Lib.hid hlt
      rcases hcl with rfl | rfl | rfl | rfl | rfl | rfl | rfl | rfl | rfl | rfl | rfl | rfl | rfl | rfl
      · have hx2 := only_take m L pos hlt
        rw [hc, ← hxd, setL_105] at hx2
        have c1 : World.cell? wi ⟨w.heap.size, 1, none⟩ = some (.int .u64 m.id) := hO.cell 1
        have y1 : World.cell? wi ⟨w.heap.size + 1 + 1, 1, none⟩ = some (.int .u64 x.id) := hX.cell 1
        have f1 := hX.frozen 1
        have HX2 := Lib.hid hx2
        clear hx2 hc hxd
        go_wp2_with fail
        go_roundg (L.length - (pos + 1))
        case measure => omega
        case rel =>
          refine ⟨pos + 1, nA2, nc2, rA2, rc2, vA2, vc2, rfl, hlt, ?_⟩
          rw [HX2.out]
          refine ⟨t1, t2, t3, it_set (hit) hxi _, far_set (hO) hmx _ _, far_set (hZ) hrx _ _, by simpa using (hX).set_ 1 (.int .u64 m.id), (hB).setCell hxw _⟩
      · have hx2 := only_take m L pos hlt
        rw [hc, ← hxd, setL_97] at hx2
        have c2 : World.cell? wi ⟨w.heap.size, 2, none⟩ = some (.int .u64 m.al) := hO.cell 2
        have y2 : World.cell? wi ⟨w.heap.size + 1 + 1, 2, none⟩ = some (.int .u64 x.al) := hX.cell 2
        have f2 := hX.frozen 2
        have HX2 := Lib.hid hx2
        clear hx2 hc hxd
        go_wp2_with fail
        go_roundg (L.length - (pos + 1))
        case measure => omega
        case rel =>
          refine ⟨pos + 1, nA2, nc2, rA2, rc2, vA2, vc2, rfl, hlt, ?_⟩
          rw [HX2.out]
          refine ⟨t1, t2, t3, it_set (hit) hxi _, far_set (hO) hmx _ _, far_set (hZ) hrx _ _, by simpa using (hX).set_ 2 (.int .u64 m.al), (hB).setCell hxw _⟩
      · have hx2 := only_take m L pos hlt
        rw [hc, ← hxd, setL_116] at hx2
        have c3 : World.cell? wi ⟨w.heap.size, 3, none⟩ = some (.slice nA m.nm.length nc) := hO.cell 3
        have y3 : World.cell? wi ⟨w.heap.size + 1 + 1, 3, none⟩ = some (.slice nA2 x.nm.length nc2) := hX.cell 3
        have f3 := hX.frozen 3
        have HX2 := Lib.hid hx2
        clear hx2 hc hxd
        go_wp2_with fail
        go_roundg (L.length - (pos + 1))
        case measure => omega
        case rel =>
          refine ⟨pos + 1, nA, nc, rA2, rc2, vA2, vc2, rfl, hlt, ?_⟩
          rw [HX2.out]
          refine ⟨.inl ⟨rfl, rfl⟩, t2, t3, it_set (hit) hxi _, far_set (hO) hmx _ _, far_set (hZ) hrx _ _, by simpa using (hX).set_ 3 (.slice nA m.nm.length nc), (hB).setCell hxw _⟩
      · have hx2 := only_take m L pos hlt
        rw [hc, ← hxd, setL_112] at hx2
        have c4 : World.cell? wi ⟨w.heap.size, 4, none⟩ = some (.int .u8 m.pr) := hO.cell 4
        have y4 : World.cell? wi ⟨w.heap.size + 1 + 1, 4, none⟩ = some (.int .u8 x.pr) := hX.cell 4
        have f4 := hX.frozen 4
        have HX2 := Lib.hid hx2
        clear hx2 hc hxd
        go_wp2_with fail
        go_roundg (L.length - (pos + 1))
        case measure => omega
        case rel =>
          refine ⟨pos + 1, nA2, nc2, rA2, rc2, vA2, vc2, rfl, hlt, ?_⟩
          rw [HX2.out]
          refine ⟨t1, t2, t3, it_set (hit) hxi _, far_set (hO) hmx _ _, far_set (hZ) hrx _ _, by simpa using (hX).set_ 4 (.int .u8 m.pr), (hB).setCell hxw _⟩
      · have hx2 := only_take m L pos hlt
        rw [hc, ← hxd, setL_111] at hx2
        have c5 : World.cell? wi ⟨w.heap.size, 5, none⟩ = some (.int .u8 m.od) := hO.cell 5
        have y5 : World.cell? wi ⟨w.heap.size + 1 + 1, 5, none⟩ = some (.int .u8 x.od) := hX.cell 5
        have f5 := hX.frozen 5
        have HX2 := Lib.hid hx2
        clear hx2 hc hxd
        go_wp2_with fail
        go_roundg (L.length - (pos + 1))
        case measure => omega
        case rel =>
          refine ⟨pos + 1, nA2, nc2, rA2, rc2, vA2, vc2, rfl, hlt, ?_⟩
          rw [HX2.out]
          refine ⟨t1, t2, t3, it_set (hit) hxi _, far_set (hO) hmx _ _, far_set (hZ) hrx _ _, by simpa using (hX).set_ 5 (.int .u8 m.od), (hB).setCell hxw _⟩
      · have hx2 := only_take m L pos hlt
        rw [hc, ← hxd, setL_115] at hx2
        have c6 : World.cell? wi ⟨w.heap.size, 6, none⟩ = some (.int .u64 m.sg) := hO.cell 6
        have y6 : World.cell? wi ⟨w.heap.size + 1 + 1, 6, none⟩ = some (.int .u64 x.sg) := hX.cell 6
        have f6 := hX.frozen 6
        have c7 : World.cell? wi ⟨w.heap.size, 7, none⟩ = some (.int .u64 m.so) := hO.cell 7
        have y7 : World.cell? wi ⟨w.heap.size + 1 + 1, 7, none⟩ = some (.int .u64 x.so) := hX.cell 7
        have f7 := hX.frozen 7
        have HX2 := Lib.hid hx2
        clear hx2 hc hxd
        go_wp2_with fail
        go_roundg (L.length - (pos + 1))
        case measure => omega
        case rel =>
          refine ⟨pos + 1, nA2, nc2, rA2, rc2, vA2, vc2, rfl, hlt, ?_⟩
          rw [HX2.out]
          refine ⟨t1, t2, t3, it_set (it_set (hit) hxi _) hxi _, far_set (far_set (hO) hmx _ _) hmx _ _, far_set (far_set (hZ) hrx _ _) hrx _ _, by simpa using ((hX).set_ 6 (.int .u64 m.sg)).set_ 7 (.int .u64 m.so), ((hB).setCell hxw _).setCell hxw _⟩
      · have hx2 := only_take m L pos hlt
        rw [hc, ← hxd, setL_101] at hx2
        have c8 : World.cell? wi ⟨w.heap.size, 8, none⟩ = some (.int .u64 m.eg) := hO.cell 8
        have y8 : World.cell? wi ⟨w.heap.size + 1 + 1, 8, none⟩ = some (.int .u64 x.eg) := hX.cell 8
        have f8 := hX.frozen 8
        have c9 : World.cell? wi ⟨w.heap.size, 9, none⟩ = some (.int .u64 m.eo) := hO.cell 9
        have y9 : World.cell? wi ⟨w.heap.size + 1 + 1, 9, none⟩ = some (.int .u64 x.eo) := hX.cell 9
        have f9 := hX.frozen 9
        have HX2 := Lib.hid hx2
        clear hx2 hc hxd
        go_wp2_with fail
        go_roundg (L.length - (pos + 1))
        case measure => omega
        case rel =>
          refine ⟨pos + 1, nA2, nc2, rA2, rc2, vA2, vc2, rfl, hlt, ?_⟩
          rw [HX2.out]
          refine ⟨t1, t2, t3, it_set (it_set (hit) hxi _) hxi _, far_set (far_set (hO) hmx _ _) hmx _ _, far_set (far_set (hZ) hrx _ _) hrx _ _, by simpa using ((hX).set_ 8 (.int .u64 m.eg)).set_ 9 (.int .u64 m.eo), ((hB).setCell hxw _).setCell hxw _⟩
      · have hx2 := only_take m L pos hlt
        rw [hc, ← hxd, setL_103] at hx2
        have c8 : World.cell? wi ⟨w.heap.size, 8, none⟩ = some (.int .u64 m.eg) := hO.cell 8
        have y8 : World.cell? wi ⟨w.heap.size + 1 + 1, 8, none⟩ = some (.int .u64 x.eg) := hX.cell 8
        have f8 := hX.frozen 8
        have HX2 := Lib.hid hx2
        clear hx2 hc hxd
        go_wp2_with fail
        go_roundg (L.length - (pos + 1))
        case measure => omega
        case rel =>
          refine ⟨pos + 1, nA2, nc2, rA2, rc2, vA2, vc2, rfl, hlt, ?_⟩
          rw [HX2.out]
          refine ⟨t1, t2, t3, it_set (hit) hxi _, far_set (hO) hmx _ _, far_set (hZ) hrx _ _, by simpa using (hX).set_ 8 (.int .u64 m.eg), (hB).setCell hxw _⟩
      · have hx2 := only_take m L pos hlt
        rw [hc, ← hxd, setL_98] at hx2
        have c10 : World.cell? wi ⟨w.heap.size, 10, none⟩ = some (.bool m.sm) := hO.cell 10
        have y10 : World.cell? wi ⟨w.heap.size + 1 + 1, 10, none⟩ = some (.bool x.sm) := hX.cell 10
        have f10 := hX.frozen 10
        have HX2 := Lib.hid hx2
        clear hx2 hc hxd
        go_wp2_with fail
        go_roundg (L.length - (pos + 1))
        case measure => omega
        case rel =>
          refine ⟨pos + 1, nA2, nc2, rA2, rc2, vA2, vc2, rfl, hlt, ?_⟩
          rw [HX2.out]
          refine ⟨t1, t2, t3, it_set (hit) hxi _, far_set (hO) hmx _ _, far_set (hZ) hrx _ _, by simpa using (hX).set_ 10 (.bool m.sm), (hB).setCell hxw _⟩
      · have hx2 := only_take m L pos hlt
        rw [hc, ← hxd, setL_99] at hx2
        have c11 : World.cell? wi ⟨w.heap.size, 11, none⟩ = some (.int .u64 m.cd) := hO.cell 11
        have y11 : World.cell? wi ⟨w.heap.size + 1 + 1, 11, none⟩ = some (.int .u64 x.cd) := hX.cell 11
        have f11 := hX.frozen 11
        have HX2 := Lib.hid hx2
        clear hx2 hc hxd
        go_wp2_with fail
        go_roundg (L.length - (pos + 1))
        case measure => omega
        case rel =>
          refine ⟨pos + 1, nA2, nc2, rA2, rc2, vA2, vc2, rfl, hlt, ?_⟩
          rw [HX2.out]
          refine ⟨t1, t2, t3, it_set (hit) hxi _, far_set (hO) hmx _ _, far_set (hZ) hrx _ _, by simpa using (hX).set_ 11 (.int .u64 m.cd), (hB).setCell hxw _⟩
      · have hx2 := only_take m L pos hlt
        rw [hc, ← hxd, setL_114] at hx2
        have c12 : World.cell? wi ⟨w.heap.size, 12, none⟩ = some (.slice rA m.rs.length rc) := hO.cell 12
        have y12 : World.cell? wi ⟨w.heap.size + 1 + 1, 12, none⟩ = some (.slice rA2 x.rs.length rc2) := hX.cell 12
        have f12 := hX.frozen 12
        have HX2 := Lib.hid hx2
        clear hx2 hc hxd
        go_wp2_with fail
        go_roundg (L.length - (pos + 1))
        case measure => omega
        case rel =>
          refine ⟨pos + 1, nA2, nc2, rA, rc, vA2, vc2, rfl, hlt, ?_⟩
          rw [HX2.out]
          refine ⟨t1, .inl ⟨rfl, rfl⟩, t3, it_set (hit) hxi _, far_set (hO) hmx _ _, far_set (hZ) hrx _ _, by simpa using (hX).set_ 12 (.slice rA m.rs.length rc), (hB).setCell hxw _⟩
      · have hx2 := only_take m L pos hlt
        rw [hc, ← hxd, setL_110] at hx2
        have c13 : World.cell? wi ⟨w.heap.size, 13, none⟩ = some (.int .u64 m.n) := hO.cell 13
        have y13 : World.cell? wi ⟨w.heap.size + 1 + 1, 13, none⟩ = some (.int .u64 x.n) := hX.cell 13
        have f13 := hX.frozen 13
        have HX2 := Lib.hid hx2
        clear hx2 hc hxd
        go_wp2_with fail
        go_roundg (L.length - (pos + 1))
        case measure => omega
        case rel =>
          refine ⟨pos + 1, nA2, nc2, rA2, rc2, vA2, vc2, rfl, hlt, ?_⟩
          rw [HX2.out]
          refine ⟨t1, t2, t3, it_set (hit) hxi _, far_set (hO) hmx _ _, far_set (hZ) hrx _ _, by simpa using (hX).set_ 13 (.int .u64 m.n), (hB).setCell hxw _⟩
      · have hx2 := only_take m L pos hlt
        rw [hc, ← hxd, setL_118] at hx2
        have c14 : World.cell? wi ⟨w.heap.size, 14, none⟩ = some (.int .u64 m.ve) := hO.cell 14
        have y14 : World.cell? wi ⟨w.heap.size + 1 + 1, 14, none⟩ = some (.int .u64 x.ve) := hX.cell 14
        have f14 := hX.frozen 14
        have HX2 := Lib.hid hx2
        clear hx2 hc hxd
        go_wp2_with fail
        go_roundg (L.length - (pos + 1))
        case measure => omega
        case rel =>
          refine ⟨pos + 1, nA2, nc2, rA2, rc2, vA2, vc2, rfl, hlt, ?_⟩
          rw [HX2.out]
          refine ⟨t1, t2, t3, it_set (hit) hxi _, far_set (hO) hmx _ _, far_set (hZ) hrx _ _, by simpa using (hX).set_ 14 (.int .u64 m.ve), (hB).setCell hxw _⟩
      · have hx2 := only_take m L pos hlt
        rw [hc, ← hxd, setL_108] at hx2
        have c15 : World.cell? wi ⟨w.heap.size, 15, none⟩ = some (.slice vA m.vs.length vc) := hO.cell 15
        have y15 : World.cell? wi ⟨w.heap.size + 1 + 1, 15, none⟩ = some (.slice vA2 x.vs.length vc2) := hX.cell 15
        have f15 := hX.frozen 15
        have HX2 := Lib.hid hx2
        clear hx2 hc hxd
        go_wp2_with fail
        go_roundg (L.length - (pos + 1))
        case measure => omega
        case rel =>
          refine ⟨pos + 1, nA2, nc2, rA2, rc2, vA, vc, rfl, hlt, ?_⟩
          rw [HX2.out]
          refine ⟨t1, t2, .inl ⟨rfl, rfl⟩, it_set (hit) hxi _, far_set (hO) hmx _ _, far_set (hZ) hrx _ _, by simpa using (hX).set_ 15 (.slice vA m.vs.length vc), (hB).setCell hxw _⟩
    · have hnx := hit.end_ (P := Tryd.prog) hlt
      have htk : L.take pos = L := List.take_of_length_le (by omega)
      rw [htk] at t1 t2 t3 hX
      clear htk hLL
      obtain ⟨y, hy⟩ : ∃ y, y = only m L := ⟨_, rfl⟩
      rw [← hy] at t1 t2 t3 hX
      have HY := Lib.hid hy
      clear hy
      have x0 : World.cell? wr ⟨w.heap.size + 1 + 1, 0, none⟩ = some (.int .u64 y.kd) := hX.cell 0
      have x1 : World.cell? wr ⟨w.heap.size + 1 + 1, 1, none⟩ = some (.int .u64 y.id) := hX.cell 1
      have x2 : World.cell? wr ⟨w.heap.size + 1 + 1, 2, none⟩ = some (.int .u64 y.al) := hX.cell 2
      have x3 : World.cell? wr ⟨w.heap.size + 1 + 1, 3, none⟩ = some (.slice nA2 y.nm.length nc2) := hX.cell 3
      have x4 : World.cell? wr ⟨w.heap.size + 1 + 1, 4, none⟩ = some (.int .u8 y.pr) := hX.cell 4
      have x5 : World.cell? wr ⟨w.heap.size + 1 + 1, 5, none⟩ = some (.int .u8 y.od) := hX.cell 5
      have x6 : World.cell? wr ⟨w.heap.size + 1 + 1, 6, none⟩ = some (.int .u64 y.sg) := hX.cell 6
      have x7 : World.cell? wr ⟨w.heap.size + 1 + 1, 7, none⟩ = some (.int .u64 y.so) := hX.cell 7
      have x8 : World.cell? wr ⟨w.heap.size + 1 + 1, 8, none⟩ = some (.int .u64 y.eg) := hX.cell 8
      have x9 : World.cell? wr ⟨w.heap.size + 1 + 1, 9, none⟩ = some (.int .u64 y.eo) := hX.cell 9
      have x10 : World.cell? wr ⟨w.heap.size + 1 + 1, 10, none⟩ = some (.bool y.sm) := hX.cell 10
      have x11 : World.cell? wr ⟨w.heap.size + 1 + 1, 11, none⟩ = some (.int .u64 y.cd) := hX.cell 11
      have x12 : World.cell? wr ⟨w.heap.size + 1 + 1, 12, none⟩ = some (.slice rA2 y.rs.length rc2) := hX.cell 12
      have x13 : World.cell? wr ⟨w.heap.size + 1 + 1, 13, none⟩ = some (.int .u64 y.n) := hX.cell 13
      have x14 : World.cell? wr ⟨w.heap.size + 1 + 1, 14, none⟩ = some (.int .u64 y.ve) := hX.cell 14
      have x15 : World.cell? wr ⟨w.heap.size + 1 + 1, 15, none⟩ = some (.slice vA2 y.vs.length vc2) := hX.cell 15
      have z0 : World.cell? wr ⟨w.heap.size + 1, 0, none⟩ = some (.int .u64 0) := hZ.cell 0
      have fz0 := hZ.frozen 0
      have z1 : World.cell? wr ⟨w.heap.size + 1, 1, none⟩ = some (.int .u64 0) := hZ.cell 1
      have fz1 := hZ.frozen 1
      have z2 : World.cell? wr ⟨w.heap.size + 1, 2, none⟩ = some (.int .u64 0) := hZ.cell 2
      have fz2 := hZ.frozen 2
      have z3 : World.cell? wr ⟨w.heap.size + 1, 3, none⟩ = some (.slice none 0 0) := hZ.cell 3
      have fz3 := hZ.frozen 3
      have z4 : World.cell? wr ⟨w.heap.size + 1, 4, none⟩ = some (.int .u8 0) := hZ.cell 4
      have fz4 := hZ.frozen 4
      have z5 : World.cell? wr ⟨w.heap.size + 1, 5, none⟩ = some (.int .u8 0) := hZ.cell 5
      have fz5 := hZ.frozen 5
      have z6 : World.cell? wr ⟨w.heap.size + 1, 6, none⟩ = some (.int .u64 0) := hZ.cell 6
      have fz6 := hZ.frozen 6
      have z7 : World.cell? wr ⟨w.heap.size + 1, 7, none⟩ = some (.int .u64 0) := hZ.cell 7
      have fz7 := hZ.frozen 7
      have z8 : World.cell? wr ⟨w.heap.size + 1, 8, none⟩ = some (.int .u64 0) := hZ.cell 8
      have fz8 := hZ.frozen 8
      have z9 : World.cell? wr ⟨w.heap.size + 1, 9, none⟩ = some (.int .u64 0) := hZ.cell 9
      have fz9 := hZ.frozen 9
      have z10 : World.cell? wr ⟨w.heap.size + 1, 10, none⟩ = some (.bool false) := hZ.cell 10
      have fz10 := hZ.frozen 10
      have z11 : World.cell? wr ⟨w.heap.size + 1, 11, none⟩ = some (.int .u64 0) := hZ.cell 11
      have fz11 := hZ.frozen 11
      have z12 : World.cell? wr ⟨w.heap.size + 1, 12, none⟩ = some (.slice none 0 0) := hZ.cell 12
      have fz12 := hZ.frozen 12
      have z13 : World.cell? wr ⟨w.heap.size + 1, 13, none⟩ = some (.int .u64 0) := hZ.cell 13
      have fz13 := hZ.frozen 13
      have z14 : World.cell? wr ⟨w.heap.size + 1, 14, none⟩ = some (.int .u64 0) := hZ.cell 14
      have fz14 := hZ.frozen 14
      have z15 : World.cell? wr ⟨w.heap.size + 1, 15, none⟩ = some (.slice none 0 0) := hZ.cell 15
      have fz15 := hZ.frozen 15
      go_wp2_with fail
      have hOf := hZ.set16 (.int .u64 y.kd) (.int .u64 y.id) (.int .u64 y.al) (.slice nA2 y.nm.length nc2) (.int .u8 y.pr) (.int .u8 y.od) (.int .u64 y.sg) (.int .u64 y.so) (.int .u64 y.eg) (.int .u64 y.eo) (.bool y.sm) (.int .u64 y.cd) (.slice rA2 y.rs.length rc2) (.int .u64 y.n) (.int .u64 y.ve) (.slice vA2 y.vs.length vc2)
      have hBf := below16 hB (Nat.le_succ w.heap.size) (.int .u64 y.kd) (.int .u64 y.id) (.int .u64 y.al) (.slice nA2 y.nm.length nc2) (.int .u8 y.pr) (.int .u8 y.od) (.int .u64 y.sg) (.int .u64 y.so) (.int .u64 y.eg) (.int .u64 y.eo) (.bool y.sm) (.int .u64 y.cd) (.slice rA2 y.rs.length rc2) (.int .u64 y.n) (.int .u64 y.ve) (.slice vA2 y.vs.length vc2)
      replace z0 : World.cell? _ ⟨w.heap.size + 1, 0, none⟩ = some (.int .u64 y.kd) := hOf.cell 0
      replace z1 : World.cell? _ ⟨w.heap.size + 1, 1, none⟩ = some (.int .u64 y.id) := hOf.cell 1
      replace z2 : World.cell? _ ⟨w.heap.size + 1, 2, none⟩ = some (.int .u64 y.al) := hOf.cell 2
      replace z3 : World.cell? _ ⟨w.heap.size + 1, 3, none⟩ = some (.slice nA2 y.nm.length nc2) := hOf.cell 3
      replace z4 : World.cell? _ ⟨w.heap.size + 1, 4, none⟩ = some (.int .u8 y.pr) := hOf.cell 4
      replace z5 : World.cell? _ ⟨w.heap.size + 1, 5, none⟩ = some (.int .u8 y.od) := hOf.cell 5
      replace z6 : World.cell? _ ⟨w.heap.size + 1, 6, none⟩ = some (.int .u64 y.sg) := hOf.cell 6
      replace z7 : World.cell? _ ⟨w.heap.size + 1, 7, none⟩ = some (.int .u64 y.so) := hOf.cell 7
      replace z8 : World.cell? _ ⟨w.heap.size + 1, 8, none⟩ = some (.int .u64 y.eg) := hOf.cell 8
      replace z9 : World.cell? _ ⟨w.heap.size + 1, 9, none⟩ = some (.int .u64 y.eo) := hOf.cell 9
      replace z10 : World.cell? _ ⟨w.heap.size + 1, 10, none⟩ = some (.bool y.sm) := hOf.cell 10
      replace z11 : World.cell? _ ⟨w.heap.size + 1, 11, none⟩ = some (.int .u64 y.cd) := hOf.cell 11
      replace z12 : World.cell? _ ⟨w.heap.size + 1, 12, none⟩ = some (.slice rA2 y.rs.length rc2) := hOf.cell 12
      replace z13 : World.cell? _ ⟨w.heap.size + 1, 13, none⟩ = some (.int .u64 y.n) := hOf.cell 13
      replace z14 : World.cell? _ ⟨w.heap.size + 1, 14, none⟩ = some (.int .u64 y.ve) := hOf.cell 14
      replace z15 : World.cell? _ ⟨w.heap.size + 1, 15, none⟩ = some (.slice vA2 y.vs.length vc2) := hOf.cell 15
      refine bodyPost_ret (v := .agg #[.int .u64 y.kd, .int .u64 y.id, .int .u64 y.al, .slice nA2 y.nm.length nc2, .int .u8 y.pr, .int .u8 y.od, .int .u64 y.sg, .int .u64 y.so, .int .u64 y.eg, .int .u64 y.eo, .bool y.sm, .int .u64 y.cd, .slice rA2 y.rs.length rc2, .int .u64 y.n, .int .u64 y.ve, .slice vA2 y.vs.length vc2]) (by simp [results, Tryd.results49, go_sem, z0, z1, z2, z3, z4, z5, z6, z7, z8, z9, z10, z11, z12, z13, z14, z15]) rfl ?_
      have hMf := hRS _ hBf
      rw [← HY.out]
      exact ⟨_, _, _, rfl, ⟨t1.rd hMf.nm, t2.rd hMf.rs, t3.rd hMf.vs⟩, hBf⟩

end Go.Proofs.YtjijmbpgfabgcaaDoor
