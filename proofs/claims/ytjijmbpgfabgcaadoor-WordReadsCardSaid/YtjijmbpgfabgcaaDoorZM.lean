/-
  What whole of a right message's bytes gives: the walk. No condition.
  What whole of a message's bytes gives. No condition.
-/
import Derived.Test.YtjijmbpgfabgcaaDoorZWwhole
namespace Go.Proofs.YtjijmbpgfabgcaaDoor
open Go.RowKit
set_option linter.unusedVariables false
set_option linter.unusedSimpArgs false

set_option maxHeartbeats 4000000 in
set_option maxRecDepth 100000 in
theorem whole_yes (kd P : Int) (v : Value) (l : List Int) (y : M) (w : World) (hG : Glob w) (hP : P ∈ SH) (hr : RdT w v l) (hk : BytesOk l) (hl : l.length ≤ 1000000) (hn : parse (shP P) (M.nil kd) l = some (y, [])) (hy : y.Ok) (hyf : y.Fit) (hrt : rt y = true) :
    Calls Tryd.prog 35 #[.int .u64 kd, .int .i64 P, v] w fun e w' => WOut (some y) e w' ∧ Below w.heap.size w w' := by
  obtain ⟨A, cap, rfl⟩ := hr.form
  have hmf : ∀ (fn : Fn) (first cap : Array Value) (w : World), (Instr.makeFunc fn first cap).run Tryd.prog w = .ok (.func fn first cap) w := fun _ _ _ _ => rfl
  have hO0 := Blk.new w 31 #[.int .u64 kd, .int .u64 0, .int .u64 0, .slice none 0 0, .int .u8 0, .int .u8 0, .int .u64 0, .int .u64 0, .int .u64 0, .int .u64 0, .bool false, .int .u64 0, .slice none 0 0, .int .u64 0, .int .u64 0, .slice none 0 0]
  have hE0 := Blk.new (w.alloc (.cells #[.int .u64 kd, .int .u64 0, .int .u64 0, .slice none 0 0, .int .u8 0, .int .u8 0, .int .u64 0, .int .u64 0, .int .u64 0, .int .u64 0, .bool false, .int .u64 0, .slice none 0 0, .int .u64 0, .int .u64 0, .slice none 0 0] 31)) 32 #[.int .i64 0]
  have hQ0 := Blk.new ((w.alloc (.cells #[.int .u64 kd, .int .u64 0, .int .u64 0, .slice none 0 0, .int .u8 0, .int .u8 0, .int .u64 0, .int .u64 0, .int .u64 0, .int .u64 0, .bool false, .int .u64 0, .slice none 0 0, .int .u64 0, .int .u64 0, .slice none 0 0] 31)).alloc (.cells #[.int .i64 0] 32)) 95 #[.slice A l.length cap]
  have hO1 := (hO0.alloc (.cells #[.int .i64 0] 32)).alloc (.cells #[.slice A l.length cap] 95)
  rw [show (w.alloc (.cells #[.int .u64 kd, .int .u64 0, .int .u64 0, .slice none 0 0, .int .u8 0, .int .u8 0, .int .u64 0, .int .u64 0, .int .u64 0, .int .u64 0, .bool false, .int .u64 0, .slice none 0 0, .int .u64 0, .int .u64 0, .slice none 0 0] 31)).heap.size = w.heap.size + 1 by simp] at hE0
  rw [show ((w.alloc (.cells #[.int .u64 kd, .int .u64 0, .int .u64 0, .slice none 0 0, .int .u8 0, .int .u8 0, .int .u64 0, .int .u64 0, .int .u64 0, .int .u64 0, .bool false, .int .u64 0, .slice none 0 0, .int .u64 0, .int .u64 0, .slice none 0 0] 31)).alloc (.cells #[.int .i64 0] 32)).heap.size = w.heap.size + 1 + 1 by simp] at hQ0
  have hE1 := hE0.alloc (.cells #[.slice A l.length cap] 95)
  have hb1 : Below w.heap.size w (((w.alloc (.cells #[.int .u64 kd, .int .u64 0, .int .u64 0, .slice none 0 0, .int .u8 0, .int .u8 0, .int .u64 0, .int .u64 0, .int .u64 0, .int .u64 0, .bool false, .int .u64 0, .slice none 0 0, .int .u64 0, .int .u64 0, .slice none 0 0] 31)).alloc (.cells #[.int .i64 0] 32)).alloc (.cells #[.slice A l.length cap] 95)) := (((Below.refl w.heap.size w).alloc (Nat.le_refl _) _).alloc (by simp) _).alloc (by simp; omega) _
  have hr1 := hr.below hb1
  have hM1 : MB w.heap.size (((w.alloc (.cells #[.int .u64 kd, .int .u64 0, .int .u64 0, .slice none 0 0, .int .u8 0, .int .u8 0, .int .u64 0, .int .u64 0, .int .u64 0, .int .u64 0, .bool false, .int .u64 0, .slice none 0 0, .int .u64 0, .int .u64 0, .slice none 0 0] 31)).alloc (.cells #[.int .i64 0] 32)).alloc (.cells #[.slice A l.length cap] 95)) w.heap.size (M.nil kd) := ⟨Nat.le_refl _, .slice none 0 0, .slice none 0 0, .slice none 0 0, hO1, RdT.nil _, RdT.nil _, World.ownsRow_nil _ _ _ _⟩
  have hY1 : Eye w.heap.size (((w.alloc (.cells #[.int .u64 kd, .int .u64 0, .int .u64 0, .slice none 0 0, .int .u8 0, .int .u8 0, .int .u64 0, .int .u64 0, .int .u64 0, .int .u64 0, .bool false, .int .u64 0, .slice none 0 0, .int .u64 0, .int .u64 0, .slice none 0 0] 31)).alloc (.cells #[.int .i64 0] 32)).alloc (.cells #[.slice A l.length cap] 95)) (w.heap.size + 1 + 1) l := ⟨by omega, _, hQ0, hr1⟩
  have hfl := yf_all w.heap.size (w.heap.size + 1 + 1) w.heap.size P kd l _ hP hY1 hM1 hb1.size hk hl
  obtain ⟨o, ho⟩ : ∃ o, o = parse (shP P) (M.nil kd) l := ⟨_, rfl⟩
  rw [← ho] at hfl
  have HO := Lib.hid ho
  clear ho
  have hno : o = some (y, []) := by rw [HO.out, hn]
  subst hno
  go_enter_defers Tryd.func35, Tryd.ntmps35
  go_wp2_with fail
  (with_reducible refine hfl.mono ?_)
  clear hfl
  rintro e w2 ⟨⟨rfl, hY3, hM3⟩, hK3⟩
  have hE3 := hK3.kept hE1 (by decide) (by decide) (by decide)
  obtain ⟨_, yv, hQ3, hyr⟩ := hY3
  obtain ⟨_, nv, rv, vv, hO3, hn3, hr3, ho3⟩ := hM3
  obtain ⟨yA, yc, rfl⟩ := hyr.form
  have cq : w2.cell? ⟨w.heap.size + 1 + 1, 0, none⟩ = some (.slice yA 0 yc) := hQ3.cell 0
  have m0 : w2.cell? ⟨w.heap.size, 0, none⟩ = some (.int .u64 y.kd) := hO3.cell 0
  have m1 : w2.cell? ⟨w.heap.size, 1, none⟩ = some (.int .u64 y.id) := hO3.cell 1
  have m2 : w2.cell? ⟨w.heap.size, 2, none⟩ = some (.int .u64 y.al) := hO3.cell 2
  have m3 : w2.cell? ⟨w.heap.size, 3, none⟩ = some (nv) := hO3.cell 3
  have m4 : w2.cell? ⟨w.heap.size, 4, none⟩ = some (.int .u8 y.pr) := hO3.cell 4
  have m5 : w2.cell? ⟨w.heap.size, 5, none⟩ = some (.int .u8 y.od) := hO3.cell 5
  have m6 : w2.cell? ⟨w.heap.size, 6, none⟩ = some (.int .u64 y.sg) := hO3.cell 6
  have m7 : w2.cell? ⟨w.heap.size, 7, none⟩ = some (.int .u64 y.so) := hO3.cell 7
  have m8 : w2.cell? ⟨w.heap.size, 8, none⟩ = some (.int .u64 y.eg) := hO3.cell 8
  have m9 : w2.cell? ⟨w.heap.size, 9, none⟩ = some (.int .u64 y.eo) := hO3.cell 9
  have m10 : w2.cell? ⟨w.heap.size, 10, none⟩ = some (.bool y.sm) := hO3.cell 10
  have m11 : w2.cell? ⟨w.heap.size, 11, none⟩ = some (.int .u64 y.cd) := hO3.cell 11
  have m12 : w2.cell? ⟨w.heap.size, 12, none⟩ = some (rv) := hO3.cell 12
  have m13 : w2.cell? ⟨w.heap.size, 13, none⟩ = some (.int .u64 y.n) := hO3.cell 13
  have m14 : w2.cell? ⟨w.heap.size, 14, none⟩ = some (.int .u64 y.ve) := hO3.cell 14
  have m15 : w2.cell? ⟨w.heap.size, 15, none⟩ = some (vv) := hO3.cell 15
  have hG2 := (hG.same hb1).below hK3.1 hG.lt
  have hrr := right_all y nv rv vv w2 hG2 ⟨hn3.1, hr3.1, rd_of_own ho3⟩ hy hyf
  rw [hrt] at hrr
  have hsz2 := hK3.sz
  have hb2 := hb1.trans hK3.1
  go_wp2_with fail
  (with_reducible refine hrr.mono ?_)
  clear hrr
  rintro e w5 ⟨rfl, hb5⟩
  have hO5 := hO3.same hb5
  have hE5 := hE3.same hb5
  have hb3 := hb2.trans (hb5.mono hsz2)
  have N5 := hn3.below hb5
  have R5 := hr3.below hb5
  have V5 := own_same ho3 hb5
  clear m0 m1 m2 m3 m4 m5 m6 m7 m8 m9 m10 m11 m12 m13 m14 m15 hO3 hE3 cq hn3 hr3 ho3 hM1 hY1
  obtain ⟨nA, nc, rfl⟩ := N5.1.form
  obtain ⟨rA, rc, rfl⟩ := R5.1.form
  obtain ⟨vA, vc, rfl⟩ := (rd_of_own V5).form
  have m0 : w5.cell? ⟨w.heap.size, 0, none⟩ = some (.int .u64 y.kd) := hO5.cell 0
  have m1 : w5.cell? ⟨w.heap.size, 1, none⟩ = some (.int .u64 y.id) := hO5.cell 1
  have m2 : w5.cell? ⟨w.heap.size, 2, none⟩ = some (.int .u64 y.al) := hO5.cell 2
  have m3 : w5.cell? ⟨w.heap.size, 3, none⟩ = some (.slice nA y.nm.length nc) := hO5.cell 3
  have m4 : w5.cell? ⟨w.heap.size, 4, none⟩ = some (.int .u8 y.pr) := hO5.cell 4
  have m5 : w5.cell? ⟨w.heap.size, 5, none⟩ = some (.int .u8 y.od) := hO5.cell 5
  have m6 : w5.cell? ⟨w.heap.size, 6, none⟩ = some (.int .u64 y.sg) := hO5.cell 6
  have m7 : w5.cell? ⟨w.heap.size, 7, none⟩ = some (.int .u64 y.so) := hO5.cell 7
  have m8 : w5.cell? ⟨w.heap.size, 8, none⟩ = some (.int .u64 y.eg) := hO5.cell 8
  have m9 : w5.cell? ⟨w.heap.size, 9, none⟩ = some (.int .u64 y.eo) := hO5.cell 9
  have m10 : w5.cell? ⟨w.heap.size, 10, none⟩ = some (.bool y.sm) := hO5.cell 10
  have m11 : w5.cell? ⟨w.heap.size, 11, none⟩ = some (.int .u64 y.cd) := hO5.cell 11
  have m12 : w5.cell? ⟨w.heap.size, 12, none⟩ = some (.slice rA y.rs.length rc) := hO5.cell 12
  have m13 : w5.cell? ⟨w.heap.size, 13, none⟩ = some (.int .u64 y.n) := hO5.cell 13
  have m14 : w5.cell? ⟨w.heap.size, 14, none⟩ = some (.int .u64 y.ve) := hO5.cell 14
  have m15 : w5.cell? ⟨w.heap.size, 15, none⟩ = some (.slice vA y.vs.length vc) := hO5.cell 15
  have f0 := hO5.frozen 0
  have f1 := hO5.frozen 1
  have f2 := hO5.frozen 2
  have f3 := hO5.frozen 3
  have f4 := hO5.frozen 4
  have f5 := hO5.frozen 5
  have f6 := hO5.frozen 6
  have f7 := hO5.frozen 7
  have f8 := hO5.frozen 8
  have f9 := hO5.frozen 9
  have f10 := hO5.frozen 10
  have f11 := hO5.frozen 11
  have f12 := hO5.frozen 12
  have f13 := hO5.frozen 13
  have f14 := hO5.frozen 14
  have f15 := hO5.frozen 15
  have ce : w5.cell? ⟨w.heap.size + 1, 0, none⟩ = some (.int .i64 0) := hE5.cell 0
  have fe := hE5.frozen 0
  go_wp2_with fail
  (with_reducible refine (must_yes w5).mono ?_)
  rintro e w2' ⟨rfl, rfl⟩
  go_wp2_with fail
  generalize hW6 : World.setCell _ ⟨w.heap.size + 1, 0, none⟩ _ = W6
  have hne : w.heap.size ≠ w.heap.size + 1 := by omega
  have hO6 : Blk W6 w.heap.size 31 #[.int .u64 y.kd, .int .u64 y.id, .int .u64 y.al, .slice nA y.nm.length nc, .int .u8 y.pr, .int .u8 y.od, .int .u64 y.sg, .int .u64 y.so, .int .u64 y.eg, .int .u64 y.eo, .bool y.sm, .int .u64 y.cd, .slice rA y.rs.length rc, .int .u64 y.n, .int .u64 y.ve, .slice vA y.vs.length vc] := by rw [← hW6]; exact (hO5.set16 (.int .u64 y.kd) (.int .u64 y.id) (.int .u64 y.al) (.slice nA y.nm.length nc) (.int .u8 y.pr) (.int .u8 y.od) (.int .u64 y.sg) (.int .u64 y.so) (.int .u64 y.eg) (.int .u64 y.eo) (.bool y.sm) (.int .u64 y.cd) (.slice rA y.rs.length rc) (.int .u64 y.n) (.int .u64 y.ve) (.slice vA y.vs.length vc)).far (p := ⟨w.heap.size + 1, 0, none⟩) hne _
  have hE6 : Blk W6 (w.heap.size + 1) 32 #[.int .i64 0] := by rw [← hW6]; simpa using (far16 hE5 (Ne.symm hne) (.int .u64 y.kd) (.int .u64 y.id) (.int .u64 y.al) (.slice nA y.nm.length nc) (.int .u8 y.pr) (.int .u8 y.od) (.int .u64 y.sg) (.int .u64 y.so) (.int .u64 y.eg) (.int .u64 y.eo) (.bool y.sm) (.int .u64 y.cd) (.slice rA y.rs.length rc) (.int .u64 y.n) (.int .u64 y.ve) (.slice vA y.vs.length vc)).set_ 0 (.int .i64 0)
  have hK6 : ∀ g t cs, Blk w5 g t cs → t ≠ 31 → t ≠ 32 → Blk W6 g t cs := fun g t cs x n1 n2 => by rw [← hW6]; exact (far16 x (x.ne_ hO5 n1) (.int .u64 y.kd) (.int .u64 y.id) (.int .u64 y.al) (.slice nA y.nm.length nc) (.int .u8 y.pr) (.int .u8 y.od) (.int .u64 y.sg) (.int .u64 y.so) (.int .u64 y.eg) (.int .u64 y.eo) (.bool y.sm) (.int .u64 y.cd) (.slice rA y.rs.length rc) (.int .u64 y.n) (.int .u64 y.ve) (.slice vA y.vs.length vc)).far (p := ⟨w.heap.size + 1, 0, none⟩) (x.ne_ hE5 n2) _
  have hB6 : Below w.heap.size w W6 := by rw [← hW6]; exact Below.setCell (p := ⟨w.heap.size + 1, 0, none⟩) (below16 hb3 (Nat.le_refl _) (.int .u64 y.kd) (.int .u64 y.id) (.int .u64 y.al) (.slice nA y.nm.length nc) (.int .u8 y.pr) (.int .u8 y.od) (.int .u64 y.sg) (.int .u64 y.so) (.int .u64 y.eg) (.int .u64 y.eo) (.bool y.sm) (.int .u64 y.cd) (.slice rA y.rs.length rc) (.int .u64 y.n) (.int .u64 y.ve) (.slice vA y.vs.length vc)) (Nat.le_succ _) _
  have hs6 : w5.heap.size ≤ W6.heap.size := by rw [← hW6]; simp
  have N6 : RdT W6 (.slice nA y.nm.length nc) y.nm := rdt_blk N5 (fun g cs x => hK6 g 5 cs x (by decide) (by decide)) hs6
  have R6 : RdT W6 (.slice rA y.rs.length rc) y.rs := rdt_blk R5 (fun g cs x => hK6 g 5 cs x (by decide) (by decide)) hs6
  have V6 := own_blks V5 (fun g cs x => hK6 g 22 cs x (by decide) (by decide))
  clear m0 f0 m1 f1 m2 f2 m3 f3 m4 f4 m5 f5 m6 f6 m7 f7 m8 f8 m9 f9 m10 f10 m11 f11 m12 f12 m13 f13 m14 f14 m15 f15 hW6 hK6 hO5 hE5 ce fe N5 R5 V5
  refine leaves_cons (f := 51) (args := #[.pointer (some ⟨w.heap.size, 0, none⟩), .pointer (some ⟨w.heap.size + 1, 0, none⟩)]) (by simp) (by simp [go_sem]) ?_
  refine (catch_idle #[] W6 _ _).mono ?_
  rintro e u' w7 ⟨rfl, rfl, rfl⟩
  have y0 : w7.cell? ⟨w.heap.size, 0, none⟩ = some (.int .u64 y.kd) := hO6.cell 0
  have y1 : w7.cell? ⟨w.heap.size, 1, none⟩ = some (.int .u64 y.id) := hO6.cell 1
  have y2 : w7.cell? ⟨w.heap.size, 2, none⟩ = some (.int .u64 y.al) := hO6.cell 2
  have y3 : w7.cell? ⟨w.heap.size, 3, none⟩ = some (.slice nA y.nm.length nc) := hO6.cell 3
  have y4 : w7.cell? ⟨w.heap.size, 4, none⟩ = some (.int .u8 y.pr) := hO6.cell 4
  have y5 : w7.cell? ⟨w.heap.size, 5, none⟩ = some (.int .u8 y.od) := hO6.cell 5
  have y6 : w7.cell? ⟨w.heap.size, 6, none⟩ = some (.int .u64 y.sg) := hO6.cell 6
  have y7 : w7.cell? ⟨w.heap.size, 7, none⟩ = some (.int .u64 y.so) := hO6.cell 7
  have y8 : w7.cell? ⟨w.heap.size, 8, none⟩ = some (.int .u64 y.eg) := hO6.cell 8
  have y9 : w7.cell? ⟨w.heap.size, 9, none⟩ = some (.int .u64 y.eo) := hO6.cell 9
  have y10 : w7.cell? ⟨w.heap.size, 10, none⟩ = some (.bool y.sm) := hO6.cell 10
  have y11 : w7.cell? ⟨w.heap.size, 11, none⟩ = some (.int .u64 y.cd) := hO6.cell 11
  have y12 : w7.cell? ⟨w.heap.size, 12, none⟩ = some (.slice rA y.rs.length rc) := hO6.cell 12
  have y13 : w7.cell? ⟨w.heap.size, 13, none⟩ = some (.int .u64 y.n) := hO6.cell 13
  have y14 : w7.cell? ⟨w.heap.size, 14, none⟩ = some (.int .u64 y.ve) := hO6.cell 14
  have y15 : w7.cell? ⟨w.heap.size, 15, none⟩ = some (.slice vA y.vs.length vc) := hO6.cell 15
  have ye : w7.cell? ⟨w.heap.size + 1, 0, none⟩ = some (.int .i64 0) := hE6.cell 0
  simp [Leaves, settle, results, Tryd.results35, go_sem, y0, y1, y2, y3, y4, y5, y6, y7, y8, y9, y10, y11, y12, y13, y14, y15, ye]
  exact ⟨⟨_, _, _, rfl, N6, R6, _, V6⟩, hB6⟩

end Go.Proofs.YtjijmbpgfabgcaaDoor
namespace Go.Proofs.YtjijmbpgfabgcaaDoor
open Go.RowKit
set_option linter.unusedVariables false
set_option linter.unusedSimpArgs false

theorem whole_all (kd : Int) (v : Value) (l : List Int) (w : World) (hG : Glob w) (hP : (prt kd).2 = true) (hr : RdT w v l) (hk : BytesOk l) (hl : l.length ≤ 90000) :
    Calls Tryd.prog 35 #[.int .u64 kd, .int .i64 (prt kd).1, v] w fun e w' => WOut (wholeR kd l) e w' ∧ Below w.heap.size w w' := by
  have hm := prt_mem kd hP
  have hkd := prt_kd hP
  unfold wholeR
  rcases hp : parse (shP (prt kd).1) (M.nil kd) l with _ | ⟨y, r⟩
  · exact whole_none kd _ v l w hm hr hk (by omega) hp
  · have hri := parse_ri (N := 90000) (kd := kd) (shP (prt kd).1) 0 (M.nil kd) y l r (shP_ok _ hm).1 ⟨nil_ok (by omega), hk, hl, Nat.zero_le _, Nat.zero_le _, Nat.zero_le _, rfl⟩ hp
    rcases r with _ | ⟨x, r⟩
    · have hyf : y.Fit := ⟨by have := hri.nl; omega, by have := hri.rl; omega, by have := hri.vl; have := shP_len _ hm; omega⟩
      cases hrt : rt y with
      | true => simpa [hrt] using whole_yes kd _ v l y w hG hm hr hk (by omega) hp hri.ok hyf hrt
      | false => simpa [hrt] using whole_wrong kd _ v l y w hG hm hr hk (by omega) hp hri.ok hyf hrt
    · simpa using whole_more kd _ v l y x r w hm hr hk (by omega) hp

end Go.Proofs.YtjijmbpgfabgcaaDoor
