/-
  The reference's Right: its numbers, its letters. No condition.
-/
import Derived.Test.YtjijmbpgfabgcaaDoorZRright
namespace Go.Proofs.YtjijmbpgfabgcaaDoor
open Go.RowKit
set_option linter.unusedVariables false
set_option linter.unusedSimpArgs false

theorem ok_take {m : M} {L : List Int} {pos : Nat} (h : ∀ c ∈ L.take pos, okL m c = true) (hlt : pos < L.length) {d : Int} (hd : L.getD pos 0 = d) (hk : okL m d = true) : ∀ c ∈ L.take (pos + 1), okL m c = true := by
  rw [List.take_succ_eq_append_getElem hlt]
  intro c hc
  rcases List.mem_append.1 hc with h1 | h1
  · exact h c h1
  · simp only [List.mem_singleton] at h1
    rw [h1, show L[pos] = L.getD pos 0 by simp [List.getD, hlt], hd]
    exact hk
set_option maxHeartbeats 4000000 in
set_option maxRecDepth 100000 in
theorem rright_yes (m : M) (nv rv vv : Value) (w : World) (hM : MV w m nv rv vv) (h : m.Ok) (hf : m.Fit) (hk : (prt m.kd).2 = true) (R : Bool) (hR : R = true ↔ Right m) (hx : m = only m (shK m.kd)) (hr : m.rs.length ≤ 64) :
    Calls Tryd.prog 30 #[.agg (m.cells nv rv vv)] w fun e w' => e = .returned (.bool R) ∧ Below w.heap.size w w' := by
  obtain ⟨iU, hiU, hzU⟩ := Option.map_eq_some_iff.1 infoU64
  simp only [Prod.mk.injEq] at hzU
  obtain ⟨hu0, hu1, hu2⟩ := hzU
  have hfv := hf.2.2
  obtain ⟨nA, nc, rfl⟩ := hM.nm.form
  obtain ⟨rA, rc, rfl⟩ := hM.rs.form
  obtain ⟨vA, vc, rfl⟩ := hM.vs.form
  have hO0 := Blk.new w 28 #[.int .u64 m.kd, .int .u64 m.id, .int .u64 m.al, .slice nA m.nm.length nc, .int .u8 m.pr, .int .u8 m.od, .int .u64 m.sg, .int .u64 m.so, .int .u64 m.eg, .int .u64 m.eo, .bool m.sm, .int .u64 m.cd, .slice rA m.rs.length rc, .int .u64 m.n, .int .u64 m.ve, .slice vA m.vs.length vc]
  have hB0 := (Below.refl w.heap.size w).alloc (Nat.le_refl _) (.cells #[.int .u64 m.kd, .int .u64 m.id, .int .u64 m.al, .slice nA m.nm.length nc, .int .u8 m.pr, .int .u8 m.od, .int .u64 m.sg, .int .u64 m.so, .int .u64 m.eg, .int .u64 m.eo, .bool m.sm, .int .u64 m.cd, .slice rA m.rs.length rc, .int .u64 m.n, .int .u64 m.ve, .slice vA m.vs.length vc] 28)
  have hsh := rshape_all m.kd
  have hnd : sbs (shK m.kd) ≠ ⟨#[45]⟩ := fun e => by rw [(dash m.kd).1 e] at hk; cases hk
  have hLK := letters hk
  have hxk := only_ok h hLK.2
  have hon := fun W h => ronly_all m (.slice nA m.nm.length nc) (.slice rA m.rs.length rc) (.slice vA m.vs.length vc) W h hk
  obtain ⟨L, hL⟩ : ∃ L, L = shK m.kd := ⟨_, rfl⟩
  obtain ⟨hLe, hLL⟩ := hLK
  rw [← hL] at hsh hnd hon hxk hLe hLL
  obtain ⟨x, hX⟩ : ∃ x, x = only m L := ⟨_, rfl⟩
  rw [← hL, ← hX] at hx
  have HXE := Lib.hid hx
  clear hx
  rw [← hX] at hxk
  have HX := Lib.hid hX
  have HKK := Lib.hid hk
  have HLE := Lib.hid hLe
  have HR := Lib.hid hR
  have HND := Lib.hid hnd
  clear hnd
  have hstr : ((sbs L).toList == [45]) = false := str_ne HND.out
  have hRS := fun (W : World) (h : Below w.heap.size w W) => hM.below h
  clear hM hL hX hLe hR hk
  have a0 : World.cell? (w.alloc (.cells #[.int .u64 m.kd, .int .u64 m.id, .int .u64 m.al, .slice nA m.nm.length nc, .int .u8 m.pr, .int .u8 m.od, .int .u64 m.sg, .int .u64 m.so, .int .u64 m.eg, .int .u64 m.eo, .bool m.sm, .int .u64 m.cd, .slice rA m.rs.length rc, .int .u64 m.n, .int .u64 m.ve, .slice vA m.vs.length vc] 28)) ⟨w.heap.size, 0, none⟩ = some (.int .u64 m.kd) := hO0.cell 0
  go_enter Tryd.func30, Tryd.ntmps30
  go_wp2_with fail
  (with_reducible refine (hsh _).mono ?_)
  clear hsh
  rintro e w1 ⟨rfl, rfl⟩
  go_upto_region 2 with fail
  refine wp_world (fun wz => Blk wz w.heap.size 28 #[.int .u64 m.kd, .int .u64 m.id, .int .u64 m.al, .slice nA m.nm.length nc, .int .u8 m.pr, .int .u8 m.od, .int .u64 m.sg, .int .u64 m.so, .int .u64 m.eg, .int .u64 m.eo, .bool m.sm, .int .u64 m.cd, .slice rA m.rs.length rc, .int .u64 m.n, .int .u64 m.ve, .slice vA m.vs.length vc] ∧ Below w.heap.size w wz) ⟨hO0, hB0⟩ ?_
  clear hO0 hB0 a0
  rintro w1 ⟨hO1, hB1⟩
  have c0 : World.cell? w1 ⟨w.heap.size, 0, none⟩ = some (.int .u64 m.kd) := hO1.cell 0
  have c1 : World.cell? w1 ⟨w.heap.size, 1, none⟩ = some (.int .u64 m.id) := hO1.cell 1
  have c2 : World.cell? w1 ⟨w.heap.size, 2, none⟩ = some (.int .u64 m.al) := hO1.cell 2
  have c3 : World.cell? w1 ⟨w.heap.size, 3, none⟩ = some (.slice nA m.nm.length nc) := hO1.cell 3
  have c4 : World.cell? w1 ⟨w.heap.size, 4, none⟩ = some (.int .u8 m.pr) := hO1.cell 4
  have c5 : World.cell? w1 ⟨w.heap.size, 5, none⟩ = some (.int .u8 m.od) := hO1.cell 5
  have c6 : World.cell? w1 ⟨w.heap.size, 6, none⟩ = some (.int .u64 m.sg) := hO1.cell 6
  have c7 : World.cell? w1 ⟨w.heap.size, 7, none⟩ = some (.int .u64 m.so) := hO1.cell 7
  have c8 : World.cell? w1 ⟨w.heap.size, 8, none⟩ = some (.int .u64 m.eg) := hO1.cell 8
  have c9 : World.cell? w1 ⟨w.heap.size, 9, none⟩ = some (.int .u64 m.eo) := hO1.cell 9
  have c10 : World.cell? w1 ⟨w.heap.size, 10, none⟩ = some (.bool m.sm) := hO1.cell 10
  have c11 : World.cell? w1 ⟨w.heap.size, 11, none⟩ = some (.int .u64 m.cd) := hO1.cell 11
  have c12 : World.cell? w1 ⟨w.heap.size, 12, none⟩ = some (.slice rA m.rs.length rc) := hO1.cell 12
  have c13 : World.cell? w1 ⟨w.heap.size, 13, none⟩ = some (.int .u64 m.n) := hO1.cell 13
  have c14 : World.cell? w1 ⟨w.heap.size, 14, none⟩ = some (.int .u64 m.ve) := hO1.cell 14
  have c15 : World.cell? w1 ⟨w.heap.size, 15, none⟩ = some (.slice vA m.vs.length vc) := hO1.cell 15
  have hOd := hO1.drew
  have hBd : Below w.heap.size w w1.drew := below_drewN hB1 1
  have hr2 : ¬ (64 : Int) < (m.rs.length : Int) := by omega
  have HR64 := Lib.hid hr
  clear hr
  refine wp_region_held_drew (S := fun w' => w'.cell? ⟨w.heap.size, 0, none⟩ = some (.int .u64 m.kd) ∧ w'.cell? ⟨w.heap.size, 1, none⟩ = some (.int .u64 m.id) ∧ w'.cell? ⟨w.heap.size, 2, none⟩ = some (.int .u64 m.al) ∧ w'.cell? ⟨w.heap.size, 3, none⟩ = some (.slice nA m.nm.length nc) ∧ w'.cell? ⟨w.heap.size, 4, none⟩ = some (.int .u8 m.pr) ∧ w'.cell? ⟨w.heap.size, 5, none⟩ = some (.int .u8 m.od) ∧ w'.cell? ⟨w.heap.size, 6, none⟩ = some (.int .u64 m.sg) ∧ w'.cell? ⟨w.heap.size, 7, none⟩ = some (.int .u64 m.so) ∧ w'.cell? ⟨w.heap.size, 8, none⟩ = some (.int .u64 m.eg) ∧ w'.cell? ⟨w.heap.size, 9, none⟩ = some (.int .u64 m.eo) ∧ w'.cell? ⟨w.heap.size, 10, none⟩ = some (.bool m.sm) ∧ w'.cell? ⟨w.heap.size, 11, none⟩ = some (.int .u64 m.cd) ∧ w'.cell? ⟨w.heap.size, 12, none⟩ = some (.slice rA m.rs.length rc) ∧ w'.cell? ⟨w.heap.size, 13, none⟩ = some (.int .u64 m.n) ∧ w'.cell? ⟨w.heap.size, 14, none⟩ = some (.int .u64 m.ve) ∧ w'.cell? ⟨w.heap.size, 15, none⟩ = some (.slice vA m.vs.length vc)) (by kernel_rfl) (by first | exact ⟨c0, c1, c2, c3, c4, c5, c6, c7, c8, c9, c10, c11, c12, c13, c14, c15⟩ | exact ⟨a0, a1, a2, a3, a4, a5, a6, a7, a8, a9, a10, a11, a12, a13, a14, a15⟩ | exact ⟨b0, b1, b2, b3, b4, b5, b6, b7, b8, b9, b10, b11, b12, b13, b14, b15⟩) (fun _ => ?_)
  refine wpAnyH_take (i := 0) (oi := ({ dst := some 12, op := Op.move (Operand.tmp 3), type := 9, pos := _, after := #[], guard := none } : Oper)) (v := ?_) rfl (by kernel_rfl) (by kernel_rfl) (by kernel_rfl) (fun _ _ _ h => h) (Or.inl ⟨by rfl, ?_⟩) (by first | exact ⟨c0, c1, c2, c3, c4, c5, c6, c7, c8, c9, c10, c11, c12, c13, c14, c15⟩ | exact ⟨a0, a1, a2, a3, a4, a5, a6, a7, a8, a9, a10, a11, a12, a13, a14, a15⟩ | exact ⟨b0, b1, b2, b3, b4, b5, b6, b7, b8, b9, b10, b11, b12, b13, b14, b15⟩) ?_
  rotate_left
  · intro w hSw
    try dsimp only at hSw
    go_simp
    try with_reducible rfl
  try simp only [Act.put, List.setIfInBounds_toArray, List.set_cons_zero, List.set_cons_succ]
  refine wpAnyH_take (i := 1) (oi := ({ dst := some 13, op := Op.binOp BinOp.eql 9 (Operand.tmp 12) (Operand.const (Value.string { data := #[45] })) 9, type := 4, pos := _, after := #[{ on := 0, ground := Ground.data }], guard := none } : Oper)) (v := ?_) rfl (by kernel_rfl) (by kernel_rfl) (by kernel_rfl) (fun _ _ _ h => h) (Or.inl ⟨by rfl, ?_⟩) (by first | exact ⟨c0, c1, c2, c3, c4, c5, c6, c7, c8, c9, c10, c11, c12, c13, c14, c15⟩ | exact ⟨a0, a1, a2, a3, a4, a5, a6, a7, a8, a9, a10, a11, a12, a13, a14, a15⟩ | exact ⟨b0, b1, b2, b3, b4, b5, b6, b7, b8, b9, b10, b11, b12, b13, b14, b15⟩) ?_
  rotate_left
  · intro w hSw
    try dsimp only at hSw
    go_simp
    try with_reducible rfl
  try simp only [Act.put, List.setIfInBounds_toArray, List.set_cons_zero, List.set_cons_succ]
  refine wpAnyH_take (i := 2) (oi := ({ dst := some 14, op := Op.move (Operand.tmp 13), type := 4, pos := _, after := #[{ on := 1, ground := Ground.data }], guard := none } : Oper)) (v := ?_) rfl (by kernel_rfl) (by kernel_rfl) (by kernel_rfl) (fun _ _ _ h => h) (Or.inl ⟨by rfl, ?_⟩) (by first | exact ⟨c0, c1, c2, c3, c4, c5, c6, c7, c8, c9, c10, c11, c12, c13, c14, c15⟩ | exact ⟨a0, a1, a2, a3, a4, a5, a6, a7, a8, a9, a10, a11, a12, a13, a14, a15⟩ | exact ⟨b0, b1, b2, b3, b4, b5, b6, b7, b8, b9, b10, b11, b12, b13, b14, b15⟩) ?_
  rotate_left
  · intro w hSw
    try dsimp only at hSw
    go_simp
    try with_reducible rfl
  try simp only [Act.put, List.setIfInBounds_toArray, List.set_cons_zero, List.set_cons_succ]
  refine wpAnyH_take (i := 3) (oi := ({ dst := some 15, op := Op.load 28 (Operand.tmp 1), type := 28, pos := _, after := #[{ on := 2, ground := Ground.guard }], guard := some (2, false) } : Oper)) (v := ?_) rfl (by kernel_rfl) (by kernel_rfl) (by kernel_rfl) (fun _ _ _ h => h) (Or.inl ⟨by rfl, ?_⟩) (by first | exact ⟨c0, c1, c2, c3, c4, c5, c6, c7, c8, c9, c10, c11, c12, c13, c14, c15⟩ | exact ⟨a0, a1, a2, a3, a4, a5, a6, a7, a8, a9, a10, a11, a12, a13, a14, a15⟩ | exact ⟨b0, b1, b2, b3, b4, b5, b6, b7, b8, b9, b10, b11, b12, b13, b14, b15⟩) ?_
  rotate_left
  · intro w hSw
    try dsimp only at hSw
    go_simp
    try with_reducible rfl
  try simp only [Act.put, List.setIfInBounds_toArray, List.set_cons_zero, List.set_cons_succ]
  refine wpAnyH_take (i := 4) (oi := ({ dst := some 16, op := Op.load 28 (Operand.tmp 1), type := 28, pos := _, after := #[{ on := 2, ground := Ground.guard }], guard := some (2, false) } : Oper)) (v := ?_) rfl (by kernel_rfl) (by kernel_rfl) (by kernel_rfl) (fun _ _ _ h => h) (Or.inl ⟨by rfl, ?_⟩) (by first | exact ⟨c0, c1, c2, c3, c4, c5, c6, c7, c8, c9, c10, c11, c12, c13, c14, c15⟩ | exact ⟨a0, a1, a2, a3, a4, a5, a6, a7, a8, a9, a10, a11, a12, a13, a14, a15⟩ | exact ⟨b0, b1, b2, b3, b4, b5, b6, b7, b8, b9, b10, b11, b12, b13, b14, b15⟩) ?_
  rotate_left
  · intro w hSw
    try dsimp only at hSw
    go_simp
    try with_reducible rfl
  try simp only [Act.put, List.setIfInBounds_toArray, List.set_cons_zero, List.set_cons_succ]
  refine wpAnyH_ready (rs := [5]) (by kernel_rfl) (by simp) ?_
  refine AllReadyH.cons (o := ({ dst := some 17, op := Op.call { callee := Callee.value (Operand.func 49), args := #[Operand.tmp 16], argTypes := #[28] }, type := 28, pos := _, after := #[{ on := 4, ground := Ground.data }, { on := 2, ground := Ground.chain }, { on := 2, ground := Ground.guard }], guard := some (2, false) } : Oper)) rfl (fun K hK => ?_) AllReadyH.nil
  go_simp
  go_at_call 49
  (with_reducible refine (hon _ (hRS _ hBd)).mono ?_)
  rintro e w2 ⟨nv2, rv2, vv2, rfl, hM2, hb2⟩
  rw [← HX.out] at hM2 ⊢
  obtain ⟨nA2, nc2, rfl⟩ := hM2.nm.form
  obtain ⟨rA2, rc2, rfl⟩ := hM2.rs.form
  obtain ⟨vA2, vc2, rfl⟩ := hM2.vs.form
  have hO2 := hOd.same hb2
  have hB2 := hBd.trans (hb2.mono hBd.size)
  have a0 : World.cell? w2 ⟨w.heap.size, 0, none⟩ = some (.int .u64 m.kd) := hO2.cell 0
  have a1 : World.cell? w2 ⟨w.heap.size, 1, none⟩ = some (.int .u64 m.id) := hO2.cell 1
  have a2 : World.cell? w2 ⟨w.heap.size, 2, none⟩ = some (.int .u64 m.al) := hO2.cell 2
  have a3 : World.cell? w2 ⟨w.heap.size, 3, none⟩ = some (.slice nA m.nm.length nc) := hO2.cell 3
  have a4 : World.cell? w2 ⟨w.heap.size, 4, none⟩ = some (.int .u8 m.pr) := hO2.cell 4
  have a5 : World.cell? w2 ⟨w.heap.size, 5, none⟩ = some (.int .u8 m.od) := hO2.cell 5
  have a6 : World.cell? w2 ⟨w.heap.size, 6, none⟩ = some (.int .u64 m.sg) := hO2.cell 6
  have a7 : World.cell? w2 ⟨w.heap.size, 7, none⟩ = some (.int .u64 m.so) := hO2.cell 7
  have a8 : World.cell? w2 ⟨w.heap.size, 8, none⟩ = some (.int .u64 m.eg) := hO2.cell 8
  have a9 : World.cell? w2 ⟨w.heap.size, 9, none⟩ = some (.int .u64 m.eo) := hO2.cell 9
  have a10 : World.cell? w2 ⟨w.heap.size, 10, none⟩ = some (.bool m.sm) := hO2.cell 10
  have a11 : World.cell? w2 ⟨w.heap.size, 11, none⟩ = some (.int .u64 m.cd) := hO2.cell 11
  have a12 : World.cell? w2 ⟨w.heap.size, 12, none⟩ = some (.slice rA m.rs.length rc) := hO2.cell 12
  have a13 : World.cell? w2 ⟨w.heap.size, 13, none⟩ = some (.int .u64 m.n) := hO2.cell 13
  have a14 : World.cell? w2 ⟨w.heap.size, 14, none⟩ = some (.int .u64 m.ve) := hO2.cell 14
  have a15 : World.cell? w2 ⟨w.heap.size, 15, none⟩ = some (.slice vA m.vs.length vc) := hO2.cell 15
  have hsm := rsame_all m x (.slice nA m.nm.length nc) (.slice rA m.rs.length rc) (.slice vA m.vs.length vc) (.slice nA2 x.nm.length nc2) (.slice rA2 x.rs.length rc2) (.slice vA2 x.vs.length vc2) w2 (hRS _ hB2) hM2 h hxk true ⟨fun _ => HXE.out, fun _ => rfl⟩
  refine hK.out _ _ (by first | exact ⟨c0, c1, c2, c3, c4, c5, c6, c7, c8, c9, c10, c11, c12, c13, c14, c15⟩ | exact ⟨a0, a1, a2, a3, a4, a5, a6, a7, a8, a9, a10, a11, a12, a13, a14, a15⟩ | exact ⟨b0, b1, b2, b3, b4, b5, b6, b7, b8, b9, b10, b11, b12, b13, b14, b15⟩) (fun _ => ?_)
  clear hK K
  try simp only [Act.put, List.setIfInBounds_toArray, List.set_cons_zero, List.set_cons_succ]
  refine wpAnyH_ready (rs := [6]) (by kernel_rfl) (by simp) ?_
  refine AllReadyH.cons (o := ({ dst := some 18, op := Op.call { callee := Callee.value (Operand.func 14), args := #[Operand.tmp 15, Operand.tmp 17], argTypes := #[28, 28] }, type := 4, pos := _, after := #[{ on := 3, ground := Ground.data }, { on := 5, ground := Ground.data }, { on := 5, ground := Ground.chain }, { on := 2, ground := Ground.guard }], guard := some (2, false) } : Oper)) rfl (fun K hK => ?_) AllReadyH.nil
  go_simp
  go_at_call 14
  (with_reducible refine hsm.mono ?_)
  clear hsm
  rintro e w3 ⟨rfl, hb3⟩
  have hO3 := hO2.same hb3
  have hB3 := hB2.trans (hb3.mono hB2.size)
  have b0 : World.cell? w3 ⟨w.heap.size, 0, none⟩ = some (.int .u64 m.kd) := hO3.cell 0
  have b1 : World.cell? w3 ⟨w.heap.size, 1, none⟩ = some (.int .u64 m.id) := hO3.cell 1
  have b2 : World.cell? w3 ⟨w.heap.size, 2, none⟩ = some (.int .u64 m.al) := hO3.cell 2
  have b3 : World.cell? w3 ⟨w.heap.size, 3, none⟩ = some (.slice nA m.nm.length nc) := hO3.cell 3
  have b4 : World.cell? w3 ⟨w.heap.size, 4, none⟩ = some (.int .u8 m.pr) := hO3.cell 4
  have b5 : World.cell? w3 ⟨w.heap.size, 5, none⟩ = some (.int .u8 m.od) := hO3.cell 5
  have b6 : World.cell? w3 ⟨w.heap.size, 6, none⟩ = some (.int .u64 m.sg) := hO3.cell 6
  have b7 : World.cell? w3 ⟨w.heap.size, 7, none⟩ = some (.int .u64 m.so) := hO3.cell 7
  have b8 : World.cell? w3 ⟨w.heap.size, 8, none⟩ = some (.int .u64 m.eg) := hO3.cell 8
  have b9 : World.cell? w3 ⟨w.heap.size, 9, none⟩ = some (.int .u64 m.eo) := hO3.cell 9
  have b10 : World.cell? w3 ⟨w.heap.size, 10, none⟩ = some (.bool m.sm) := hO3.cell 10
  have b11 : World.cell? w3 ⟨w.heap.size, 11, none⟩ = some (.int .u64 m.cd) := hO3.cell 11
  have b12 : World.cell? w3 ⟨w.heap.size, 12, none⟩ = some (.slice rA m.rs.length rc) := hO3.cell 12
  have b13 : World.cell? w3 ⟨w.heap.size, 13, none⟩ = some (.int .u64 m.n) := hO3.cell 13
  have b14 : World.cell? w3 ⟨w.heap.size, 14, none⟩ = some (.int .u64 m.ve) := hO3.cell 14
  have b15 : World.cell? w3 ⟨w.heap.size, 15, none⟩ = some (.slice vA m.vs.length vc) := hO3.cell 15
  refine hK.out _ _ (by first | exact ⟨c0, c1, c2, c3, c4, c5, c6, c7, c8, c9, c10, c11, c12, c13, c14, c15⟩ | exact ⟨a0, a1, a2, a3, a4, a5, a6, a7, a8, a9, a10, a11, a12, a13, a14, a15⟩ | exact ⟨b0, b1, b2, b3, b4, b5, b6, b7, b8, b9, b10, b11, b12, b13, b14, b15⟩) (fun _ => ?_)
  clear hK K
  try simp only [Act.put, List.setIfInBounds_toArray, List.set_cons_zero, List.set_cons_succ]
  refine wpAnyH_take (i := 7) (oi := ({ dst := some 19, op := Op.unOp UnOp.not 4 (Operand.tmp 18), type := 4, pos := _, after := #[{ on := 6, ground := Ground.data }, { on := 2, ground := Ground.guard }], guard := some (2, false) } : Oper)) (v := ?_) rfl (by kernel_rfl) (by kernel_rfl) (by kernel_rfl) (fun _ _ _ h => h) (Or.inl ⟨by rfl, ?_⟩) (by first | exact ⟨c0, c1, c2, c3, c4, c5, c6, c7, c8, c9, c10, c11, c12, c13, c14, c15⟩ | exact ⟨a0, a1, a2, a3, a4, a5, a6, a7, a8, a9, a10, a11, a12, a13, a14, a15⟩ | exact ⟨b0, b1, b2, b3, b4, b5, b6, b7, b8, b9, b10, b11, b12, b13, b14, b15⟩) ?_
  rotate_left
  · intro w hSw
    try dsimp only at hSw
    go_simp
    try with_reducible rfl
  try simp only [Act.put, List.setIfInBounds_toArray, List.set_cons_zero, List.set_cons_succ]
  refine wpAnyH_take (i := 8) (oi := ({ dst := some 20, op := Op.pick (Operand.tmp 14) (Operand.const (Value.bool true)) (Operand.tmp 19), type := 4, pos := _, after := #[{ on := 2, ground := Ground.data }, { on := 7, ground := Ground.data }], guard := none } : Oper)) (v := ?_) rfl (by kernel_rfl) (by kernel_rfl) (by kernel_rfl) (fun _ _ _ h => h) (Or.inl ⟨by rfl, ?_⟩) (by first | exact ⟨c0, c1, c2, c3, c4, c5, c6, c7, c8, c9, c10, c11, c12, c13, c14, c15⟩ | exact ⟨a0, a1, a2, a3, a4, a5, a6, a7, a8, a9, a10, a11, a12, a13, a14, a15⟩ | exact ⟨b0, b1, b2, b3, b4, b5, b6, b7, b8, b9, b10, b11, b12, b13, b14, b15⟩) ?_
  rotate_left
  · intro w hSw
    try dsimp only at hSw
    go_simp
    try with_reducible rfl
  try simp only [Act.put, List.setIfInBounds_toArray, List.set_cons_zero, List.set_cons_succ]
  refine wpAnyH_take (i := 9) (oi := ({ dst := some 21, op := Op.move (Operand.tmp 20), type := 4, pos := _, after := #[{ on := 8, ground := Ground.data }, { on := 6, ground := Ground.chain }], guard := none } : Oper)) (v := ?_) rfl (by kernel_rfl) (by kernel_rfl) (by kernel_rfl) (fun _ _ _ h => h) (Or.inl ⟨by rfl, ?_⟩) (by first | exact ⟨c0, c1, c2, c3, c4, c5, c6, c7, c8, c9, c10, c11, c12, c13, c14, c15⟩ | exact ⟨a0, a1, a2, a3, a4, a5, a6, a7, a8, a9, a10, a11, a12, a13, a14, a15⟩ | exact ⟨b0, b1, b2, b3, b4, b5, b6, b7, b8, b9, b10, b11, b12, b13, b14, b15⟩) ?_
  rotate_left
  · intro w hSw
    try dsimp only at hSw
    go_simp
    try with_reducible rfl
  try simp only [Act.put, List.setIfInBounds_toArray, List.set_cons_zero, List.set_cons_succ]
  refine wpAnyH_take (i := 10) (oi := ({ dst := some 22, op := Op.fieldAddr 28 (Operand.tmp 1) 10, type := 0, pos := _, after := #[{ on := 9, ground := Ground.guard }], guard := some (9, false) } : Oper)) (v := ?_) rfl (by kernel_rfl) (by kernel_rfl) (by kernel_rfl) (fun _ _ _ h => h) (Or.inl ⟨by rfl, ?_⟩) (by first | exact ⟨c0, c1, c2, c3, c4, c5, c6, c7, c8, c9, c10, c11, c12, c13, c14, c15⟩ | exact ⟨a0, a1, a2, a3, a4, a5, a6, a7, a8, a9, a10, a11, a12, a13, a14, a15⟩ | exact ⟨b0, b1, b2, b3, b4, b5, b6, b7, b8, b9, b10, b11, b12, b13, b14, b15⟩) ?_
  rotate_left
  · intro w hSw
    try dsimp only at hSw
    go_simp
    try with_reducible rfl
  try simp only [Act.put, List.setIfInBounds_toArray, List.set_cons_zero, List.set_cons_succ]
  refine wpAnyH_take (i := 11) (oi := ({ dst := some 23, op := Op.load 23 (Operand.tmp 22), type := 23, pos := _, after := #[{ on := 10, ground := Ground.data }, { on := 9, ground := Ground.guard }], guard := some (9, false) } : Oper)) (v := ?_) rfl (by kernel_rfl) (by kernel_rfl) (by kernel_rfl) (fun _ _ _ h => h) (Or.inl ⟨by rfl, ?_⟩) (by first | exact ⟨c0, c1, c2, c3, c4, c5, c6, c7, c8, c9, c10, c11, c12, c13, c14, c15⟩ | exact ⟨a0, a1, a2, a3, a4, a5, a6, a7, a8, a9, a10, a11, a12, a13, a14, a15⟩ | exact ⟨b0, b1, b2, b3, b4, b5, b6, b7, b8, b9, b10, b11, b12, b13, b14, b15⟩) ?_
  rotate_left
  · intro w hSw
    try dsimp only at hSw
    go_simp
    try with_reducible rfl
  try simp only [Act.put, List.setIfInBounds_toArray, List.set_cons_zero, List.set_cons_succ]
  refine wpAnyH_take (i := 12) (oi := ({ dst := some 24, op := Op.call { callee := Callee.builtin Builtin.len, args := #[Operand.tmp 23], argTypes := #[23] }, type := 3, pos := _, after := #[{ on := 11, ground := Ground.data }, { on := 9, ground := Ground.guard }], guard := some (9, false) } : Oper)) (v := ?_) rfl (by kernel_rfl) (by kernel_rfl) (by kernel_rfl) (fun _ _ _ h => h) (Or.inl ⟨by rfl, ?_⟩) (by first | exact ⟨c0, c1, c2, c3, c4, c5, c6, c7, c8, c9, c10, c11, c12, c13, c14, c15⟩ | exact ⟨a0, a1, a2, a3, a4, a5, a6, a7, a8, a9, a10, a11, a12, a13, a14, a15⟩ | exact ⟨b0, b1, b2, b3, b4, b5, b6, b7, b8, b9, b10, b11, b12, b13, b14, b15⟩) ?_
  rotate_left
  · intro w hSw
    try dsimp only at hSw
    go_simp
    try with_reducible rfl
  try simp only [Act.put, List.setIfInBounds_toArray, List.set_cons_zero, List.set_cons_succ]
  refine wpAnyH_take (i := 13) (oi := ({ dst := some 25, op := Op.binOp BinOp.gtr 3 (Operand.tmp 24) (Operand.const (Value.int IntKind.i64 64)) 3, type := 4, pos := _, after := #[{ on := 12, ground := Ground.data }, { on := 9, ground := Ground.guard }], guard := some (9, false) } : Oper)) (v := ?_) rfl (by kernel_rfl) (by kernel_rfl) (by kernel_rfl) (fun _ _ _ h => h) (Or.inl ⟨by rfl, ?_⟩) (by first | exact ⟨c0, c1, c2, c3, c4, c5, c6, c7, c8, c9, c10, c11, c12, c13, c14, c15⟩ | exact ⟨a0, a1, a2, a3, a4, a5, a6, a7, a8, a9, a10, a11, a12, a13, a14, a15⟩ | exact ⟨b0, b1, b2, b3, b4, b5, b6, b7, b8, b9, b10, b11, b12, b13, b14, b15⟩) ?_
  rotate_left
  · intro w hSw
    try dsimp only at hSw
    go_simp
    try with_reducible rfl
  try simp only [Act.put, List.setIfInBounds_toArray, List.set_cons_zero, List.set_cons_succ]
  refine wpAnyH_take (i := 14) (oi := ({ dst := some 26, op := Op.pick (Operand.tmp 21) (Operand.const (Value.bool true)) (Operand.tmp 25), type := 4, pos := _, after := #[{ on := 9, ground := Ground.data }, { on := 13, ground := Ground.data }], guard := none } : Oper)) (v := ?_) rfl (by kernel_rfl) (by kernel_rfl) (by kernel_rfl) (fun _ _ _ h => h) (Or.inl ⟨by rfl, ?_⟩) (by first | exact ⟨c0, c1, c2, c3, c4, c5, c6, c7, c8, c9, c10, c11, c12, c13, c14, c15⟩ | exact ⟨a0, a1, a2, a3, a4, a5, a6, a7, a8, a9, a10, a11, a12, a13, a14, a15⟩ | exact ⟨b0, b1, b2, b3, b4, b5, b6, b7, b8, b9, b10, b11, b12, b13, b14, b15⟩) ?_
  rotate_left
  · intro w hSw
    try dsimp only at hSw
    go_simp
    try with_reducible rfl
  try simp only [Act.put, List.setIfInBounds_toArray, List.set_cons_zero, List.set_cons_succ]
  refine wpAnyH_done (by kernel_rfl) ?_ _
  go_upto_region 4 with fail
  clear c0 c1 c2 c3 c4 c5 c6 c7 c8 c9 c10 c11 c12 c13 c14 c15 a0 a1 a2 a3 a4 a5 a6 a7 a8 a9 a10 a11 a12 a13 a14 a15 b0 b1 b2 b3 b4 b5 b6 b7 b8 b9 b10 b11 b12 b13 b14 b15
  clear hO1 hB1 hOd hBd hO2 hB2 hb2 hb3 hM2 hon hstr hr2
  refine wp_world (fun wz => Blk wz w.heap.size 28 #[.int .u64 m.kd, .int .u64 m.id, .int .u64 m.al, .slice nA m.nm.length nc, .int .u8 m.pr, .int .u8 m.od, .int .u64 m.sg, .int .u64 m.so, .int .u64 m.eg, .int .u64 m.eo, .bool m.sm, .int .u64 m.cd, .slice rA m.rs.length rc, .int .u64 m.n, .int .u64 m.ve, .slice vA m.vs.length vc] ∧ Below w.heap.size w wz) ⟨hO3, hB3⟩ ?_
  clear hO3 hB3
  rintro w5 ⟨hO5, hB5⟩
  have hbX : Below w5.heap.size w5 (w5.alloc (.cells #[.int .u64 m.id, .int .u64 m.al, .int .u64 m.cd, .int .u64 m.n, .int .u64 m.ve, .int .u64 m.sg, .int .u64 m.so, .int .u64 m.eg, .int .u64 m.eo] 22)) := (Below.refl _ _).alloc (Nat.le_refl _) _
  have hoX : (w5.alloc (.cells #[.int .u64 m.id, .int .u64 m.al, .int .u64 m.cd, .int .u64 m.n, .int .u64 m.ve, .int .u64 m.sg, .int .u64 m.so, .int .u64 m.eg, .int .u64 m.eo] 22)).ownsRow w.heap.size 22 1 (.slice (some ⟨w5.heap.size, 0, none⟩) 9 9) 9 [.int .u64 m.id, .int .u64 m.al, .int .u64 m.cd, .int .u64 m.n, .int .u64 m.ve, .int .u64 m.sg, .int .u64 m.so, .int .u64 m.eg, .int .u64 m.eo] := World.ownsRow_lit (size := 1) (e := 22) w5 #[.int .u64 m.id, .int .u64 m.al, .int .u64 m.cd, .int .u64 m.n, .int .u64 m.ve, .int .u64 m.sg, .int .u64 m.so, .int .u64 m.eg, .int .u64 m.eo] 9 hB5.size (by decide) rfl
  have hBX := hB5.trans (hbX.mono hB5.size)
  have hOX := hO5.same hbX
  have hvX := ((hRS _ hBX).vs).rdv
  have HV := Lib.hid hvX.2.2.2.2
  have HA := Lib.hid hvX.2.1
  clear hvX
  have hp1 : 9 + m.vs.length ≤ maxLen := by unfold maxLen; omega
  have hp2 : (9 + m.vs.length) * 8 ≤ 140737488355328 := by omega
  have c0 : World.cell? w5 ⟨w.heap.size, 0, none⟩ = some (.int .u64 m.kd) := hO5.cell 0
  have c1 : World.cell? w5 ⟨w.heap.size, 1, none⟩ = some (.int .u64 m.id) := hO5.cell 1
  have c2 : World.cell? w5 ⟨w.heap.size, 2, none⟩ = some (.int .u64 m.al) := hO5.cell 2
  have c3 : World.cell? w5 ⟨w.heap.size, 3, none⟩ = some (.slice nA m.nm.length nc) := hO5.cell 3
  have c4 : World.cell? w5 ⟨w.heap.size, 4, none⟩ = some (.int .u8 m.pr) := hO5.cell 4
  have c5 : World.cell? w5 ⟨w.heap.size, 5, none⟩ = some (.int .u8 m.od) := hO5.cell 5
  have c6 : World.cell? w5 ⟨w.heap.size, 6, none⟩ = some (.int .u64 m.sg) := hO5.cell 6
  have c7 : World.cell? w5 ⟨w.heap.size, 7, none⟩ = some (.int .u64 m.so) := hO5.cell 7
  have c8 : World.cell? w5 ⟨w.heap.size, 8, none⟩ = some (.int .u64 m.eg) := hO5.cell 8
  have c9 : World.cell? w5 ⟨w.heap.size, 9, none⟩ = some (.int .u64 m.eo) := hO5.cell 9
  have c10 : World.cell? w5 ⟨w.heap.size, 10, none⟩ = some (.bool m.sm) := hO5.cell 10
  have c11 : World.cell? w5 ⟨w.heap.size, 11, none⟩ = some (.int .u64 m.cd) := hO5.cell 11
  have c12 : World.cell? w5 ⟨w.heap.size, 12, none⟩ = some (.slice rA m.rs.length rc) := hO5.cell 12
  have c13 : World.cell? w5 ⟨w.heap.size, 13, none⟩ = some (.int .u64 m.n) := hO5.cell 13
  have c14 : World.cell? w5 ⟨w.heap.size, 14, none⟩ = some (.int .u64 m.ve) := hO5.cell 14
  have c15 : World.cell? w5 ⟨w.heap.size, 15, none⟩ = some (.slice vA m.vs.length vc) := hO5.cell 15
  have d15 : World.cell? (w5.alloc (.cells #[.int .u64 m.id, .int .u64 m.al, .int .u64 m.cd, .int .u64 m.n, .int .u64 m.ve, .int .u64 m.sg, .int .u64 m.so, .int .u64 m.eg, .int .u64 m.eo] 22)) ⟨w.heap.size, 15, none⟩ = some (.slice vA m.vs.length vc) := hOX.cell 15
  go_upto_region 5 with (at_builtin; refine wpList_append_any _ rfl _ _ 26 rfl w.heap.size 22 iU _ 1 8 Tryd.underlying26 hiU hu0 hu1 hu2 rfl (by decide) (.slice (some ⟨w5.heap.size, 0, none⟩) 9 9) 9 [.int .u64 m.id, .int .u64 m.al, .int .u64 m.cd, .int .u64 m.n, .int .u64 m.ve, .int .u64 m.sg, .int .u64 m.so, .int .u64 m.eg, .int .u64 m.eo] rfl hoX vA m.vs.length vc _ rfl HV.out (oneInts _ _) hp1 hp2 hBX.size HA.out ?_; intro v6 w6 hown6 hgrow6 hat6; obtain ⟨A6, cc6, e6, -⟩ := sl_of_own hown6; subst e6)
  have hN : 9 + m.vs.length = (tops m).length := by simp [tops]; omega
  have ht6 : w6.ownsRow w.heap.size 22 1 (.slice A6 (9 + m.vs.length) cc6) (tops m).length ((tops m).map (Value.int .u64)) := by rw [← hN]; simpa [tops] using hown6
  have hO6 := hOX.grown hgrow6 (by simp [Value.ownBlock]; have := hB5.size; have := hO5.lt; omega)
  have hB6 := hBX.grown hgrow6 hBX.size (fun k hk => (hoX.lt k hk).1)
  rw [hN] at ht6 ⊢
  rw [show (9 : Int) + (m.vs.length : Int) = ((tops m).length : Int) by omega]
  clear hown6 hgrow6 hat6 hN hp1 hp2 hoX hOX hBX hbX hO5 hB5 HV HA hu0 hu1 hu2 hiU d15 c0 c1 c2 c3 c4 c5 c6 c7 c8 c9 c10 c11 c12 c13 c14 c15
  obtain ⟨N, hNe⟩ : ∃ N, N = (tops m).length := ⟨_, rfl⟩
  rw [← hNe] at ht6 ⊢
  have HNE := Lib.hid hNe
  clear hNe
  have hNb : N ≤ 100009 := by have := HNE.out; simp [tops] at this; omega
  have hto := tops_ok h
  have hrd := rd_of_own (k := .u64) (by rw [← HNE.out]; exact ht6 : w6.ownsRow w.heap.size 22 1 (.slice A6 N cc6) (tops m).length ((tops m).map (Value.int .u64)))
  have HRD := Lib.hid hrd
  have HTO := Lib.hid hto
  clear ht6 hrd hto
  go_wp2_with fail
  go_loopg [54] N (fun gk s54 wr => ∃ k : Nat, gk = N - k ∧ k ≤ N ∧ s54 = .int .i64 k ∧ (∀ i, i < k → (tops m).getD i 0 ≤ 4611686018427387903) ∧ w6 = wr)
  case atStart => exact ⟨0, rfl, Nat.zero_le _, rfl, (fun i hi => absurd hi (by omega)), rfl⟩
  case round =>
    obtain ⟨k, hgk, hkN, rfl, hall, rfl⟩ := hrel
    by_cases hlt : k < N
    · obtain ⟨b, off, rfl, _, c0⟩ := HRD.out.at_ k (by rw [← HNE.out]; exact hlt)
      obtain ⟨y, hy⟩ : ∃ y, y = (tops m).getD k 0 := ⟨_, rfl⟩
      have hy1 := HTO.out k
      rw [← hy] at c0 hy1
      have HY := Lib.hid hy
      have HA := Lib.hid hall
      clear hy hall
      by_cases hgt : 4611686018427387903 < y
      · go_wp2_with fail
        have hf : R = false := by
          cases R with
          | false => rfl
          | true => exact absurd (HR.out.1 rfl) (fun hr => small_no m (i := k) (by rw [← HNE.out]; exact hlt) (by rw [← HY.out]; exact hgt) hr.2.2.2.1)
        subst hf
        go_ret
        exact ⟨rfl, hB6⟩
      · go_wp2_with fail
        go_roundg (N - (k + 1))
        case measure => omega
        case rel => exact ⟨k + 1, rfl, by omega, by go_num, (fun i hi => by rcases Nat.lt_or_ge i k with h1 | h1; exact HA.out i h1; obtain rfl : i = k := (by omega); rw [← HY.out]; omega), rfl⟩
    · have hsm := small_at m (fun i hi => hall i (by rw [← HNE.out] at hi; omega))
      have HSM := Lib.hid hsm
      clear hsm hall
      go_wp2_with fail
      have hI0 := ItAt.new w6 L
      have hO7 := hO6.alloc (.stringIter (sbs L) 0)
      have hB7 := hB6.alloc hB6.size (.stringIter (sbs L) 0)
      have hs6 := hB6.size
      have hmi : some w.heap.size ≠ some w6.heap.size := by have := hO6.lt; simp; omega
      clear hO6 hB6
      go_loopg [] L.length (fun gk wr => ∃ pos, gk = L.length - pos ∧ pos ≤ L.length ∧ (∀ c ∈ L.take pos, okL m c = true) ∧ ItAt wr w6.heap.size L pos ∧ Blk wr w.heap.size 28 #[.int .u64 m.kd, .int .u64 m.id, .int .u64 m.al, .slice nA m.nm.length nc, .int .u8 m.pr, .int .u8 m.od, .int .u64 m.sg, .int .u64 m.so, .int .u64 m.eg, .int .u64 m.eo, .bool m.sm, .int .u64 m.cd, .slice rA m.rs.length rc, .int .u64 m.n, .int .u64 m.ve, .slice vA m.vs.length vc] ∧ Below w.heap.size w wr)
      case atStart => exact ⟨0, rfl, Nat.zero_le _, (fun c hc => by simp at hc), hI0, hO7, hB7⟩
      case round =>
        clear hI0 hO7 hB7
        obtain ⟨pos, hgk, hpl, hok, hit, hO, hB⟩ := hrel
        have HOK := Lib.hid hok
        clear hok
        by_cases hlt : pos < L.length
        · obtain ⟨wi, c, hc, hcm, hnx, hit1, hgi⟩ := hit.next (P := Tryd.prog) hlt hLL
          replace hO := hO.grown hgi hmi
          replace hB := hB.grown hgi hB.size (fun k hk => by simp only [Option.some.injEq] at hk; omega)
          replace hit := hit1
          have hcl := hLL c hcm
          clear hit1
          simp only [LETS, List.mem_cons, List.not_mem_nil, or_false] at hcl
          have HHC := Lib.hid hc
          have HCM := Lib.hid hcm
          clear hc hcm
          rcases hcl with rfl | rfl | rfl | rfl | rfl | rfl | rfl | rfl | rfl | rfl | rfl | rfl | rfl | rfl
          · have HC := Lib.hid (show okL m 105 = true by rw [okL_105]; trivial)
            go_wp2_with fail
            go_roundg (L.length - (pos + 1))
            case measure => omega
            case rel => exact ⟨pos + 1, rfl, hlt, ok_take HOK.out hlt HHC.out HC.out, hit, hO, hB⟩
          · have HC := Lib.hid (show okL m 97 = true by rw [okL_97]; trivial)
            go_wp2_with fail
            go_roundg (L.length - (pos + 1))
            case measure => omega
            case rel => exact ⟨pos + 1, rfl, hlt, ok_take HOK.out hlt HHC.out HC.out, hit, hO, hB⟩
          · have c3 : World.cell? wi ⟨w.heap.size, 3, none⟩ = some (.slice nA m.nm.length nc) := hO.cell 3
            have hnr := (hRS wi hB).nm
            obtain ⟨n, hn⟩ : ∃ n, n = m.nm.length := ⟨_, rfl⟩
            rw [← hn] at c3 hnr
            have HN := Lib.hid hn
            clear hn
            rcases Nat.eq_zero_or_pos n with hz | hz
            · have HC := Lib.hid (show ¬ okL m 116 = true by rw [okL_116]; exact fun e => e.1 (List.eq_nil_of_length_eq_zero (by rw [← HN.out]; exact hz)))
              subst hz
              go_wp2_with fail
              have hf : R = false := by
                cases R with
                | false => rfl
                | true => exact absurd (HR.out.1 rfl) (fun hr => absurd (hr.2.2.2.2 116 (by rw [← HLE.out]; exact HCM.out)) HC.out)
              subst hf
              go_ret
              exact ⟨rfl, hB⟩
            · obtain ⟨k, rfl⟩ : ∃ k, n = k + 1 := ⟨n - 1, by omega⟩
              have hsub : ((k + 1 : Nat) : Int) - 1 = (k : Int) := by omega
              by_cases h2 : k + 1 ≤ 32
              · have hn2 : (k : Int) + 1 ≤ 32 := by omega
                obtain ⟨nb, no, rfl, hnb, l0⟩ := hnr.at_ k (by have := HN.out; omega)
                have hke : m.nm.length - 1 = k := by have := HN.out; omega
                have HKE := Lib.hid hke
                clear hke hnr
                obtain ⟨z, hz⟩ : ∃ z, z = m.nm.getD k 0 := ⟨_, rfl⟩
                rw [← hz] at l0
                have HZ := Lib.hid hz
                clear hz
                by_cases h3 : z = 0
                · have HC := Lib.hid (show ¬ okL m 116 = true by rw [okL_116]; exact fun e => e.2.2 (by rw [HKE.out, ← HZ.out]; exact h3))
                  have hb3 : (z == 0) = true := by simpa using h3
                  have hb4 : (z != 0) = false := by simpa using h3
                  go_wp2_with fail
                  have hf : R = false := by
                    cases R with
                    | false => rfl
                    | true => exact absurd (HR.out.1 rfl) (fun hr => absurd (hr.2.2.2.2 116 (by rw [← HLE.out]; exact HCM.out)) HC.out)
                  subst hf
                  go_ret
                  exact ⟨rfl, hB⟩
                · have HC := Lib.hid (show okL m 116 = true by rw [okL_116]; exact ⟨fun e => by have := HN.out; rw [e] at this; simp at this, by rw [← HN.out]; exact h2, by rw [HKE.out, ← HZ.out]; exact h3⟩)
                  have hb3 : (z == 0) = false := by simpa using h3
                  have hb4 : (z != 0) = true := by simpa using h3
                  go_wp2_with fail
                  go_roundg (L.length - (pos + 1))
                  case measure => omega
                  case rel => exact ⟨pos + 1, rfl, hlt, ok_take HOK.out hlt HHC.out HC.out, hit, hO, hB⟩
              · have HC := Lib.hid (show ¬ okL m 116 = true by rw [okL_116]; exact fun e => h2 (by rw [HN.out]; exact e.2.1))
                have hn2 : ¬ (k : Int) + 1 ≤ 32 := by omega
                go_wp2_with fail
                have hf : R = false := by
                  cases R with
                  | false => rfl
                  | true => exact absurd (HR.out.1 rfl) (fun hr => absurd (hr.2.2.2.2 116 (by rw [← HLE.out]; exact HCM.out)) HC.out)
                subst hf
                go_ret
                exact ⟨rfl, hB⟩
          · have HC := Lib.hid (show okL m 112 = true by rw [okL_112]; trivial)
            go_wp2_with fail
            go_roundg (L.length - (pos + 1))
            case measure => omega
            case rel => exact ⟨pos + 1, rfl, hlt, ok_take HOK.out hlt HHC.out HC.out, hit, hO, hB⟩
          · have c5 : World.cell? wi ⟨w.heap.size, 5, none⟩ = some (.int .u8 m.od) := hO.cell 5
            by_cases h1 : m.od = 1
            · have HC := Lib.hid (show okL m 111 = true by rw [okL_111]; exact .inl h1)
              have hb1 : (m.od == 1) = true := by simpa using h1
              go_wp2_with fail
              go_roundg (L.length - (pos + 1))
              case measure => omega
              case rel => exact ⟨pos + 1, rfl, hlt, ok_take HOK.out hlt HHC.out HC.out, hit, hO, hB⟩
            · have hb1 : (m.od == 1) = false := by simpa using h1
              by_cases h2 : m.od = 2
              · have HC := Lib.hid (show okL m 111 = true by rw [okL_111]; exact .inr h2)
                have hb2 : (m.od == 2) = true := by simpa using h2
                go_wp2_with fail
                go_roundg (L.length - (pos + 1))
                case measure => omega
                case rel => exact ⟨pos + 1, rfl, hlt, ok_take HOK.out hlt HHC.out HC.out, hit, hO, hB⟩
              · have HC := Lib.hid (show ¬ okL m 111 = true by rw [okL_111]; exact fun e => e.elim h1 h2)
                have hb2 : (m.od == 2) = false := by simpa using h2
                go_wp2_with fail
                have hf : R = false := by
                  cases R with
                  | false => rfl
                  | true => exact absurd (HR.out.1 rfl) (fun hr => absurd (hr.2.2.2.2 111 (by rw [← HLE.out]; exact HCM.out)) HC.out)
                subst hf
                go_ret
                exact ⟨rfl, hB⟩
          · have HC := Lib.hid (show okL m 115 = true by rw [okL_115]; trivial)
            go_wp2_with fail
            go_roundg (L.length - (pos + 1))
            case measure => omega
            case rel => exact ⟨pos + 1, rfl, hlt, ok_take HOK.out hlt HHC.out HC.out, hit, hO, hB⟩
          · have c6 : World.cell? wi ⟨w.heap.size, 6, none⟩ = some (.int .u64 m.sg) := hO.cell 6
            have c7 : World.cell? wi ⟨w.heap.size, 7, none⟩ = some (.int .u64 m.so) := hO.cell 7
            have c8 : World.cell? wi ⟨w.heap.size, 8, none⟩ = some (.int .u64 m.eg) := hO.cell 8
            have c9 : World.cell? wi ⟨w.heap.size, 9, none⟩ = some (.int .u64 m.eo) := hO.cell 9
            cases hlt2 : ltP m.eg m.eo m.sg m.so
            · have HC := Lib.hid (show okL m 101 = true by rw [okL_101]; exact hlt2)
              have hle := rless_all m.eg m.eo m.sg m.so wi
              rw [hlt2] at hle
              go_wp2_with fail
              (with_reducible refine hle.mono ?_)
              clear hle
              rintro e wj ⟨rfl, hbj⟩
              replace hO := hO.same hbj
              replace hit := hit.below hbj
              replace hB := hB.trans (hbj.mono hB.size)
              go_wp2_with fail
              go_roundg (L.length - (pos + 1))
              case measure => omega
              case rel => exact ⟨pos + 1, rfl, hlt, ok_take HOK.out hlt HHC.out HC.out, hit, hO, hB⟩
            · have HC := Lib.hid (show ¬ okL m 101 = true by rw [okL_101]; exact fun e => by rw [hlt2] at e; cases e)
              have hle := rless_all m.eg m.eo m.sg m.so wi
              rw [hlt2] at hle
              go_wp2_with fail
              (with_reducible refine hle.mono ?_)
              clear hle
              rintro e wj ⟨rfl, hbj⟩
              replace hO := hO.same hbj
              replace hit := hit.below hbj
              replace hB := hB.trans (hbj.mono hB.size)
              go_wp2_with fail
              have hf : R = false := by
                cases R with
                | false => rfl
                | true => exact absurd (HR.out.1 rfl) (fun hr => absurd (hr.2.2.2.2 101 (by rw [← HLE.out]; exact HCM.out)) HC.out)
              subst hf
              go_ret
              exact ⟨rfl, hB⟩
          · have c8 : World.cell? wi ⟨w.heap.size, 8, none⟩ = some (.int .u64 m.eg) := hO.cell 8
            have c6 : World.cell? wi ⟨w.heap.size, 6, none⟩ = some (.int .u64 m.sg) := hO.cell 6
            by_cases h1 : m.eg = 0
            · have HC := Lib.hid (show okL m 103 = true by rw [okL_103]; exact .inl h1)
              have hb1 : (m.eg == 0) = true := by simpa using h1
              go_wp2_with fail
              go_roundg (L.length - (pos + 1))
              case measure => omega
              case rel => exact ⟨pos + 1, rfl, hlt, ok_take HOK.out hlt HHC.out HC.out, hit, hO, hB⟩
            · have hb1 : (m.eg == 0) = false := by simpa using h1
              by_cases h2 : m.sg < m.eg
              · have HC := Lib.hid (show okL m 103 = true by rw [okL_103]; exact .inr h2)
                go_wp2_with fail
                go_roundg (L.length - (pos + 1))
                case measure => omega
                case rel => exact ⟨pos + 1, rfl, hlt, ok_take HOK.out hlt HHC.out HC.out, hit, hO, hB⟩
              · have HC := Lib.hid (show ¬ okL m 103 = true by rw [okL_103]; exact fun e => e.elim h1 h2)
                go_wp2_with fail
                have hf : R = false := by
                  cases R with
                  | false => rfl
                  | true => exact absurd (HR.out.1 rfl) (fun hr => absurd (hr.2.2.2.2 103 (by rw [← HLE.out]; exact HCM.out)) HC.out)
                subst hf
                go_ret
                exact ⟨rfl, hB⟩
          · have c10 : World.cell? wi ⟨w.heap.size, 10, none⟩ = some (.bool m.sm) := hO.cell 10
            have c6 : World.cell? wi ⟨w.heap.size, 6, none⟩ = some (.int .u64 m.sg) := hO.cell 6
            have c7 : World.cell? wi ⟨w.heap.size, 7, none⟩ = some (.int .u64 m.so) := hO.cell 7
            by_cases h1 : m.sm = true
            · have HC := Lib.hid (show okL m 98 = true by rw [okL_98]; exact .inl h1)
              go_wp2_with fail
              go_roundg (L.length - (pos + 1))
              case measure => omega
              case rel => exact ⟨pos + 1, rfl, hlt, ok_take HOK.out hlt HHC.out HC.out, hit, hO, hB⟩
            · have hb1 : m.sm = false := by simpa using h1
              by_cases h2 : m.sg = 0
              · have hb2 : (m.sg == 0) = true := by simpa using h2
                by_cases h3 : m.so = 0
                · have HC := Lib.hid (show okL m 98 = true by rw [okL_98]; exact .inr ⟨h2, h3⟩)
                  have hb3 : (m.so == 0) = true := by simpa using h3
                  go_wp2_with fail
                  go_roundg (L.length - (pos + 1))
                  case measure => omega
                  case rel => exact ⟨pos + 1, rfl, hlt, ok_take HOK.out hlt HHC.out HC.out, hit, hO, hB⟩
                · have HC := Lib.hid (show ¬ okL m 98 = true by rw [okL_98]; exact fun e => e.elim h1 (fun e => h3 e.2))
                  have hb3 : (m.so == 0) = false := by simpa using h3
                  go_wp2_with fail
                  have hf : R = false := by
                    cases R with
                    | false => rfl
                    | true => exact absurd (HR.out.1 rfl) (fun hr => absurd (hr.2.2.2.2 98 (by rw [← HLE.out]; exact HCM.out)) HC.out)
                  subst hf
                  go_ret
                  exact ⟨rfl, hB⟩
              · have HC := Lib.hid (show ¬ okL m 98 = true by rw [okL_98]; exact fun e => e.elim h1 (fun e => h2 e.1))
                have hb2 : (m.sg == 0) = false := by simpa using h2
                go_wp2_with fail
                have hf : R = false := by
                  cases R with
                  | false => rfl
                  | true => exact absurd (HR.out.1 rfl) (fun hr => absurd (hr.2.2.2.2 98 (by rw [← HLE.out]; exact HCM.out)) HC.out)
                subst hf
                go_ret
                exact ⟨rfl, hB⟩
          · have HC := Lib.hid (show okL m 99 = true by rw [okL_99]; trivial)
            go_wp2_with fail
            go_roundg (L.length - (pos + 1))
            case measure => omega
            case rel => exact ⟨pos + 1, rfl, hlt, ok_take HOK.out hlt HHC.out HC.out, hit, hO, hB⟩
          · have HC := Lib.hid (show okL m 114 = true by rw [okL_114]; trivial)
            go_wp2_with fail
            go_roundg (L.length - (pos + 1))
            case measure => omega
            case rel => exact ⟨pos + 1, rfl, hlt, ok_take HOK.out hlt HHC.out HC.out, hit, hO, hB⟩
          · have HC := Lib.hid (show okL m 110 = true by rw [okL_110]; trivial)
            go_wp2_with fail
            go_roundg (L.length - (pos + 1))
            case measure => omega
            case rel => exact ⟨pos + 1, rfl, hlt, ok_take HOK.out hlt HHC.out HC.out, hit, hO, hB⟩
          · have HC := Lib.hid (show okL m 118 = true by rw [okL_118]; trivial)
            go_wp2_with fail
            go_roundg (L.length - (pos + 1))
            case measure => omega
            case rel => exact ⟨pos + 1, rfl, hlt, ok_take HOK.out hlt HHC.out HC.out, hit, hO, hB⟩
          · have c15 : World.cell? wi ⟨w.heap.size, 15, none⟩ = some (.slice vA m.vs.length vc) := hO.cell 15
            obtain ⟨n, hn⟩ : ∃ n, n = m.vs.length := ⟨_, rfl⟩
            rw [← hn] at c15
            have HN := Lib.hid hn
            clear hn
            rcases Nat.eq_zero_or_pos n with hz | hz
            · have HC := Lib.hid (show ¬ okL m 108 = true by rw [okL_108]; exact fun e => e.1 (List.eq_nil_of_length_eq_zero (by rw [← HN.out]; exact hz)))
              subst hz
              go_wp2_with fail
              have hf : R = false := by
                cases R with
                | false => rfl
                | true => exact absurd (HR.out.1 rfl) (fun hr => absurd (hr.2.2.2.2 108 (by rw [← HLE.out]; exact HCM.out)) HC.out)
              subst hf
              go_ret
              exact ⟨rfl, hB⟩
            · by_cases h2 : n ≤ 8
              · have HC := Lib.hid (show okL m 108 = true by rw [okL_108]; exact ⟨fun e => by have := HN.out; rw [e] at this; simp at this; omega, by rw [← HN.out]; exact h2⟩)
                have hn1 : (1 : Int) ≤ (n : Int) := by omega
                have hn2 : (n : Int) ≤ 8 := by omega
                go_wp2_with fail
                go_roundg (L.length - (pos + 1))
                case measure => omega
                case rel => exact ⟨pos + 1, rfl, hlt, ok_take HOK.out hlt HHC.out HC.out, hit, hO, hB⟩
              · have HC := Lib.hid (show ¬ okL m 108 = true by rw [okL_108]; exact fun e => h2 (by rw [HN.out]; exact e.2))
                have hn1 : (1 : Int) ≤ (n : Int) := by omega
                have hn2 : ¬ (n : Int) ≤ 8 := by omega
                go_wp2_with fail
                have hf : R = false := by
                  cases R with
                  | false => rfl
                  | true => exact absurd (HR.out.1 rfl) (fun hr => absurd (hr.2.2.2.2 108 (by rw [← HLE.out]; exact HCM.out)) HC.out)
                subst hf
                go_ret
                exact ⟨rfl, hB⟩
        · have hnx := hit.end_ (P := Tryd.prog) hlt
          go_wp2_with fail
          have htk : L.take pos = L := List.take_of_length_le (by omega)
          have hfin := HOK.out
          rw [htk] at hfin
          have hf : R = true := HR.out.2 ⟨HKK.out, by rw [← HLE.out, ← HX.out]; exact HXE.out, HR64.out, HSM.out, fun c hc => hfin c (by rw [HLE.out]; exact hc)⟩
          subst hf
          go_ret
          exact ⟨rfl, hB⟩
theorem rright_all (m : M) (nv rv vv : Value) (w : World) (hM : MV w m nv rv vv) (h : m.Ok) (hf : m.Fit) (R : Bool) (hR : R = true ↔ Right m) :
    Calls Tryd.prog 30 #[.agg (m.cells nv rv vv)] w fun e w' => e = .returned (.bool R) ∧ Below w.heap.size w w' := by
  cases hk : (prt m.kd).2 with
  | false =>
    obtain rfl : R = false := by
      cases R with
      | false => rfl
      | true => have := (hR.1 rfl).1; rw [hk] at this; cases this
    exact rright_none m nv rv vv w hM hk
  | true =>
    by_cases hx : m = only m (shK m.kd)
    · by_cases hr : m.rs.length ≤ 64
      · exact rright_yes m nv rv vv w hM h hf hk R hR hx hr
      · exact rright_long m nv rv vv w hM h hf hk R hR hx hr
    · exact rright_other m nv rv vv w hM h hf hk R hR hx

end Go.Proofs.YtjijmbpgfabgcaaDoor
