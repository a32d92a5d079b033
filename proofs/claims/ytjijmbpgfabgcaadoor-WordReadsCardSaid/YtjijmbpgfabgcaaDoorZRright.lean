/-
  The reference's Right. No condition.
-/
import Derived.Test.YtjijmbpgfabgcaaDoorZRonly
import Derived.Test.YtjijmbpgfabgcaaDoorZRsame
import Derived.Test.YtjijmbpgfabgcaaDoorZA
import Derived.Test.YtjijmbpgfabgcaaDoorZL
namespace Go.Proofs.YtjijmbpgfabgcaaDoor
open Go.RowKit
set_option linter.unusedVariables false
set_option linter.unusedSimpArgs false

theorem dash (k : Int) : (sbs (shK k) = ⟨#[45]⟩) ↔ (prt k).2 = false := by
  constructor
  · intro h
    cases hp : (prt k).2 with
    | false => rfl
    | true =>
      obtain ⟨e, _⟩ := letters hp
      rw [e] at h
      have := prt_mem k hp
      generalize (prt k).1 = P at h this
      have hall : ∀ P ∈ SH, sbs (shP P) ≠ ⟨#[45]⟩ := by
        intro P hP
        simp only [SH, List.mem_cons, List.not_mem_nil, or_false] at hP
        rcases hP with rfl | rfl | rfl | rfl | rfl | rfl | rfl | rfl | rfl | rfl | rfl <;> (intro h; exact absurd (congrArg (fun b => b.data.toList) h) (by decide))
      exact absurd h (hall P this)
  · intro h
    unfold shK
    rw [if_neg (by simp [h])]
    rfl
def tops (m : M) : List Int := [m.id, m.al, m.cd, m.n, m.ve, m.sg, m.so, m.eg, m.eo] ++ m.vs
theorem small_at (m : M) (h : ∀ i, i < (tops m).length → (tops m).getD i 0 ≤ 4611686018427387903) : small m := fun x hx => by
  have h2 : x ∈ tops m := hx
  obtain ⟨i, hi, rfl⟩ := List.getElem_of_mem h2
  have := h i hi
  simpa [List.getD, hi] using this
theorem small_no (m : M) {i : Nat} (hi : i < (tops m).length) (h : 4611686018427387903 < (tops m).getD i 0) : ¬ small m := fun hs => by
  have := hs ((tops m).getD i 0) (by rw [show (tops m).getD i 0 = (tops m)[i] by simp [List.getD, hi]]; exact List.getElem_mem hi)
  omega
theorem tops_ok {m : M} (h : m.Ok) : ∀ i, 0 ≤ (tops m).getD i 0 ∧ (tops m).getD i 0 ≤ 18446744073709551615 := fun i => by
  by_cases hi : i < (tops m).length
  · have hm : (tops m).getD i 0 ∈ tops m := by rw [show (tops m).getD i 0 = (tops m)[i] by simp [List.getD, hi]]; exact List.getElem_mem hi
    rcases List.mem_append.1 hm with h1 | h1
    · simp only [List.mem_cons, List.not_mem_nil, or_false] at h1
      rcases h1 with e | e | e | e | e | e | e | e | e
      · rw [e]; exact h.id
      · rw [e]; exact h.al
      · rw [e]; exact h.cd
      · rw [e]; exact h.n
      · rw [e]; exact h.ve
      · rw [e]; exact h.sg
      · rw [e]; exact h.so
      · rw [e]; exact h.eg
      · rw [e]; exact h.eo
    · exact h.vs _ h1
  · rw [show (tops m).getD i 0 = 0 by simp [List.getD]; rw [List.getElem?_eq_none (by omega)]; rfl]
    omega
set_option maxHeartbeats 4000000 in
set_option maxRecDepth 100000 in
theorem rright_none (m : M) (nv rv vv : Value) (w : World) (hM : MV w m nv rv vv) (hk : (prt m.kd).2 = false) :
    Calls Tryd.prog 30 #[.agg (m.cells nv rv vv)] w fun e w' => e = .returned (.bool false) ∧ Below w.heap.size w w' := by
  obtain ⟨nA, nc, rfl⟩ := hM.nm.form
  obtain ⟨rA, rc, rfl⟩ := hM.rs.form
  obtain ⟨vA, vc, rfl⟩ := hM.vs.form
  have hO0 := Blk.new w 28 #[.int .u64 m.kd, .int .u64 m.id, .int .u64 m.al, .slice nA m.nm.length nc, .int .u8 m.pr, .int .u8 m.od, .int .u64 m.sg, .int .u64 m.so, .int .u64 m.eg, .int .u64 m.eo, .bool m.sm, .int .u64 m.cd, .slice rA m.rs.length rc, .int .u64 m.n, .int .u64 m.ve, .slice vA m.vs.length vc]
  have hB0 := (Below.refl w.heap.size w).alloc (Nat.le_refl _) (.cells #[.int .u64 m.kd, .int .u64 m.id, .int .u64 m.al, .slice nA m.nm.length nc, .int .u8 m.pr, .int .u8 m.od, .int .u64 m.sg, .int .u64 m.so, .int .u64 m.eg, .int .u64 m.eo, .bool m.sm, .int .u64 m.cd, .slice rA m.rs.length rc, .int .u64 m.n, .int .u64 m.ve, .slice vA m.vs.length vc] 28)
  have hsh := rshape_all m.kd
  rw [show sbs (shK m.kd) = ⟨#[45]⟩ from (dash m.kd).2 hk] at hsh
  have a0 : World.cell? (w.alloc (.cells #[.int .u64 m.kd, .int .u64 m.id, .int .u64 m.al, .slice nA m.nm.length nc, .int .u8 m.pr, .int .u8 m.od, .int .u64 m.sg, .int .u64 m.so, .int .u64 m.eg, .int .u64 m.eo, .bool m.sm, .int .u64 m.cd, .slice rA m.rs.length rc, .int .u64 m.n, .int .u64 m.ve, .slice vA m.vs.length vc] 28)) ⟨w.heap.size, 0, none⟩ = some (.int .u64 m.kd) := hO0.cell 0
  clear hM
  go_enter Tryd.func30, Tryd.ntmps30
  go_wp2_with fail
  (with_reducible refine (hsh _).mono ?_)
  clear hsh
  rintro e w1 ⟨rfl, rfl⟩
  go_wp2_with fail
  refine wp_region_held_drew (S := fun _ => True) (by kernel_rfl) (trivial) (fun _ => ?_)
  refine wpAnyH_take (i := 0) (oi := ({ dst := some 12, op := Op.move (Operand.tmp 3), type := 9, pos := _, after := #[], guard := none } : Oper)) (v := ?_) rfl (by kernel_rfl) (by kernel_rfl) (by kernel_rfl) (fun _ _ _ h => h) (Or.inl ⟨by rfl, ?_⟩) (trivial) ?_
  rotate_left
  · intro w hSw
    try dsimp only at hSw
    go_simp
    try with_reducible rfl
  try simp only [Act.put, List.setIfInBounds_toArray, List.set_cons_zero, List.set_cons_succ]
  refine wpAnyH_take (i := 1) (oi := ({ dst := some 13, op := Op.binOp BinOp.eql 9 (Operand.tmp 12) (Operand.const (Value.string { data := #[45] })) 9, type := 4, pos := _, after := #[{ on := 0, ground := Ground.data }], guard := none } : Oper)) (v := ?_) rfl (by kernel_rfl) (by kernel_rfl) (by kernel_rfl) (fun _ _ _ h => h) (Or.inl ⟨by rfl, ?_⟩) (trivial) ?_
  rotate_left
  · intro w hSw
    try dsimp only at hSw
    go_simp
    try with_reducible rfl
  try simp only [Act.put, List.setIfInBounds_toArray, List.set_cons_zero, List.set_cons_succ]
  refine wpAnyH_take (i := 2) (oi := ({ dst := some 14, op := Op.move (Operand.tmp 13), type := 4, pos := _, after := #[{ on := 1, ground := Ground.data }], guard := none } : Oper)) (v := ?_) rfl (by kernel_rfl) (by kernel_rfl) (by kernel_rfl) (fun _ _ _ h => h) (Or.inl ⟨by rfl, ?_⟩) (trivial) ?_
  rotate_left
  · intro w hSw
    try dsimp only at hSw
    go_simp
    try with_reducible rfl
  try simp only [Act.put, List.setIfInBounds_toArray, List.set_cons_zero, List.set_cons_succ]
  refine wpAnyH_take (i := 3) (oi := ({ dst := some 15, op := Op.load 28 (Operand.tmp 1), type := 28, pos := _, after := #[{ on := 2, ground := Ground.guard }], guard := some (2, false) } : Oper)) (v := undef) rfl (by kernel_rfl) (by kernel_rfl) (by kernel_rfl) (fun _ _ _ h => h) (Or.inr ⟨by rfl, rfl⟩) (trivial) ?_
  try simp only [Act.put, List.setIfInBounds_toArray, List.set_cons_zero, List.set_cons_succ]
  refine wpAnyH_take (i := 4) (oi := ({ dst := some 16, op := Op.load 28 (Operand.tmp 1), type := 28, pos := _, after := #[{ on := 2, ground := Ground.guard }], guard := some (2, false) } : Oper)) (v := undef) rfl (by kernel_rfl) (by kernel_rfl) (by kernel_rfl) (fun _ _ _ h => h) (Or.inr ⟨by rfl, rfl⟩) (trivial) ?_
  try simp only [Act.put, List.setIfInBounds_toArray, List.set_cons_zero, List.set_cons_succ]
  refine wpAnyH_take (i := 5) (oi := ({ dst := some 17, op := Op.call { callee := Callee.value (Operand.func 49), args := #[Operand.tmp 16], argTypes := #[28] }, type := 28, pos := _, after := #[{ on := 4, ground := Ground.data }, { on := 2, ground := Ground.chain }, { on := 2, ground := Ground.guard }], guard := some (2, false) } : Oper)) (v := undef) rfl (by kernel_rfl) (by kernel_rfl) (by kernel_rfl) (fun _ _ _ h => h) (Or.inr ⟨by rfl, rfl⟩) (trivial) ?_
  try simp only [Act.put, List.setIfInBounds_toArray, List.set_cons_zero, List.set_cons_succ]
  refine wpAnyH_take (i := 6) (oi := ({ dst := some 18, op := Op.call { callee := Callee.value (Operand.func 14), args := #[Operand.tmp 15, Operand.tmp 17], argTypes := #[28, 28] }, type := 4, pos := _, after := #[{ on := 3, ground := Ground.data }, { on := 5, ground := Ground.data }, { on := 5, ground := Ground.chain }, { on := 2, ground := Ground.guard }], guard := some (2, false) } : Oper)) (v := undef) rfl (by kernel_rfl) (by kernel_rfl) (by kernel_rfl) (fun _ _ _ h => h) (Or.inr ⟨by rfl, rfl⟩) (trivial) ?_
  try simp only [Act.put, List.setIfInBounds_toArray, List.set_cons_zero, List.set_cons_succ]
  refine wpAnyH_take (i := 7) (oi := ({ dst := some 19, op := Op.unOp UnOp.not 4 (Operand.tmp 18), type := 4, pos := _, after := #[{ on := 6, ground := Ground.data }, { on := 2, ground := Ground.guard }], guard := some (2, false) } : Oper)) (v := undef) rfl (by kernel_rfl) (by kernel_rfl) (by kernel_rfl) (fun _ _ _ h => h) (Or.inr ⟨by rfl, rfl⟩) (trivial) ?_
  try simp only [Act.put, List.setIfInBounds_toArray, List.set_cons_zero, List.set_cons_succ]
  refine wpAnyH_take (i := 8) (oi := ({ dst := some 20, op := Op.pick (Operand.tmp 14) (Operand.const (Value.bool true)) (Operand.tmp 19), type := 4, pos := _, after := #[{ on := 2, ground := Ground.data }, { on := 7, ground := Ground.data }], guard := none } : Oper)) (v := ?_) rfl (by kernel_rfl) (by kernel_rfl) (by kernel_rfl) (fun _ _ _ h => h) (Or.inl ⟨by rfl, ?_⟩) (trivial) ?_
  rotate_left
  · intro w hSw
    try dsimp only at hSw
    go_simp
    try with_reducible rfl
  try simp only [Act.put, List.setIfInBounds_toArray, List.set_cons_zero, List.set_cons_succ]
  refine wpAnyH_take (i := 9) (oi := ({ dst := some 21, op := Op.move (Operand.tmp 20), type := 4, pos := _, after := #[{ on := 8, ground := Ground.data }, { on := 6, ground := Ground.chain }], guard := none } : Oper)) (v := ?_) rfl (by kernel_rfl) (by kernel_rfl) (by kernel_rfl) (fun _ _ _ h => h) (Or.inl ⟨by rfl, ?_⟩) (trivial) ?_
  rotate_left
  · intro w hSw
    try dsimp only at hSw
    go_simp
    try with_reducible rfl
  try simp only [Act.put, List.setIfInBounds_toArray, List.set_cons_zero, List.set_cons_succ]
  refine wpAnyH_take (i := 10) (oi := ({ dst := some 22, op := Op.fieldAddr 28 (Operand.tmp 1) 10, type := 0, pos := _, after := #[{ on := 9, ground := Ground.guard }], guard := some (9, false) } : Oper)) (v := undef) rfl (by kernel_rfl) (by kernel_rfl) (by kernel_rfl) (fun _ _ _ h => h) (Or.inr ⟨by rfl, rfl⟩) (trivial) ?_
  try simp only [Act.put, List.setIfInBounds_toArray, List.set_cons_zero, List.set_cons_succ]
  refine wpAnyH_take (i := 11) (oi := ({ dst := some 23, op := Op.load 23 (Operand.tmp 22), type := 23, pos := _, after := #[{ on := 10, ground := Ground.data }, { on := 9, ground := Ground.guard }], guard := some (9, false) } : Oper)) (v := undef) rfl (by kernel_rfl) (by kernel_rfl) (by kernel_rfl) (fun _ _ _ h => h) (Or.inr ⟨by rfl, rfl⟩) (trivial) ?_
  try simp only [Act.put, List.setIfInBounds_toArray, List.set_cons_zero, List.set_cons_succ]
  refine wpAnyH_take (i := 12) (oi := ({ dst := some 24, op := Op.call { callee := Callee.builtin Builtin.len, args := #[Operand.tmp 23], argTypes := #[23] }, type := 3, pos := _, after := #[{ on := 11, ground := Ground.data }, { on := 9, ground := Ground.guard }], guard := some (9, false) } : Oper)) (v := undef) rfl (by kernel_rfl) (by kernel_rfl) (by kernel_rfl) (fun _ _ _ h => h) (Or.inr ⟨by rfl, rfl⟩) (trivial) ?_
  try simp only [Act.put, List.setIfInBounds_toArray, List.set_cons_zero, List.set_cons_succ]
  refine wpAnyH_take (i := 13) (oi := ({ dst := some 25, op := Op.binOp BinOp.gtr 3 (Operand.tmp 24) (Operand.const (Value.int IntKind.i64 64)) 3, type := 4, pos := _, after := #[{ on := 12, ground := Ground.data }, { on := 9, ground := Ground.guard }], guard := some (9, false) } : Oper)) (v := undef) rfl (by kernel_rfl) (by kernel_rfl) (by kernel_rfl) (fun _ _ _ h => h) (Or.inr ⟨by rfl, rfl⟩) (trivial) ?_
  try simp only [Act.put, List.setIfInBounds_toArray, List.set_cons_zero, List.set_cons_succ]
  refine wpAnyH_take (i := 14) (oi := ({ dst := some 26, op := Op.pick (Operand.tmp 21) (Operand.const (Value.bool true)) (Operand.tmp 25), type := 4, pos := _, after := #[{ on := 9, ground := Ground.data }, { on := 13, ground := Ground.data }], guard := none } : Oper)) (v := ?_) rfl (by kernel_rfl) (by kernel_rfl) (by kernel_rfl) (fun _ _ _ h => h) (Or.inl ⟨by rfl, ?_⟩) (trivial) ?_
  rotate_left
  · intro w hSw
    try dsimp only at hSw
    go_simp
    try with_reducible rfl
  try simp only [Act.put, List.setIfInBounds_toArray, List.set_cons_zero, List.set_cons_succ]
  refine wpAnyH_done (by kernel_rfl) ?_ _
  go_wp2_with fail
  go_ret
  exact ⟨rfl, below_drewN hB0 1⟩
theorem setL_ok {m x : M} (h : m.Ok) (hx : x.Ok) {c : Int} (hc : c ∈ LETS) : (setL m x c).Ok := by
  simp only [LETS, List.mem_cons, List.not_mem_nil, or_false] at hc
  rcases hc with rfl | rfl | rfl | rfl | rfl | rfl | rfl | rfl | rfl | rfl | rfl | rfl | rfl | rfl
  · rw [setL_105]; exact { hx with id := h.id }
  · rw [setL_97]; exact { hx with al := h.al }
  · rw [setL_116]; exact { hx with nm := h.nm }
  · rw [setL_112]; exact { hx with pr := h.pr }
  · rw [setL_111]; exact { hx with od := h.od }
  · rw [setL_115]; exact { hx with sg := h.sg, so := h.so }
  · rw [setL_101]; exact { hx with eg := h.eg, eo := h.eo }
  · rw [setL_103]; exact { hx with eg := h.eg }
  · rw [setL_98]; exact { hx with }
  · rw [setL_99]; exact { hx with cd := h.cd }
  · rw [setL_114]; exact { hx with rs := h.rs }
  · rw [setL_110]; exact { hx with n := h.n }
  · rw [setL_118]; exact { hx with ve := h.ve }
  · rw [setL_108]; exact { hx with vs := h.vs }
theorem only_ok {m : M} (h : m.Ok) {L : List Int} (hL : ∀ c ∈ L, c ∈ LETS) : (only m L).Ok := by
  unfold only
  suffices H : ∀ x : M, x.Ok → (L.foldl (setL m) x).Ok from H _ (nil_ok h.kd)
  induction L with
  | nil => intro x hx; exact hx
  | cons c L ih => intro x hx; exact ih (fun d hd => hL d (by simp [hd])) _ (setL_ok h hx (hL c (by simp)))
theorem str_ne {a : ByteArray} (h : a ≠ ⟨#[45]⟩) : (a.toList == [45]) = false := by
  rw [beq_eq_false_iff_ne]
  intro e
  rw [ByteArray.toList_eq] at e
  exact h (ByteArray.ext (Array.toList_inj.1 (e.trans rfl)))
set_option maxHeartbeats 4000000 in
set_option maxRecDepth 100000 in
theorem rright_other (m : M) (nv rv vv : Value) (w : World) (hM : MV w m nv rv vv) (h : m.Ok) (hf : m.Fit) (hk : (prt m.kd).2 = true) (R : Bool) (hR : R = true ↔ Right m) (hx : m ≠ only m (shK m.kd)) :
    Calls Tryd.prog 30 #[.agg (m.cells nv rv vv)] w fun e w' => e = .returned (.bool R) ∧ Below w.heap.size w w' := by
  obtain ⟨nA, nc, rfl⟩ := hM.nm.form
  obtain ⟨rA, rc, rfl⟩ := hM.rs.form
  obtain ⟨vA, vc, rfl⟩ := hM.vs.form
  have hO0 := Blk.new w 28 #[.int .u64 m.kd, .int .u64 m.id, .int .u64 m.al, .slice nA m.nm.length nc, .int .u8 m.pr, .int .u8 m.od, .int .u64 m.sg, .int .u64 m.so, .int .u64 m.eg, .int .u64 m.eo, .bool m.sm, .int .u64 m.cd, .slice rA m.rs.length rc, .int .u64 m.n, .int .u64 m.ve, .slice vA m.vs.length vc]
  have hB0 := (Below.refl w.heap.size w).alloc (Nat.le_refl _) (.cells #[.int .u64 m.kd, .int .u64 m.id, .int .u64 m.al, .slice nA m.nm.length nc, .int .u8 m.pr, .int .u8 m.od, .int .u64 m.sg, .int .u64 m.so, .int .u64 m.eg, .int .u64 m.eo, .bool m.sm, .int .u64 m.cd, .slice rA m.rs.length rc, .int .u64 m.n, .int .u64 m.ve, .slice vA m.vs.length vc] 28)
  have hsh := rshape_all m.kd
  have hnd : sbs (shK m.kd) ≠ ⟨#[45]⟩ := fun e => by rw [(dash m.kd).1 e] at hk; cases hk
  have hLK := letters hk
  have hxk := only_ok h hLK.2
  have hon := fun W h => ronly_all m (.slice nA m.nm.length nc) (.slice rA m.rs.length rc) (.slice vA m.vs.length vc) W h hk
  have hxr : (false = true) ↔ m = only m (shK m.kd) := ⟨(fun e => by cases e), fun e => absurd e hx⟩
  obtain ⟨L, hL⟩ : ∃ L, L = shK m.kd := ⟨_, rfl⟩
  obtain ⟨hLe, hLL⟩ := hLK
  rw [← hL] at hsh hnd hon hxk hLe hLL
  obtain ⟨x, hX⟩ : ∃ x, x = only m L := ⟨_, rfl⟩
  rw [← hL, ← hX] at hxr hx
  have HXR := Lib.hid hxr
  have HNX := Lib.hid hx
  clear hxr hx
  rw [← hX] at hxk
  have HX := Lib.hid hX
  have HKK := Lib.hid hk
  have HLE := Lib.hid hLe
  have HR := Lib.hid hR
  have HND := Lib.hid hnd
  clear hnd
  have hstr : ((sbs L).toList == [45]) = false := str_ne HND.out
  have hRS := fun (W : World) (h : Below w.heap.size w W) => hM.below h
  clear hM hL hX hLe hR hk
  have a0 : World.cell? (w.alloc (.cells #[.int .u64 m.kd, .int .u64 m.id, .int .u64 m.al, .slice nA m.nm.length nc, .int .u8 m.pr, .int .u8 m.od, .int .u64 m.sg, .int .u64 m.so, .int .u64 m.eg, .int .u64 m.eo, .bool m.sm, .int .u64 m.cd, .slice rA m.rs.length rc, .int .u64 m.n, .int .u64 m.ve, .slice vA m.vs.length vc] 28)) ⟨w.heap.size, 0, none⟩ = some (.int .u64 m.kd) := hO0.cell 0
  go_enter Tryd.func30, Tryd.ntmps30
  go_wp2_with fail
  (with_reducible refine (hsh _).mono ?_)
  clear hsh
  rintro e w1 ⟨rfl, rfl⟩
  go_upto_region 2 with fail
  refine wp_world (fun wz => Blk wz w.heap.size 28 #[.int .u64 m.kd, .int .u64 m.id, .int .u64 m.al, .slice nA m.nm.length nc, .int .u8 m.pr, .int .u8 m.od, .int .u64 m.sg, .int .u64 m.so, .int .u64 m.eg, .int .u64 m.eo, .bool m.sm, .int .u64 m.cd, .slice rA m.rs.length rc, .int .u64 m.n, .int .u64 m.ve, .slice vA m.vs.length vc] ∧ Below w.heap.size w wz) ⟨hO0, hB0⟩ ?_
  clear hO0 hB0 a0
  rintro w1 ⟨hO1, hB1⟩
  have c0 : World.cell? w1 ⟨w.heap.size, 0, none⟩ = some (.int .u64 m.kd) := hO1.cell 0
  have c1 : World.cell? w1 ⟨w.heap.size, 1, none⟩ = some (.int .u64 m.id) := hO1.cell 1
  have c2 : World.cell? w1 ⟨w.heap.size, 2, none⟩ = some (.int .u64 m.al) := hO1.cell 2
  have c3 : World.cell? w1 ⟨w.heap.size, 3, none⟩ = some (.slice nA m.nm.length nc) := hO1.cell 3
  have c4 : World.cell? w1 ⟨w.heap.size, 4, none⟩ = some (.int .u8 m.pr) := hO1.cell 4
  have c5 : World.cell? w1 ⟨w.heap.size, 5, none⟩ = some (.int .u8 m.od) := hO1.cell 5
  have c6 : World.cell? w1 ⟨w.heap.size, 6, none⟩ = some (.int .u64 m.sg) := hO1.cell 6
  have c7 : World.cell? w1 ⟨w.heap.size, 7, none⟩ = some (.int .u64 m.so) := hO1.cell 7
  have c8 : World.cell? w1 ⟨w.heap.size, 8, none⟩ = some (.int .u64 m.eg) := hO1.cell 8
  have c9 : World.cell? w1 ⟨w.heap.size, 9, none⟩ = some (.int .u64 m.eo) := hO1.cell 9
  have c10 : World.cell? w1 ⟨w.heap.size, 10, none⟩ = some (.bool m.sm) := hO1.cell 10
  have c11 : World.cell? w1 ⟨w.heap.size, 11, none⟩ = some (.int .u64 m.cd) := hO1.cell 11
  have c12 : World.cell? w1 ⟨w.heap.size, 12, none⟩ = some (.slice rA m.rs.length rc) := hO1.cell 12
  have c13 : World.cell? w1 ⟨w.heap.size, 13, none⟩ = some (.int .u64 m.n) := hO1.cell 13
  have c14 : World.cell? w1 ⟨w.heap.size, 14, none⟩ = some (.int .u64 m.ve) := hO1.cell 14
  have c15 : World.cell? w1 ⟨w.heap.size, 15, none⟩ = some (.slice vA m.vs.length vc) := hO1.cell 15
  have hOd := hO1.drew
  have hBd : Below w.heap.size w w1.drew := below_drewN hB1 1
  refine wp_region_held_drew (S := fun w' => w'.cell? ⟨w.heap.size, 0, none⟩ = some (.int .u64 m.kd) ∧ w'.cell? ⟨w.heap.size, 1, none⟩ = some (.int .u64 m.id) ∧ w'.cell? ⟨w.heap.size, 2, none⟩ = some (.int .u64 m.al) ∧ w'.cell? ⟨w.heap.size, 3, none⟩ = some (.slice nA m.nm.length nc) ∧ w'.cell? ⟨w.heap.size, 4, none⟩ = some (.int .u8 m.pr) ∧ w'.cell? ⟨w.heap.size, 5, none⟩ = some (.int .u8 m.od) ∧ w'.cell? ⟨w.heap.size, 6, none⟩ = some (.int .u64 m.sg) ∧ w'.cell? ⟨w.heap.size, 7, none⟩ = some (.int .u64 m.so) ∧ w'.cell? ⟨w.heap.size, 8, none⟩ = some (.int .u64 m.eg) ∧ w'.cell? ⟨w.heap.size, 9, none⟩ = some (.int .u64 m.eo) ∧ w'.cell? ⟨w.heap.size, 10, none⟩ = some (.bool m.sm) ∧ w'.cell? ⟨w.heap.size, 11, none⟩ = some (.int .u64 m.cd) ∧ w'.cell? ⟨w.heap.size, 12, none⟩ = some (.slice rA m.rs.length rc) ∧ w'.cell? ⟨w.heap.size, 13, none⟩ = some (.int .u64 m.n) ∧ w'.cell? ⟨w.heap.size, 14, none⟩ = some (.int .u64 m.ve) ∧ w'.cell? ⟨w.heap.size, 15, none⟩ = some (.slice vA m.vs.length vc)) (by kernel_rfl) (by first | exact ⟨c0, c1, c2, c3, c4, c5, c6, c7, c8, c9, c10, c11, c12, c13, c14, c15⟩ | exact ⟨a0, a1, a2, a3, a4, a5, a6, a7, a8, a9, a10, a11, a12, a13, a14, a15⟩ | exact ⟨b0, b1, b2, b3, b4, b5, b6, b7, b8, b9, b10, b11, b12, b13, b14, b15⟩) (fun _ => ?_)
  refine wpAnyH_take (i := 0) (oi := ({ dst := some 12, op := Op.move (Operand.tmp 3), type := 9, pos := _, after := #[], guard := none } : Oper)) (v := ?_) rfl (by kernel_rfl) (by kernel_rfl) (by kernel_rfl) (fun _ _ _ h => h) (Or.inl ⟨by rfl, ?_⟩) (by first | exact ⟨c0, c1, c2, c3, c4, c5, c6, c7, c8, c9, c10, c11, c12, c13, c14, c15⟩ | exact ⟨a0, a1, a2, a3, a4, a5, a6, a7, a8, a9, a10, a11, a12, a13, a14, a15⟩ | exact ⟨b0, b1, b2, b3, b4, b5, b6, b7, b8, b9, b10, b11, b12, b13, b14, b15⟩) ?_
  rotate_left
  · intro w hSw
    try dsimp only at hSw
    go_simp
    try with_reducible rfl
  try simp only [Act.put, List.setIfInBounds_toArray, List.set_cons_zero, List.set_cons_succ]
  refine wpAnyH_take (i := 1) (oi := ({ dst := some 13, op := Op.binOp BinOp.eql 9 (Operand.tmp 12) (Operand.const (Value.string { data := #[45] })) 9, type := 4, pos := _, after := #[{ on := 0, ground := Ground.data }], guard := none } : Oper)) (v := ?_) rfl (by kernel_rfl) (by kernel_rfl) (by kernel_rfl) (fun _ _ _ h => h) (Or.inl ⟨by rfl, ?_⟩) (by first | exact ⟨c0, c1, c2, c3, c4, c5, c6, c7, c8, c9, c10, c11, c12, c13, c14, c15⟩ | exact ⟨a0, a1, a2, a3, a4, a5, a6, a7, a8, a9, a10, a11, a12, a13, a14, a15⟩ | exact ⟨b0, b1, b2, b3, b4, b5, b6, b7, b8, b9, b10, b11, b12, b13, b14, b15⟩) ?_
  rotate_left
  · intro w hSw
    try dsimp only at hSw
    go_simp
    try with_reducible rfl
  try simp only [Act.put, List.setIfInBounds_toArray, List.set_cons_zero, List.set_cons_succ]
  refine wpAnyH_take (i := 2) (oi := ({ dst := some 14, op := Op.move (Operand.tmp 13), type := 4, pos := _, after := #[{ on := 1, ground := Ground.data }], guard := none } : Oper)) (v := ?_) rfl (by kernel_rfl) (by kernel_rfl) (by kernel_rfl) (fun _ _ _ h => h) (Or.inl ⟨by rfl, ?_⟩) (by first | exact ⟨c0, c1, c2, c3, c4, c5, c6, c7, c8, c9, c10, c11, c12, c13, c14, c15⟩ | exact ⟨a0, a1, a2, a3, a4, a5, a6, a7, a8, a9, a10, a11, a12, a13, a14, a15⟩ | exact ⟨b0, b1, b2, b3, b4, b5, b6, b7, b8, b9, b10, b11, b12, b13, b14, b15⟩) ?_
  rotate_left
  · intro w hSw
    try dsimp only at hSw
    go_simp
    try with_reducible rfl
  try simp only [Act.put, List.setIfInBounds_toArray, List.set_cons_zero, List.set_cons_succ]
  refine wpAnyH_take (i := 3) (oi := ({ dst := some 15, op := Op.load 28 (Operand.tmp 1), type := 28, pos := _, after := #[{ on := 2, ground := Ground.guard }], guard := some (2, false) } : Oper)) (v := ?_) rfl (by kernel_rfl) (by kernel_rfl) (by kernel_rfl) (fun _ _ _ h => h) (Or.inl ⟨by rfl, ?_⟩) (by first | exact ⟨c0, c1, c2, c3, c4, c5, c6, c7, c8, c9, c10, c11, c12, c13, c14, c15⟩ | exact ⟨a0, a1, a2, a3, a4, a5, a6, a7, a8, a9, a10, a11, a12, a13, a14, a15⟩ | exact ⟨b0, b1, b2, b3, b4, b5, b6, b7, b8, b9, b10, b11, b12, b13, b14, b15⟩) ?_
  rotate_left
  · intro w hSw
    try dsimp only at hSw
    go_simp
    try with_reducible rfl
  try simp only [Act.put, List.setIfInBounds_toArray, List.set_cons_zero, List.set_cons_succ]
  refine wpAnyH_take (i := 4) (oi := ({ dst := some 16, op := Op.load 28 (Operand.tmp 1), type := 28, pos := _, after := #[{ on := 2, ground := Ground.guard }], guard := some (2, false) } : Oper)) (v := ?_) rfl (by kernel_rfl) (by kernel_rfl) (by kernel_rfl) (fun _ _ _ h => h) (Or.inl ⟨by rfl, ?_⟩) (by first | exact ⟨c0, c1, c2, c3, c4, c5, c6, c7, c8, c9, c10, c11, c12, c13, c14, c15⟩ | exact ⟨a0, a1, a2, a3, a4, a5, a6, a7, a8, a9, a10, a11, a12, a13, a14, a15⟩ | exact ⟨b0, b1, b2, b3, b4, b5, b6, b7, b8, b9, b10, b11, b12, b13, b14, b15⟩) ?_
  rotate_left
  · intro w hSw
    try dsimp only at hSw
    go_simp
    try with_reducible rfl
  try simp only [Act.put, List.setIfInBounds_toArray, List.set_cons_zero, List.set_cons_succ]
  refine wpAnyH_ready (rs := [5]) (by kernel_rfl) (by simp) ?_
  refine AllReadyH.cons (o := ({ dst := some 17, op := Op.call { callee := Callee.value (Operand.func 49), args := #[Operand.tmp 16], argTypes := #[28] }, type := 28, pos := _, after := #[{ on := 4, ground := Ground.data }, { on := 2, ground := Ground.chain }, { on := 2, ground := Ground.guard }], guard := some (2, false) } : Oper)) rfl (fun K hK => ?_) AllReadyH.nil
  go_simp
  go_at_call 49
  (with_reducible refine (hon _ (hRS _ hBd)).mono ?_)
  rintro e w2 ⟨nv2, rv2, vv2, rfl, hM2, hb2⟩
  rw [← HX.out] at hM2 ⊢
  obtain ⟨nA2, nc2, rfl⟩ := hM2.nm.form
  obtain ⟨rA2, rc2, rfl⟩ := hM2.rs.form
  obtain ⟨vA2, vc2, rfl⟩ := hM2.vs.form
  have hO2 := hOd.same hb2
  have hB2 := hBd.trans (hb2.mono hBd.size)
  have a0 : World.cell? w2 ⟨w.heap.size, 0, none⟩ = some (.int .u64 m.kd) := hO2.cell 0
  have a1 : World.cell? w2 ⟨w.heap.size, 1, none⟩ = some (.int .u64 m.id) := hO2.cell 1
  have a2 : World.cell? w2 ⟨w.heap.size, 2, none⟩ = some (.int .u64 m.al) := hO2.cell 2
  have a3 : World.cell? w2 ⟨w.heap.size, 3, none⟩ = some (.slice nA m.nm.length nc) := hO2.cell 3
  have a4 : World.cell? w2 ⟨w.heap.size, 4, none⟩ = some (.int .u8 m.pr) := hO2.cell 4
  have a5 : World.cell? w2 ⟨w.heap.size, 5, none⟩ = some (.int .u8 m.od) := hO2.cell 5
  have a6 : World.cell? w2 ⟨w.heap.size, 6, none⟩ = some (.int .u64 m.sg) := hO2.cell 6
  have a7 : World.cell? w2 ⟨w.heap.size, 7, none⟩ = some (.int .u64 m.so) := hO2.cell 7
  have a8 : World.cell? w2 ⟨w.heap.size, 8, none⟩ = some (.int .u64 m.eg) := hO2.cell 8
  have a9 : World.cell? w2 ⟨w.heap.size, 9, none⟩ = some (.int .u64 m.eo) := hO2.cell 9
  have a10 : World.cell? w2 ⟨w.heap.size, 10, none⟩ = some (.bool m.sm) := hO2.cell 10
  have a11 : World.cell? w2 ⟨w.heap.size, 11, none⟩ = some (.int .u64 m.cd) := hO2.cell 11
  have a12 : World.cell? w2 ⟨w.heap.size, 12, none⟩ = some (.slice rA m.rs.length rc) := hO2.cell 12
  have a13 : World.cell? w2 ⟨w.heap.size, 13, none⟩ = some (.int .u64 m.n) := hO2.cell 13
  have a14 : World.cell? w2 ⟨w.heap.size, 14, none⟩ = some (.int .u64 m.ve) := hO2.cell 14
  have a15 : World.cell? w2 ⟨w.heap.size, 15, none⟩ = some (.slice vA m.vs.length vc) := hO2.cell 15
  have hsm := rsame_all m x (.slice nA m.nm.length nc) (.slice rA m.rs.length rc) (.slice vA m.vs.length vc) (.slice nA2 x.nm.length nc2) (.slice rA2 x.rs.length rc2) (.slice vA2 x.vs.length vc2) w2 (hRS _ hB2) hM2 h hxk false HXR.out
  refine hK.out _ _ (by first | exact ⟨c0, c1, c2, c3, c4, c5, c6, c7, c8, c9, c10, c11, c12, c13, c14, c15⟩ | exact ⟨a0, a1, a2, a3, a4, a5, a6, a7, a8, a9, a10, a11, a12, a13, a14, a15⟩ | exact ⟨b0, b1, b2, b3, b4, b5, b6, b7, b8, b9, b10, b11, b12, b13, b14, b15⟩) (fun _ => ?_)
  clear hK K
  try simp only [Act.put, List.setIfInBounds_toArray, List.set_cons_zero, List.set_cons_succ]
  refine wpAnyH_ready (rs := [6]) (by kernel_rfl) (by simp) ?_
  refine AllReadyH.cons (o := ({ dst := some 18, op := Op.call { callee := Callee.value (Operand.func 14), args := #[Operand.tmp 15, Operand.tmp 17], argTypes := #[28, 28] }, type := 4, pos := _, after := #[{ on := 3, ground := Ground.data }, { on := 5, ground := Ground.data }, { on := 5, ground := Ground.chain }, { on := 2, ground := Ground.guard }], guard := some (2, false) } : Oper)) rfl (fun K hK => ?_) AllReadyH.nil
  go_simp
  go_at_call 14
  (with_reducible refine hsm.mono ?_)
  clear hsm
  rintro e w3 ⟨rfl, hb3⟩
  have hO3 := hO2.same hb3
  have hB3 := hB2.trans (hb3.mono hB2.size)
  have b0 : World.cell? w3 ⟨w.heap.size, 0, none⟩ = some (.int .u64 m.kd) := hO3.cell 0
  have b1 : World.cell? w3 ⟨w.heap.size, 1, none⟩ = some (.int .u64 m.id) := hO3.cell 1
  have b2 : World.cell? w3 ⟨w.heap.size, 2, none⟩ = some (.int .u64 m.al) := hO3.cell 2
  have b3 : World.cell? w3 ⟨w.heap.size, 3, none⟩ = some (.slice nA m.nm.length nc) := hO3.cell 3
  have b4 : World.cell? w3 ⟨w.heap.size, 4, none⟩ = some (.int .u8 m.pr) := hO3.cell 4
  have b5 : World.cell? w3 ⟨w.heap.size, 5, none⟩ = some (.int .u8 m.od) := hO3.cell 5
  have b6 : World.cell? w3 ⟨w.heap.size, 6, none⟩ = some (.int .u64 m.sg) := hO3.cell 6
  have b7 : World.cell? w3 ⟨w.heap.size, 7, none⟩ = some (.int .u64 m.so) := hO3.cell 7
  have b8 : World.cell? w3 ⟨w.heap.size, 8, none⟩ = some (.int .u64 m.eg) := hO3.cell 8
  have b9 : World.cell? w3 ⟨w.heap.size, 9, none⟩ = some (.int .u64 m.eo) := hO3.cell 9
  have b10 : World.cell? w3 ⟨w.heap.size, 10, none⟩ = some (.bool m.sm) := hO3.cell 10
  have b11 : World.cell? w3 ⟨w.heap.size, 11, none⟩ = some (.int .u64 m.cd) := hO3.cell 11
  have b12 : World.cell? w3 ⟨w.heap.size, 12, none⟩ = some (.slice rA m.rs.length rc) := hO3.cell 12
  have b13 : World.cell? w3 ⟨w.heap.size, 13, none⟩ = some (.int .u64 m.n) := hO3.cell 13
  have b14 : World.cell? w3 ⟨w.heap.size, 14, none⟩ = some (.int .u64 m.ve) := hO3.cell 14
  have b15 : World.cell? w3 ⟨w.heap.size, 15, none⟩ = some (.slice vA m.vs.length vc) := hO3.cell 15
  refine hK.out _ _ (by first | exact ⟨c0, c1, c2, c3, c4, c5, c6, c7, c8, c9, c10, c11, c12, c13, c14, c15⟩ | exact ⟨a0, a1, a2, a3, a4, a5, a6, a7, a8, a9, a10, a11, a12, a13, a14, a15⟩ | exact ⟨b0, b1, b2, b3, b4, b5, b6, b7, b8, b9, b10, b11, b12, b13, b14, b15⟩) (fun _ => ?_)
  clear hK K
  try simp only [Act.put, List.setIfInBounds_toArray, List.set_cons_zero, List.set_cons_succ]
  refine wpAnyH_take (i := 7) (oi := ({ dst := some 19, op := Op.unOp UnOp.not 4 (Operand.tmp 18), type := 4, pos := _, after := #[{ on := 6, ground := Ground.data }, { on := 2, ground := Ground.guard }], guard := some (2, false) } : Oper)) (v := ?_) rfl (by kernel_rfl) (by kernel_rfl) (by kernel_rfl) (fun _ _ _ h => h) (Or.inl ⟨by rfl, ?_⟩) (by first | exact ⟨c0, c1, c2, c3, c4, c5, c6, c7, c8, c9, c10, c11, c12, c13, c14, c15⟩ | exact ⟨a0, a1, a2, a3, a4, a5, a6, a7, a8, a9, a10, a11, a12, a13, a14, a15⟩ | exact ⟨b0, b1, b2, b3, b4, b5, b6, b7, b8, b9, b10, b11, b12, b13, b14, b15⟩) ?_
  rotate_left
  · intro w hSw
    try dsimp only at hSw
    go_simp
    try with_reducible rfl
  try simp only [Act.put, List.setIfInBounds_toArray, List.set_cons_zero, List.set_cons_succ]
  refine wpAnyH_take (i := 8) (oi := ({ dst := some 20, op := Op.pick (Operand.tmp 14) (Operand.const (Value.bool true)) (Operand.tmp 19), type := 4, pos := _, after := #[{ on := 2, ground := Ground.data }, { on := 7, ground := Ground.data }], guard := none } : Oper)) (v := ?_) rfl (by kernel_rfl) (by kernel_rfl) (by kernel_rfl) (fun _ _ _ h => h) (Or.inl ⟨by rfl, ?_⟩) (by first | exact ⟨c0, c1, c2, c3, c4, c5, c6, c7, c8, c9, c10, c11, c12, c13, c14, c15⟩ | exact ⟨a0, a1, a2, a3, a4, a5, a6, a7, a8, a9, a10, a11, a12, a13, a14, a15⟩ | exact ⟨b0, b1, b2, b3, b4, b5, b6, b7, b8, b9, b10, b11, b12, b13, b14, b15⟩) ?_
  rotate_left
  · intro w hSw
    try dsimp only at hSw
    go_simp
    try with_reducible rfl
  try simp only [Act.put, List.setIfInBounds_toArray, List.set_cons_zero, List.set_cons_succ]
  refine wpAnyH_take (i := 9) (oi := ({ dst := some 21, op := Op.move (Operand.tmp 20), type := 4, pos := _, after := #[{ on := 8, ground := Ground.data }, { on := 6, ground := Ground.chain }], guard := none } : Oper)) (v := ?_) rfl (by kernel_rfl) (by kernel_rfl) (by kernel_rfl) (fun _ _ _ h => h) (Or.inl ⟨by rfl, ?_⟩) (by first | exact ⟨c0, c1, c2, c3, c4, c5, c6, c7, c8, c9, c10, c11, c12, c13, c14, c15⟩ | exact ⟨a0, a1, a2, a3, a4, a5, a6, a7, a8, a9, a10, a11, a12, a13, a14, a15⟩ | exact ⟨b0, b1, b2, b3, b4, b5, b6, b7, b8, b9, b10, b11, b12, b13, b14, b15⟩) ?_
  rotate_left
  · intro w hSw
    try dsimp only at hSw
    go_simp
    try with_reducible rfl
  try simp only [Act.put, List.setIfInBounds_toArray, List.set_cons_zero, List.set_cons_succ]
  refine wpAnyH_take (i := 10) (oi := ({ dst := some 22, op := Op.fieldAddr 28 (Operand.tmp 1) 10, type := 0, pos := _, after := #[{ on := 9, ground := Ground.guard }], guard := some (9, false) } : Oper)) (v := undef) rfl (by kernel_rfl) (by kernel_rfl) (by kernel_rfl) (fun _ _ _ h => h) (Or.inr ⟨by rfl, rfl⟩) (by first | exact ⟨c0, c1, c2, c3, c4, c5, c6, c7, c8, c9, c10, c11, c12, c13, c14, c15⟩ | exact ⟨a0, a1, a2, a3, a4, a5, a6, a7, a8, a9, a10, a11, a12, a13, a14, a15⟩ | exact ⟨b0, b1, b2, b3, b4, b5, b6, b7, b8, b9, b10, b11, b12, b13, b14, b15⟩) ?_
  try simp only [Act.put, List.setIfInBounds_toArray, List.set_cons_zero, List.set_cons_succ]
  refine wpAnyH_take (i := 11) (oi := ({ dst := some 23, op := Op.load 23 (Operand.tmp 22), type := 23, pos := _, after := #[{ on := 10, ground := Ground.data }, { on := 9, ground := Ground.guard }], guard := some (9, false) } : Oper)) (v := undef) rfl (by kernel_rfl) (by kernel_rfl) (by kernel_rfl) (fun _ _ _ h => h) (Or.inr ⟨by rfl, rfl⟩) (by first | exact ⟨c0, c1, c2, c3, c4, c5, c6, c7, c8, c9, c10, c11, c12, c13, c14, c15⟩ | exact ⟨a0, a1, a2, a3, a4, a5, a6, a7, a8, a9, a10, a11, a12, a13, a14, a15⟩ | exact ⟨b0, b1, b2, b3, b4, b5, b6, b7, b8, b9, b10, b11, b12, b13, b14, b15⟩) ?_
  try simp only [Act.put, List.setIfInBounds_toArray, List.set_cons_zero, List.set_cons_succ]
  refine wpAnyH_take (i := 12) (oi := ({ dst := some 24, op := Op.call { callee := Callee.builtin Builtin.len, args := #[Operand.tmp 23], argTypes := #[23] }, type := 3, pos := _, after := #[{ on := 11, ground := Ground.data }, { on := 9, ground := Ground.guard }], guard := some (9, false) } : Oper)) (v := undef) rfl (by kernel_rfl) (by kernel_rfl) (by kernel_rfl) (fun _ _ _ h => h) (Or.inr ⟨by rfl, rfl⟩) (by first | exact ⟨c0, c1, c2, c3, c4, c5, c6, c7, c8, c9, c10, c11, c12, c13, c14, c15⟩ | exact ⟨a0, a1, a2, a3, a4, a5, a6, a7, a8, a9, a10, a11, a12, a13, a14, a15⟩ | exact ⟨b0, b1, b2, b3, b4, b5, b6, b7, b8, b9, b10, b11, b12, b13, b14, b15⟩) ?_
  try simp only [Act.put, List.setIfInBounds_toArray, List.set_cons_zero, List.set_cons_succ]
  refine wpAnyH_take (i := 13) (oi := ({ dst := some 25, op := Op.binOp BinOp.gtr 3 (Operand.tmp 24) (Operand.const (Value.int IntKind.i64 64)) 3, type := 4, pos := _, after := #[{ on := 12, ground := Ground.data }, { on := 9, ground := Ground.guard }], guard := some (9, false) } : Oper)) (v := undef) rfl (by kernel_rfl) (by kernel_rfl) (by kernel_rfl) (fun _ _ _ h => h) (Or.inr ⟨by rfl, rfl⟩) (by first | exact ⟨c0, c1, c2, c3, c4, c5, c6, c7, c8, c9, c10, c11, c12, c13, c14, c15⟩ | exact ⟨a0, a1, a2, a3, a4, a5, a6, a7, a8, a9, a10, a11, a12, a13, a14, a15⟩ | exact ⟨b0, b1, b2, b3, b4, b5, b6, b7, b8, b9, b10, b11, b12, b13, b14, b15⟩) ?_
  try simp only [Act.put, List.setIfInBounds_toArray, List.set_cons_zero, List.set_cons_succ]
  refine wpAnyH_take (i := 14) (oi := ({ dst := some 26, op := Op.pick (Operand.tmp 21) (Operand.const (Value.bool true)) (Operand.tmp 25), type := 4, pos := _, after := #[{ on := 9, ground := Ground.data }, { on := 13, ground := Ground.data }], guard := none } : Oper)) (v := ?_) rfl (by kernel_rfl) (by kernel_rfl) (by kernel_rfl) (fun _ _ _ h => h) (Or.inl ⟨by rfl, ?_⟩) (by first | exact ⟨c0, c1, c2, c3, c4, c5, c6, c7, c8, c9, c10, c11, c12, c13, c14, c15⟩ | exact ⟨a0, a1, a2, a3, a4, a5, a6, a7, a8, a9, a10, a11, a12, a13, a14, a15⟩ | exact ⟨b0, b1, b2, b3, b4, b5, b6, b7, b8, b9, b10, b11, b12, b13, b14, b15⟩) ?_
  rotate_left
  · intro w hSw
    try dsimp only at hSw
    go_simp
    try with_reducible rfl
  try simp only [Act.put, List.setIfInBounds_toArray, List.set_cons_zero, List.set_cons_succ]
  refine wpAnyH_done (by kernel_rfl) ?_ _
  go_wp2_with fail
  have hf : R = false := by
    cases R with
    | false => rfl
    | true => exact absurd (HR.out.1 rfl) (fun hr => HNX.out (by rw [HX.out, HLE.out]; exact hr.2.1))
  subst hf
  go_ret
  exact ⟨rfl, hB3⟩
set_option maxHeartbeats 4000000 in
set_option maxRecDepth 100000 in
theorem rright_long (m : M) (nv rv vv : Value) (w : World) (hM : MV w m nv rv vv) (h : m.Ok) (hf : m.Fit) (hk : (prt m.kd).2 = true) (R : Bool) (hR : R = true ↔ Right m) (hx : m = only m (shK m.kd)) (hr : ¬ m.rs.length ≤ 64) :
    Calls Tryd.prog 30 #[.agg (m.cells nv rv vv)] w fun e w' => e = .returned (.bool R) ∧ Below w.heap.size w w' := by
  obtain ⟨nA, nc, rfl⟩ := hM.nm.form
  obtain ⟨rA, rc, rfl⟩ := hM.rs.form
  obtain ⟨vA, vc, rfl⟩ := hM.vs.form
  have hO0 := Blk.new w 28 #[.int .u64 m.kd, .int .u64 m.id, .int .u64 m.al, .slice nA m.nm.length nc, .int .u8 m.pr, .int .u8 m.od, .int .u64 m.sg, .int .u64 m.so, .int .u64 m.eg, .int .u64 m.eo, .bool m.sm, .int .u64 m.cd, .slice rA m.rs.length rc, .int .u64 m.n, .int .u64 m.ve, .slice vA m.vs.length vc]
  have hB0 := (Below.refl w.heap.size w).alloc (Nat.le_refl _) (.cells #[.int .u64 m.kd, .int .u64 m.id, .int .u64 m.al, .slice nA m.nm.length nc, .int .u8 m.pr, .int .u8 m.od, .int .u64 m.sg, .int .u64 m.so, .int .u64 m.eg, .int .u64 m.eo, .bool m.sm, .int .u64 m.cd, .slice rA m.rs.length rc, .int .u64 m.n, .int .u64 m.ve, .slice vA m.vs.length vc] 28)
  have hsh := rshape_all m.kd
  have hnd : sbs (shK m.kd) ≠ ⟨#[45]⟩ := fun e => by rw [(dash m.kd).1 e] at hk; cases hk
  have hLK := letters hk
  have hxk := only_ok h hLK.2
  have hon := fun W h => ronly_all m (.slice nA m.nm.length nc) (.slice rA m.rs.length rc) (.slice vA m.vs.length vc) W h hk
  obtain ⟨L, hL⟩ : ∃ L, L = shK m.kd := ⟨_, rfl⟩
  obtain ⟨hLe, hLL⟩ := hLK
  rw [← hL] at hsh hnd hon hxk hLe hLL
  obtain ⟨x, hX⟩ : ∃ x, x = only m L := ⟨_, rfl⟩
  rw [← hL, ← hX] at hx
  have HXE := Lib.hid hx
  clear hx
  rw [← hX] at hxk
  have HX := Lib.hid hX
  have HKK := Lib.hid hk
  have HLE := Lib.hid hLe
  have HR := Lib.hid hR
  have HND := Lib.hid hnd
  clear hnd
  have hstr : ((sbs L).toList == [45]) = false := str_ne HND.out
  have hRS := fun (W : World) (h : Below w.heap.size w W) => hM.below h
  clear hM hL hX hLe hR hk
  have a0 : World.cell? (w.alloc (.cells #[.int .u64 m.kd, .int .u64 m.id, .int .u64 m.al, .slice nA m.nm.length nc, .int .u8 m.pr, .int .u8 m.od, .int .u64 m.sg, .int .u64 m.so, .int .u64 m.eg, .int .u64 m.eo, .bool m.sm, .int .u64 m.cd, .slice rA m.rs.length rc, .int .u64 m.n, .int .u64 m.ve, .slice vA m.vs.length vc] 28)) ⟨w.heap.size, 0, none⟩ = some (.int .u64 m.kd) := hO0.cell 0
  go_enter Tryd.func30, Tryd.ntmps30
  go_wp2_with fail
  (with_reducible refine (hsh _).mono ?_)
  clear hsh
  rintro e w1 ⟨rfl, rfl⟩
  go_upto_region 2 with fail
  refine wp_world (fun wz => Blk wz w.heap.size 28 #[.int .u64 m.kd, .int .u64 m.id, .int .u64 m.al, .slice nA m.nm.length nc, .int .u8 m.pr, .int .u8 m.od, .int .u64 m.sg, .int .u64 m.so, .int .u64 m.eg, .int .u64 m.eo, .bool m.sm, .int .u64 m.cd, .slice rA m.rs.length rc, .int .u64 m.n, .int .u64 m.ve, .slice vA m.vs.length vc] ∧ Below w.heap.size w wz) ⟨hO0, hB0⟩ ?_
  clear hO0 hB0 a0
  rintro w1 ⟨hO1, hB1⟩
  have c0 : World.cell? w1 ⟨w.heap.size, 0, none⟩ = some (.int .u64 m.kd) := hO1.cell 0
  have c1 : World.cell? w1 ⟨w.heap.size, 1, none⟩ = some (.int .u64 m.id) := hO1.cell 1
  have c2 : World.cell? w1 ⟨w.heap.size, 2, none⟩ = some (.int .u64 m.al) := hO1.cell 2
  have c3 : World.cell? w1 ⟨w.heap.size, 3, none⟩ = some (.slice nA m.nm.length nc) := hO1.cell 3
  have c4 : World.cell? w1 ⟨w.heap.size, 4, none⟩ = some (.int .u8 m.pr) := hO1.cell 4
  have c5 : World.cell? w1 ⟨w.heap.size, 5, none⟩ = some (.int .u8 m.od) := hO1.cell 5
  have c6 : World.cell? w1 ⟨w.heap.size, 6, none⟩ = some (.int .u64 m.sg) := hO1.cell 6
  have c7 : World.cell? w1 ⟨w.heap.size, 7, none⟩ = some (.int .u64 m.so) := hO1.cell 7
  have c8 : World.cell? w1 ⟨w.heap.size, 8, none⟩ = some (.int .u64 m.eg) := hO1.cell 8
  have c9 : World.cell? w1 ⟨w.heap.size, 9, none⟩ = some (.int .u64 m.eo) := hO1.cell 9
  have c10 : World.cell? w1 ⟨w.heap.size, 10, none⟩ = some (.bool m.sm) := hO1.cell 10
  have c11 : World.cell? w1 ⟨w.heap.size, 11, none⟩ = some (.int .u64 m.cd) := hO1.cell 11
  have c12 : World.cell? w1 ⟨w.heap.size, 12, none⟩ = some (.slice rA m.rs.length rc) := hO1.cell 12
  have c13 : World.cell? w1 ⟨w.heap.size, 13, none⟩ = some (.int .u64 m.n) := hO1.cell 13
  have c14 : World.cell? w1 ⟨w.heap.size, 14, none⟩ = some (.int .u64 m.ve) := hO1.cell 14
  have c15 : World.cell? w1 ⟨w.heap.size, 15, none⟩ = some (.slice vA m.vs.length vc) := hO1.cell 15
  have hOd := hO1.drew
  have hBd : Below w.heap.size w w1.drew := below_drewN hB1 1
  have hr2 : (64 : Int) < (m.rs.length : Int) := by omega
  have HR64 := Lib.hid hr
  clear hr
  refine wp_region_held_drew (S := fun w' => w'.cell? ⟨w.heap.size, 0, none⟩ = some (.int .u64 m.kd) ∧ w'.cell? ⟨w.heap.size, 1, none⟩ = some (.int .u64 m.id) ∧ w'.cell? ⟨w.heap.size, 2, none⟩ = some (.int .u64 m.al) ∧ w'.cell? ⟨w.heap.size, 3, none⟩ = some (.slice nA m.nm.length nc) ∧ w'.cell? ⟨w.heap.size, 4, none⟩ = some (.int .u8 m.pr) ∧ w'.cell? ⟨w.heap.size, 5, none⟩ = some (.int .u8 m.od) ∧ w'.cell? ⟨w.heap.size, 6, none⟩ = some (.int .u64 m.sg) ∧ w'.cell? ⟨w.heap.size, 7, none⟩ = some (.int .u64 m.so) ∧ w'.cell? ⟨w.heap.size, 8, none⟩ = some (.int .u64 m.eg) ∧ w'.cell? ⟨w.heap.size, 9, none⟩ = some (.int .u64 m.eo) ∧ w'.cell? ⟨w.heap.size, 10, none⟩ = some (.bool m.sm) ∧ w'.cell? ⟨w.heap.size, 11, none⟩ = some (.int .u64 m.cd) ∧ w'.cell? ⟨w.heap.size, 12, none⟩ = some (.slice rA m.rs.length rc) ∧ w'.cell? ⟨w.heap.size, 13, none⟩ = some (.int .u64 m.n) ∧ w'.cell? ⟨w.heap.size, 14, none⟩ = some (.int .u64 m.ve) ∧ w'.cell? ⟨w.heap.size, 15, none⟩ = some (.slice vA m.vs.length vc)) (by kernel_rfl) (by first | exact ⟨c0, c1, c2, c3, c4, c5, c6, c7, c8, c9, c10, c11, c12, c13, c14, c15⟩ | exact ⟨a0, a1, a2, a3, a4, a5, a6, a7, a8, a9, a10, a11, a12, a13, a14, a15⟩ | exact ⟨b0, b1, b2, b3, b4, b5, b6, b7, b8, b9, b10, b11, b12, b13, b14, b15⟩) (fun _ => ?_)
  refine wpAnyH_take (i := 0) (oi := ({ dst := some 12, op := Op.move (Operand.tmp 3), type := 9, pos := _, after := #[], guard := none } : Oper)) (v := ?_) rfl (by kernel_rfl) (by kernel_rfl) (by kernel_rfl) (fun _ _ _ h => h) (Or.inl ⟨by rfl, ?_⟩) (by first | exact ⟨c0, c1, c2, c3, c4, c5, c6, c7, c8, c9, c10, c11, c12, c13, c14, c15⟩ | exact ⟨a0, a1, a2, a3, a4, a5, a6, a7, a8, a9, a10, a11, a12, a13, a14, a15⟩ | exact ⟨b0, b1, b2, b3, b4, b5, b6, b7, b8, b9, b10, b11, b12, b13, b14, b15⟩) ?_
  rotate_left
  · intro w hSw
    try dsimp only at hSw
    go_simp
    try with_reducible rfl
  try simp only [Act.put, List.setIfInBounds_toArray, List.set_cons_zero, List.set_cons_succ]
  refine wpAnyH_take (i := 1) (oi := ({ dst := some 13, op := Op.binOp BinOp.eql 9 (Operand.tmp 12) (Operand.const (Value.string { data := #[45] })) 9, type := 4, pos := _, after := #[{ on := 0, ground := Ground.data }], guard := none } : Oper)) (v := ?_) rfl (by kernel_rfl) (by kernel_rfl) (by kernel_rfl) (fun _ _ _ h => h) (Or.inl ⟨by rfl, ?_⟩) (by first | exact ⟨c0, c1, c2, c3, c4, c5, c6, c7, c8, c9, c10, c11, c12, c13, c14, c15⟩ | exact ⟨a0, a1, a2, a3, a4, a5, a6, a7, a8, a9, a10, a11, a12, a13, a14, a15⟩ | exact ⟨b0, b1, b2, b3, b4, b5, b6, b7, b8, b9, b10, b11, b12, b13, b14, b15⟩) ?_
  rotate_left
  · intro w hSw
    try dsimp only at hSw
    go_simp
    try with_reducible rfl
  try simp only [Act.put, List.setIfInBounds_toArray, List.set_cons_zero, List.set_cons_succ]
  refine wpAnyH_take (i := 2) (oi := ({ dst := some 14, op := Op.move (Operand.tmp 13), type := 4, pos := _, after := #[{ on := 1, ground := Ground.data }], guard := none } : Oper)) (v := ?_) rfl (by kernel_rfl) (by kernel_rfl) (by kernel_rfl) (fun _ _ _ h => h) (Or.inl ⟨by rfl, ?_⟩) (by first | exact ⟨c0, c1, c2, c3, c4, c5, c6, c7, c8, c9, c10, c11, c12, c13, c14, c15⟩ | exact ⟨a0, a1, a2, a3, a4, a5, a6, a7, a8, a9, a10, a11, a12, a13, a14, a15⟩ | exact ⟨b0, b1, b2, b3, b4, b5, b6, b7, b8, b9, b10, b11, b12, b13, b14, b15⟩) ?_
  rotate_left
  · intro w hSw
    try dsimp only at hSw
    go_simp
    try with_reducible rfl
  try simp only [Act.put, List.setIfInBounds_toArray, List.set_cons_zero, List.set_cons_succ]
  refine wpAnyH_take (i := 3) (oi := ({ dst := some 15, op := Op.load 28 (Operand.tmp 1), type := 28, pos := _, after := #[{ on := 2, ground := Ground.guard }], guard := some (2, false) } : Oper)) (v := ?_) rfl (by kernel_rfl) (by kernel_rfl) (by kernel_rfl) (fun _ _ _ h => h) (Or.inl ⟨by rfl, ?_⟩) (by first | exact ⟨c0, c1, c2, c3, c4, c5, c6, c7, c8, c9, c10, c11, c12, c13, c14, c15⟩ | exact ⟨a0, a1, a2, a3, a4, a5, a6, a7, a8, a9, a10, a11, a12, a13, a14, a15⟩ | exact ⟨b0, b1, b2, b3, b4, b5, b6, b7, b8, b9, b10, b11, b12, b13, b14, b15⟩) ?_
  rotate_left
  · intro w hSw
    try dsimp only at hSw
    go_simp
    try with_reducible rfl
  try simp only [Act.put, List.setIfInBounds_toArray, List.set_cons_zero, List.set_cons_succ]
  refine wpAnyH_take (i := 4) (oi := ({ dst := some 16, op := Op.load 28 (Operand.tmp 1), type := 28, pos := _, after := #[{ on := 2, ground := Ground.guard }], guard := some (2, false) } : Oper)) (v := ?_) rfl (by kernel_rfl) (by kernel_rfl) (by kernel_rfl) (fun _ _ _ h => h) (Or.inl ⟨by rfl, ?_⟩) (by first | exact ⟨c0, c1, c2, c3, c4, c5, c6, c7, c8, c9, c10, c11, c12, c13, c14, c15⟩ | exact ⟨a0, a1, a2, a3, a4, a5, a6, a7, a8, a9, a10, a11, a12, a13, a14, a15⟩ | exact ⟨b0, b1, b2, b3, b4, b5, b6, b7, b8, b9, b10, b11, b12, b13, b14, b15⟩) ?_
  rotate_left
  · intro w hSw
    try dsimp only at hSw
    go_simp
    try with_reducible rfl
  try simp only [Act.put, List.setIfInBounds_toArray, List.set_cons_zero, List.set_cons_succ]
  refine wpAnyH_ready (rs := [5]) (by kernel_rfl) (by simp) ?_
  refine AllReadyH.cons (o := ({ dst := some 17, op := Op.call { callee := Callee.value (Operand.func 49), args := #[Operand.tmp 16], argTypes := #[28] }, type := 28, pos := _, after := #[{ on := 4, ground := Ground.data }, { on := 2, ground := Ground.chain }, { on := 2, ground := Ground.guard }], guard := some (2, false) } : Oper)) rfl (fun K hK => ?_) AllReadyH.nil
  go_simp
  go_at_call 49
  (with_reducible refine (hon _ (hRS _ hBd)).mono ?_)
  rintro e w2 ⟨nv2, rv2, vv2, rfl, hM2, hb2⟩
  rw [← HX.out] at hM2 ⊢
  obtain ⟨nA2, nc2, rfl⟩ := hM2.nm.form
  obtain ⟨rA2, rc2, rfl⟩ := hM2.rs.form
  obtain ⟨vA2, vc2, rfl⟩ := hM2.vs.form
  have hO2 := hOd.same hb2
  have hB2 := hBd.trans (hb2.mono hBd.size)
  have a0 : World.cell? w2 ⟨w.heap.size, 0, none⟩ = some (.int .u64 m.kd) := hO2.cell 0
  have a1 : World.cell? w2 ⟨w.heap.size, 1, none⟩ = some (.int .u64 m.id) := hO2.cell 1
  have a2 : World.cell? w2 ⟨w.heap.size, 2, none⟩ = some (.int .u64 m.al) := hO2.cell 2
  have a3 : World.cell? w2 ⟨w.heap.size, 3, none⟩ = some (.slice nA m.nm.length nc) := hO2.cell 3
  have a4 : World.cell? w2 ⟨w.heap.size, 4, none⟩ = some (.int .u8 m.pr) := hO2.cell 4
  have a5 : World.cell? w2 ⟨w.heap.size, 5, none⟩ = some (.int .u8 m.od) := hO2.cell 5
  have a6 : World.cell? w2 ⟨w.heap.size, 6, none⟩ = some (.int .u64 m.sg) := hO2.cell 6
  have a7 : World.cell? w2 ⟨w.heap.size, 7, none⟩ = some (.int .u64 m.so) := hO2.cell 7
  have a8 : World.cell? w2 ⟨w.heap.size, 8, none⟩ = some (.int .u64 m.eg) := hO2.cell 8
  have a9 : World.cell? w2 ⟨w.heap.size, 9, none⟩ = some (.int .u64 m.eo) := hO2.cell 9
  have a10 : World.cell? w2 ⟨w.heap.size, 10, none⟩ = some (.bool m.sm) := hO2.cell 10
  have a11 : World.cell? w2 ⟨w.heap.size, 11, none⟩ = some (.int .u64 m.cd) := hO2.cell 11
  have a12 : World.cell? w2 ⟨w.heap.size, 12, none⟩ = some (.slice rA m.rs.length rc) := hO2.cell 12
  have a13 : World.cell? w2 ⟨w.heap.size, 13, none⟩ = some (.int .u64 m.n) := hO2.cell 13
  have a14 : World.cell? w2 ⟨w.heap.size, 14, none⟩ = some (.int .u64 m.ve) := hO2.cell 14
  have a15 : World.cell? w2 ⟨w.heap.size, 15, none⟩ = some (.slice vA m.vs.length vc) := hO2.cell 15
  have hsm := rsame_all m x (.slice nA m.nm.length nc) (.slice rA m.rs.length rc) (.slice vA m.vs.length vc) (.slice nA2 x.nm.length nc2) (.slice rA2 x.rs.length rc2) (.slice vA2 x.vs.length vc2) w2 (hRS _ hB2) hM2 h hxk true ⟨fun _ => HXE.out, fun _ => rfl⟩
  refine hK.out _ _ (by first | exact ⟨c0, c1, c2, c3, c4, c5, c6, c7, c8, c9, c10, c11, c12, c13, c14, c15⟩ | exact ⟨a0, a1, a2, a3, a4, a5, a6, a7, a8, a9, a10, a11, a12, a13, a14, a15⟩ | exact ⟨b0, b1, b2, b3, b4, b5, b6, b7, b8, b9, b10, b11, b12, b13, b14, b15⟩) (fun _ => ?_)
  clear hK K
  try simp only [Act.put, List.setIfInBounds_toArray, List.set_cons_zero, List.set_cons_succ]
  refine wpAnyH_ready (rs := [6]) (by kernel_rfl) (by simp) ?_
  refine AllReadyH.cons (o := ({ dst := some 18, op := Op.call { callee := Callee.value (Operand.func 14), args := #[Operand.tmp 15, Operand.tmp 17], argTypes := #[28, 28] }, type := 4, pos := _, after := #[{ on := 3, ground := Ground.data }, { on := 5, ground := Ground.data }, { on := 5, ground := Ground.chain }, { on := 2, ground := Ground.guard }], guard := some (2, false) } : Oper)) rfl (fun K hK => ?_) AllReadyH.nil
  go_simp
  go_at_call 14
  (with_reducible refine hsm.mono ?_)
  clear hsm
  rintro e w3 ⟨rfl, hb3⟩
  have hO3 := hO2.same hb3
  have hB3 := hB2.trans (hb3.mono hB2.size)
  have b0 : World.cell? w3 ⟨w.heap.size, 0, none⟩ = some (.int .u64 m.kd) := hO3.cell 0
  have b1 : World.cell? w3 ⟨w.heap.size, 1, none⟩ = some (.int .u64 m.id) := hO3.cell 1
  have b2 : World.cell? w3 ⟨w.heap.size, 2, none⟩ = some (.int .u64 m.al) := hO3.cell 2
  have b3 : World.cell? w3 ⟨w.heap.size, 3, none⟩ = some (.slice nA m.nm.length nc) := hO3.cell 3
  have b4 : World.cell? w3 ⟨w.heap.size, 4, none⟩ = some (.int .u8 m.pr) := hO3.cell 4
  have b5 : World.cell? w3 ⟨w.heap.size, 5, none⟩ = some (.int .u8 m.od) := hO3.cell 5
  have b6 : World.cell? w3 ⟨w.heap.size, 6, none⟩ = some (.int .u64 m.sg) := hO3.cell 6
  have b7 : World.cell? w3 ⟨w.heap.size, 7, none⟩ = some (.int .u64 m.so) := hO3.cell 7
  have b8 : World.cell? w3 ⟨w.heap.size, 8, none⟩ = some (.int .u64 m.eg) := hO3.cell 8
  have b9 : World.cell? w3 ⟨w.heap.size, 9, none⟩ = some (.int .u64 m.eo) := hO3.cell 9
  have b10 : World.cell? w3 ⟨w.heap.size, 10, none⟩ = some (.bool m.sm) := hO3.cell 10
  have b11 : World.cell? w3 ⟨w.heap.size, 11, none⟩ = some (.int .u64 m.cd) := hO3.cell 11
  have b12 : World.cell? w3 ⟨w.heap.size, 12, none⟩ = some (.slice rA m.rs.length rc) := hO3.cell 12
  have b13 : World.cell? w3 ⟨w.heap.size, 13, none⟩ = some (.int .u64 m.n) := hO3.cell 13
  have b14 : World.cell? w3 ⟨w.heap.size, 14, none⟩ = some (.int .u64 m.ve) := hO3.cell 14
  have b15 : World.cell? w3 ⟨w.heap.size, 15, none⟩ = some (.slice vA m.vs.length vc) := hO3.cell 15
  refine hK.out _ _ (by first | exact ⟨c0, c1, c2, c3, c4, c5, c6, c7, c8, c9, c10, c11, c12, c13, c14, c15⟩ | exact ⟨a0, a1, a2, a3, a4, a5, a6, a7, a8, a9, a10, a11, a12, a13, a14, a15⟩ | exact ⟨b0, b1, b2, b3, b4, b5, b6, b7, b8, b9, b10, b11, b12, b13, b14, b15⟩) (fun _ => ?_)
  clear hK K
  try simp only [Act.put, List.setIfInBounds_toArray, List.set_cons_zero, List.set_cons_succ]
  refine wpAnyH_take (i := 7) (oi := ({ dst := some 19, op := Op.unOp UnOp.not 4 (Operand.tmp 18), type := 4, pos := _, after := #[{ on := 6, ground := Ground.data }, { on := 2, ground := Ground.guard }], guard := some (2, false) } : Oper)) (v := ?_) rfl (by kernel_rfl) (by kernel_rfl) (by kernel_rfl) (fun _ _ _ h => h) (Or.inl ⟨by rfl, ?_⟩) (by first | exact ⟨c0, c1, c2, c3, c4, c5, c6, c7, c8, c9, c10, c11, c12, c13, c14, c15⟩ | exact ⟨a0, a1, a2, a3, a4, a5, a6, a7, a8, a9, a10, a11, a12, a13, a14, a15⟩ | exact ⟨b0, b1, b2, b3, b4, b5, b6, b7, b8, b9, b10, b11, b12, b13, b14, b15⟩) ?_
  rotate_left
  · intro w hSw
    try dsimp only at hSw
    go_simp
    try with_reducible rfl
  try simp only [Act.put, List.setIfInBounds_toArray, List.set_cons_zero, List.set_cons_succ]
  refine wpAnyH_take (i := 8) (oi := ({ dst := some 20, op := Op.pick (Operand.tmp 14) (Operand.const (Value.bool true)) (Operand.tmp 19), type := 4, pos := _, after := #[{ on := 2, ground := Ground.data }, { on := 7, ground := Ground.data }], guard := none } : Oper)) (v := ?_) rfl (by kernel_rfl) (by kernel_rfl) (by kernel_rfl) (fun _ _ _ h => h) (Or.inl ⟨by rfl, ?_⟩) (by first | exact ⟨c0, c1, c2, c3, c4, c5, c6, c7, c8, c9, c10, c11, c12, c13, c14, c15⟩ | exact ⟨a0, a1, a2, a3, a4, a5, a6, a7, a8, a9, a10, a11, a12, a13, a14, a15⟩ | exact ⟨b0, b1, b2, b3, b4, b5, b6, b7, b8, b9, b10, b11, b12, b13, b14, b15⟩) ?_
  rotate_left
  · intro w hSw
    try dsimp only at hSw
    go_simp
    try with_reducible rfl
  try simp only [Act.put, List.setIfInBounds_toArray, List.set_cons_zero, List.set_cons_succ]
  refine wpAnyH_take (i := 9) (oi := ({ dst := some 21, op := Op.move (Operand.tmp 20), type := 4, pos := _, after := #[{ on := 8, ground := Ground.data }, { on := 6, ground := Ground.chain }], guard := none } : Oper)) (v := ?_) rfl (by kernel_rfl) (by kernel_rfl) (by kernel_rfl) (fun _ _ _ h => h) (Or.inl ⟨by rfl, ?_⟩) (by first | exact ⟨c0, c1, c2, c3, c4, c5, c6, c7, c8, c9, c10, c11, c12, c13, c14, c15⟩ | exact ⟨a0, a1, a2, a3, a4, a5, a6, a7, a8, a9, a10, a11, a12, a13, a14, a15⟩ | exact ⟨b0, b1, b2, b3, b4, b5, b6, b7, b8, b9, b10, b11, b12, b13, b14, b15⟩) ?_
  rotate_left
  · intro w hSw
    try dsimp only at hSw
    go_simp
    try with_reducible rfl
  try simp only [Act.put, List.setIfInBounds_toArray, List.set_cons_zero, List.set_cons_succ]
  refine wpAnyH_take (i := 10) (oi := ({ dst := some 22, op := Op.fieldAddr 28 (Operand.tmp 1) 10, type := 0, pos := _, after := #[{ on := 9, ground := Ground.guard }], guard := some (9, false) } : Oper)) (v := ?_) rfl (by kernel_rfl) (by kernel_rfl) (by kernel_rfl) (fun _ _ _ h => h) (Or.inl ⟨by rfl, ?_⟩) (by first | exact ⟨c0, c1, c2, c3, c4, c5, c6, c7, c8, c9, c10, c11, c12, c13, c14, c15⟩ | exact ⟨a0, a1, a2, a3, a4, a5, a6, a7, a8, a9, a10, a11, a12, a13, a14, a15⟩ | exact ⟨b0, b1, b2, b3, b4, b5, b6, b7, b8, b9, b10, b11, b12, b13, b14, b15⟩) ?_
  rotate_left
  · intro w hSw
    try dsimp only at hSw
    go_simp
    try with_reducible rfl
  try simp only [Act.put, List.setIfInBounds_toArray, List.set_cons_zero, List.set_cons_succ]
  refine wpAnyH_take (i := 11) (oi := ({ dst := some 23, op := Op.load 23 (Operand.tmp 22), type := 23, pos := _, after := #[{ on := 10, ground := Ground.data }, { on := 9, ground := Ground.guard }], guard := some (9, false) } : Oper)) (v := ?_) rfl (by kernel_rfl) (by kernel_rfl) (by kernel_rfl) (fun _ _ _ h => h) (Or.inl ⟨by rfl, ?_⟩) (by first | exact ⟨c0, c1, c2, c3, c4, c5, c6, c7, c8, c9, c10, c11, c12, c13, c14, c15⟩ | exact ⟨a0, a1, a2, a3, a4, a5, a6, a7, a8, a9, a10, a11, a12, a13, a14, a15⟩ | exact ⟨b0, b1, b2, b3, b4, b5, b6, b7, b8, b9, b10, b11, b12, b13, b14, b15⟩) ?_
  rotate_left
  · intro w hSw
    try dsimp only at hSw
    go_simp
    try with_reducible rfl
  try simp only [Act.put, List.setIfInBounds_toArray, List.set_cons_zero, List.set_cons_succ]
  refine wpAnyH_take (i := 12) (oi := ({ dst := some 24, op := Op.call { callee := Callee.builtin Builtin.len, args := #[Operand.tmp 23], argTypes := #[23] }, type := 3, pos := _, after := #[{ on := 11, ground := Ground.data }, { on := 9, ground := Ground.guard }], guard := some (9, false) } : Oper)) (v := ?_) rfl (by kernel_rfl) (by kernel_rfl) (by kernel_rfl) (fun _ _ _ h => h) (Or.inl ⟨by rfl, ?_⟩) (by first | exact ⟨c0, c1, c2, c3, c4, c5, c6, c7, c8, c9, c10, c11, c12, c13, c14, c15⟩ | exact ⟨a0, a1, a2, a3, a4, a5, a6, a7, a8, a9, a10, a11, a12, a13, a14, a15⟩ | exact ⟨b0, b1, b2, b3, b4, b5, b6, b7, b8, b9, b10, b11, b12, b13, b14, b15⟩) ?_
  rotate_left
  · intro w hSw
    try dsimp only at hSw
    go_simp
    try with_reducible rfl
  try simp only [Act.put, List.setIfInBounds_toArray, List.set_cons_zero, List.set_cons_succ]
  refine wpAnyH_take (i := 13) (oi := ({ dst := some 25, op := Op.binOp BinOp.gtr 3 (Operand.tmp 24) (Operand.const (Value.int IntKind.i64 64)) 3, type := 4, pos := _, after := #[{ on := 12, ground := Ground.data }, { on := 9, ground := Ground.guard }], guard := some (9, false) } : Oper)) (v := ?_) rfl (by kernel_rfl) (by kernel_rfl) (by kernel_rfl) (fun _ _ _ h => h) (Or.inl ⟨by rfl, ?_⟩) (by first | exact ⟨c0, c1, c2, c3, c4, c5, c6, c7, c8, c9, c10, c11, c12, c13, c14, c15⟩ | exact ⟨a0, a1, a2, a3, a4, a5, a6, a7, a8, a9, a10, a11, a12, a13, a14, a15⟩ | exact ⟨b0, b1, b2, b3, b4, b5, b6, b7, b8, b9, b10, b11, b12, b13, b14, b15⟩) ?_
  rotate_left
  · intro w hSw
    try dsimp only at hSw
    go_simp
    try with_reducible rfl
  try simp only [Act.put, List.setIfInBounds_toArray, List.set_cons_zero, List.set_cons_succ]
  refine wpAnyH_take (i := 14) (oi := ({ dst := some 26, op := Op.pick (Operand.tmp 21) (Operand.const (Value.bool true)) (Operand.tmp 25), type := 4, pos := _, after := #[{ on := 9, ground := Ground.data }, { on := 13, ground := Ground.data }], guard := none } : Oper)) (v := ?_) rfl (by kernel_rfl) (by kernel_rfl) (by kernel_rfl) (fun _ _ _ h => h) (Or.inl ⟨by rfl, ?_⟩) (by first | exact ⟨c0, c1, c2, c3, c4, c5, c6, c7, c8, c9, c10, c11, c12, c13, c14, c15⟩ | exact ⟨a0, a1, a2, a3, a4, a5, a6, a7, a8, a9, a10, a11, a12, a13, a14, a15⟩ | exact ⟨b0, b1, b2, b3, b4, b5, b6, b7, b8, b9, b10, b11, b12, b13, b14, b15⟩) ?_
  rotate_left
  · intro w hSw
    try dsimp only at hSw
    go_simp
    try with_reducible rfl
  try simp only [Act.put, List.setIfInBounds_toArray, List.set_cons_zero, List.set_cons_succ]
  refine wpAnyH_done (by kernel_rfl) ?_ _
  go_wp2_with fail
  have hf : R = false := by
    cases R with
    | false => rfl
    | true => exact absurd (HR.out.1 rfl) (fun hr => HR64.out hr.2.2.1)
  subst hf
  go_ret
  exact ⟨rfl, hB3⟩

end Go.Proofs.YtjijmbpgfabgcaaDoor
