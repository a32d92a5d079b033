/-
  What Name makes of a name and a place. No condition.
-/
import Derived.Test.YtiaabbflchdcbaaSkey
import Derived.Test.YtiaabbflchdcbaaSbuf
import Derived.Test.YtiaabbflchdcbaaBytes
import Derived.Test.YtiaabbflchdcbaaOpen
import Derived.Deep.WholeRow
namespace Go.Proofs.Ytiaabbflchdcbaa
open Go.RowKit
set_option linter.unusedVariables false
set_option linter.unusedSimpArgs false

theorem wpList_store_new {P : Program} {w : World} {ops : Array Oper} {rest : List Oper} {o : Oper} {a : Act} {Q : Exit → Act → World → Prop} (hgd : o.guard = none) (ty : TypeId) (x y : Operand) (ho : o.op = .store ty x y) (t : TypeId) (old : Array Value)
    (cells : Array Value) (hx : a.eval x = .pointer (some ⟨w.heap.size, 0, none⟩)) (hy : a.eval y = .agg cells) (hi : (P.info? ty).map (·.size) = some cells.size) (hold : old.size = cells.size) (h1 : cells.all (·.oneCell') = true)
    (h : wpList P ops Q rest (a.put o.dst undef) (w.alloc (.cells cells t))) : wpList P ops Q (o :: rest) a (w.alloc (.cells old t)) :=
  wpList_store_row hgd ty x y ho w.heap.size cells hx hy t old (heap_alloc_new w _) hi hold h1 (by rw [World.setRow_alloc_new]; exact h)
/-- copy of bytes that are read, into a block. -/
theorem wpList_copy_rd {P : Program} {w : World} {ops : Array Oper} {rest : List Oper} {o : Oper} {a : Act} {Q : Exit → Act → World → Prop} (hgd : o.guard = none) (d s : Operand) (t : TypeId) (ho : o.op = .call { callee := .builtin .copy, args := #[d, s], argTypes := #[t, t] })
    (elem : TypeId) (hu : P.underlying t = some (.slice elem)) (hz : (P.info? elem).map (·.size) = some 1) (g off dLen dCap : Nat) (A : Option Addr) (m c : Nat) (l : List Int) (cur : List Value) (T : TypeId)
    (hd : a.eval d = .slice (some ⟨g, off, none⟩) dLen dCap) (hs : a.eval s = .slice A m c) (hr : Rd w .u8 (.slice A m c) l) (hg : Blk w g T cur.toArray) (h0 : 0 < l.length) (hl : l.length ≤ dLen) (hfit : off + l.length ≤ cur.length)
    (h : ∀ w', Blk w' g T (spl cur off (l.map (Value.int .u8))).toArray → w.grownBy w' (some g) → wpList P ops Q rest (a.put o.dst (goInt l.length)) w') : wpList P ops Q (o :: rest) a w := by
  obtain ⟨hm, hA, hc, hcm, hrv⟩ := hr.rdv
  subst hm
  obtain ⟨b, off', rfl, _, _⟩ := hr.at_ 0 h0
  have hmin : Nat.min l.length dLen = l.length := Nat.min_eq_left hl
  have h' := h
  rw [← hmin] at h'
  refine wpList_copy_w hgd d s t t ho elem 1 hu hz g off dLen dCap ⟨b, off', none⟩ l.length c cur T (l.map (Value.int .u8)) hd hs hg (by rw [hmin]; simp) (fun j v hj => ?_) (by simpa using hfit) (oneInts _ _) (by rw [hmin] at h' ⊢; exact h)
  have hj' : j < l.length := by have := (List.getElem?_eq_some_iff.1 hj).1; simpa using this
  obtain ⟨b2, off2, e, _, hcell⟩ := hr.at_ j hj'
  injection e with e
  injection e with e1 e2
  subst e1 e2
  rw [addr_add, hcell, ← hj]
  simp [List.getD, hj']
theorem infoU8 : (Try.prog.info? 5).map (·.size) = some 1 := by kernel_rfl
/-- Whether it is a name: the error. -/
def nameE (l : List Int) : Int := if l = [] then 2 else if 32 < l.length then 3 else if l.getD (l.length - 1) 0 = 0 then 4 else 0
def padT (l : List Int) : List Int := l ++ List.replicate (32 - l.length) 0
def keyR (l : List Int) (g n : Int) : Array Value := if nameE l = 0 then keyC (padT l) g n else keyC z32 0 0
theorem padT32 {l : List Int} (h : nameE l = 0) (hk : BytesOk l) : T32 (padT l) := by
  have hl : l.length ≤ 32 := by
    unfold nameE at h
    split at h
    · cases h
    · split at h
      · cases h
      · omega
  refine ⟨by simp [padT]; omega, fun x hx => ?_⟩
  rcases List.mem_append.1 hx with hx | hx
  · exact hk x hx
  · have := List.eq_of_mem_replicate hx; omega
theorem zk_eq : keyC z32 0 0 = #[.int .u8 0, .int .u8 0, .int .u8 0, .int .u8 0, .int .u8 0, .int .u8 0, .int .u8 0, .int .u8 0, .int .u8 0, .int .u8 0, .int .u8 0, .int .u8 0, .int .u8 0, .int .u8 0, .int .u8 0, .int .u8 0, .int .u8 0, .int .u8 0, .int .u8 0, .int .u8 0, .int .u8 0, .int .u8 0, .int .u8 0, .int .u8 0, .int .u8 0, .int .u8 0, .int .u8 0, .int .u8 0, .int .u8 0, .int .u8 0, .int .u8 0, .int .u8 0, .int .u64 0, .int .u64 0] := rfl
theorem k0_eq (g n : Int) : keyC z32 g n = #[.int .u8 0, .int .u8 0, .int .u8 0, .int .u8 0, .int .u8 0, .int .u8 0, .int .u8 0, .int .u8 0, .int .u8 0, .int .u8 0, .int .u8 0, .int .u8 0, .int .u8 0, .int .u8 0, .int .u8 0, .int .u8 0, .int .u8 0, .int .u8 0, .int .u8 0, .int .u8 0, .int .u8 0, .int .u8 0, .int .u8 0, .int .u8 0, .int .u8 0, .int .u8 0, .int .u8 0, .int .u8 0, .int .u8 0, .int .u8 0, .int .u8 0, .int .u8 0, .int .u64 g, .int .u64 n] := rfl
theorem spl_key (l : List Int) (g n : Int) (h : l.length ≤ 32) : (spl (keyC z32 g n).toList 0 (l.map (Value.int .u8))).toArray = keyC (padT l) g n := by
  unfold spl keyC padT z32
  simp only [List.take_zero, List.nil_append, Nat.zero_add, List.length_map, List.map_append, List.map_replicate]
  rw [List.drop_append_of_le_length (by rw [List.length_replicate]; exact h), List.drop_replicate, List.append_assoc]
set_option maxHeartbeats 4000000 in
set_option maxRecDepth 100000 in
theorem name_nil (v : Value) (l : List Int) (g n : Int) (w : World) (hv : Rd w .u8 v l) (hk : BytesOk l) (hll : l.length ≤ 1099511627776) (h : l = []) :
    Calls Try.prog 29 #[v, .agg #[.int .u64 g, .int .u64 n]] w fun e w' => e = .returned (.tuple #[.agg (keyC z32 0 0), .int .i64 2]) ∧ Below w.heap.size w w' := by
  obtain ⟨A, c, rfl⟩ := hv.form
  have hP0 := (Blk.new w 33 #[.int .u64 g, .int .u64 n]).alloc (.cells (keyC z32 0 0) 71)
  have hR0 : Blk ((w.alloc (.cells #[.int .u64 g, .int .u64 n] 33)).alloc (.cells (keyC z32 0 0) 71)) (w.heap.size + 1) 71 (keyC z32 0 0) := blk_new_at (by simp)
  have hB0 := ((Below.refl w.heap.size w).alloc (Nat.le_refl _) (.cells #[.int .u64 g, .int .u64 n] 33)).alloc (by simp) (.cells (keyC z32 0 0) 71)
  have hv0 := (hv.alloc (.cells #[.int .u64 g, .int .u64 n] 33)).alloc (.cells (keyC z32 0 0) 71)
  go_enter Try.func29, Try.ntmps29
  go_upto_region 1 with fail
  refine wp_world (fun wz => Blk wz w.heap.size 33 #[.int .u64 g, .int .u64 n] ∧ Blk wz (w.heap.size + 1) 71 (keyC z32 0 0) ∧ Rd wz .u8 (.slice A l.length c) l ∧ Below w.heap.size w wz) ⟨hP0, hR0, hv0, hB0⟩ ?_
  clear hP0 hR0 hv0 hB0 hv
  rintro wz ⟨hP, hR, hv, hB⟩
  rw [h]
  go_wp2_with (first | (refine wpList_store_row rfl _ _ _ rfl (w.heap.size + 1) (keyC z32 0 0) rfl rfl 71 _ hR (by rw [info71]; rfl) rfl (key_one _ _ _) ?_) | fail)
  refine bodyPost_ret (v := .tuple #[.agg (keyC z32 0 0), .int .i64 2]) (by exact results_row2 Try.results29 _ _ rfl (Blk.row hR (keyC z32 0 0)) Try.underlying71 rfl (by rw [info71]; rfl)) rfl ?_
  exact ⟨rfl, below_row hB (by omega) _⟩
set_option maxHeartbeats 4000000 in
set_option maxRecDepth 100000 in
theorem name_long (v : Value) (l : List Int) (g n : Int) (w : World) (hv : Rd w .u8 v l) (hk : BytesOk l) (hll : l.length ≤ 1099511627776) (h : l ≠ []) (h2 : 32 < l.length) :
    Calls Try.prog 29 #[v, .agg #[.int .u64 g, .int .u64 n]] w fun e w' => e = .returned (.tuple #[.agg (keyC z32 0 0), .int .i64 3]) ∧ Below w.heap.size w w' := by
  obtain ⟨A, c, rfl⟩ := hv.form
  have hP0 := (Blk.new w 33 #[.int .u64 g, .int .u64 n]).alloc (.cells (keyC z32 0 0) 71)
  have hR0 : Blk ((w.alloc (.cells #[.int .u64 g, .int .u64 n] 33)).alloc (.cells (keyC z32 0 0) 71)) (w.heap.size + 1) 71 (keyC z32 0 0) := blk_new_at (by simp)
  have hB0 := ((Below.refl w.heap.size w).alloc (Nat.le_refl _) (.cells #[.int .u64 g, .int .u64 n] 33)).alloc (by simp) (.cells (keyC z32 0 0) 71)
  have hv0 := (hv.alloc (.cells #[.int .u64 g, .int .u64 n] 33)).alloc (.cells (keyC z32 0 0) 71)
  have hd0 : ((l.length : Int) == 0) = false := by have := List.length_pos_iff.2 h; simp; omega
  have hd1 : decide (32 < (l.length : Int)) = true := decide_eq_true (by omega)
  go_enter Try.func29, Try.ntmps29
  go_upto_region 1 with fail
  refine wp_world (fun wz => Blk wz w.heap.size 33 #[.int .u64 g, .int .u64 n] ∧ Blk wz (w.heap.size + 1) 71 (keyC z32 0 0) ∧ Rd wz .u8 (.slice A l.length c) l ∧ Below w.heap.size w wz) ⟨hP0, hR0, hv0, hB0⟩ ?_
  clear hP0 hR0 hv0 hB0 hv
  rintro wz ⟨hP, hR, hv, hB⟩
  go_wp2_with (first | (refine wpList_store_row rfl _ _ _ rfl (w.heap.size + 1) (keyC z32 0 0) rfl rfl 71 _ hR (by rw [info71]; rfl) rfl (key_one _ _ _) ?_) | fail)
  refine bodyPost_ret (v := .tuple #[.agg (keyC z32 0 0), .int .i64 3]) (by exact results_row2 Try.results29 _ _ rfl (Blk.row hR (keyC z32 0 0)) Try.underlying71 rfl (by rw [info71]; rfl)) rfl ?_
  exact ⟨rfl, below_row hB (by omega) _⟩
set_option maxHeartbeats 4000000 in
set_option maxRecDepth 100000 in
theorem name_form (v : Value) (l : List Int) (g n : Int) (w : World) (hv : Rd w .u8 v l) (hk : BytesOk l) (hll : l.length ≤ 1099511627776) (h : l ≠ []) (h2 : l.length ≤ 32) (h3 : l.getD (l.length - 1) 0 = 0) :
    Calls Try.prog 29 #[v, .agg #[.int .u64 g, .int .u64 n]] w fun e w' => e = .returned (.tuple #[.agg (keyC z32 0 0), .int .i64 4]) ∧ Below w.heap.size w w' := by
  obtain ⟨p, hp⟩ : ∃ p, l.length = p + 1 := ⟨l.length - 1, by have := List.length_pos_iff.2 h; omega⟩
  have hlast : l.getD (l.length - 1) 0 = l.getD p 0 := by rw [hp]; rfl
  obtain ⟨x, hx⟩ : ∃ x, x = l.getD p 0 := ⟨_, rfl⟩
  rw [hlast, ← hx] at h3
  have hd0 : ((p : Int) + 1 == 0) = false := by simp; omega
  have hd1 : decide (32 < (p : Int) + 1) = false := decide_eq_false (by omega)
  obtain ⟨A, c, rfl⟩ := hv.form
  have hP0 := (Blk.new w 33 #[.int .u64 g, .int .u64 n]).alloc (.cells (keyC z32 0 0) 71)
  have hR0 : Blk ((w.alloc (.cells #[.int .u64 g, .int .u64 n] 33)).alloc (.cells (keyC z32 0 0) 71)) (w.heap.size + 1) 71 (keyC z32 0 0) := blk_new_at (by simp)
  have hB0 := ((Below.refl w.heap.size w).alloc (Nat.le_refl _) (.cells #[.int .u64 g, .int .u64 n] 33)).alloc (by simp) (.cells (keyC z32 0 0) 71)
  have hv0 := (hv.alloc (.cells #[.int .u64 g, .int .u64 n] 33)).alloc (.cells (keyC z32 0 0) 71)
  go_enter Try.func29, Try.ntmps29
  go_upto_region 1 with fail
  refine wp_world (fun wz => Blk wz w.heap.size 33 #[.int .u64 g, .int .u64 n] ∧ Blk wz (w.heap.size + 1) 71 (keyC z32 0 0) ∧ Rd wz .u8 (.slice A l.length c) l ∧ Below w.heap.size w wz) ⟨hP0, hR0, hv0, hB0⟩ ?_
  clear hP0 hR0 hv0 hB0 hv
  rintro wz ⟨hP, hR, hv, hB⟩
  obtain ⟨b, off, rfl, _, d0⟩ := hv.at_ p (by omega)
  rw [← hx] at d0
  have HX := Lib.hid hx
  clear hx hlast
  rw [h3] at d0
  go_wp2_with (first | (refine wpList_store_row rfl _ _ _ rfl (w.heap.size + 1) (keyC z32 0 0) rfl rfl 71 _ hR (by rw [info71]; rfl) rfl (key_one _ _ _) ?_) | fail)
  refine bodyPost_ret (v := .tuple #[.agg (keyC z32 0 0), .int .i64 4]) (by exact results_row2 Try.results29 _ _ rfl (Blk.row hR (keyC z32 0 0)) Try.underlying71 rfl (by rw [info71]; rfl)) rfl ?_
  exact ⟨rfl, below_row hB (by omega) _⟩
set_option maxHeartbeats 4000000 in
set_option maxRecDepth 100000 in
theorem name_ok (v : Value) (l : List Int) (g n : Int) (w : World) (hv : Rd w .u8 v l) (hk : BytesOk l) (hll : l.length ≤ 1099511627776) (h : l ≠ []) (h2 : l.length ≤ 32) (h3 : l.getD (l.length - 1) 0 ≠ 0) :
    Calls Try.prog 29 #[v, .agg #[.int .u64 g, .int .u64 n]] w fun e w' => e = .returned (.tuple #[.agg (keyC (padT l) g n), .int .i64 0]) ∧ Below w.heap.size w w' := by
  obtain ⟨p, hp⟩ : ∃ p, l.length = p + 1 := ⟨l.length - 1, by have := List.length_pos_iff.2 h; omega⟩
  have hlast : l.getD (l.length - 1) 0 = l.getD p 0 := by rw [hp]; rfl
  have hlast' := hlast
  obtain ⟨x, hx⟩ : ∃ x, x = l.getD p 0 := ⟨_, rfl⟩
  rw [hlast, ← hx] at h3
  have hd0 : ((p : Int) + 1 == 0) = false := by simp; omega
  have hd1 : decide (32 < (p : Int) + 1) = false := decide_eq_false (by omega)
  obtain ⟨A, c, rfl⟩ := hv.form
  have hP0 := (Blk.new w 33 #[.int .u64 g, .int .u64 n]).alloc (.cells (keyC z32 0 0) 71)
  have hR0 : Blk ((w.alloc (.cells #[.int .u64 g, .int .u64 n] 33)).alloc (.cells (keyC z32 0 0) 71)) (w.heap.size + 1) 71 (keyC z32 0 0) := blk_new_at (by simp)
  have hB0 := ((Below.refl w.heap.size w).alloc (Nat.le_refl _) (.cells #[.int .u64 g, .int .u64 n] 33)).alloc (by simp) (.cells (keyC z32 0 0) 71)
  have hv0 := (hv.alloc (.cells #[.int .u64 g, .int .u64 n] 33)).alloc (.cells (keyC z32 0 0) 71)
  go_enter Try.func29, Try.ntmps29
  go_upto_region 1 with fail
  refine wp_world (fun wz => Blk wz w.heap.size 33 #[.int .u64 g, .int .u64 n] ∧ Blk wz (w.heap.size + 1) 71 (keyC z32 0 0) ∧ Rd wz .u8 (.slice A l.length c) l ∧ Below w.heap.size w wz) ⟨hP0, hR0, hv0, hB0⟩ ?_
  clear hP0 hR0 hv0 hB0 hv
  rintro wz ⟨hP, hR, hv, hB⟩
  obtain ⟨b, off, rfl, _, d0⟩ := hv.at_ p (by omega)
  rw [← hx] at d0
  have HX := Lib.hid hx
  clear hx hlast
  have HLA := Lib.hid hlast'
  clear hlast'
  have hx0 : (x == 0) = false := by simpa using h3
  have hp0 : World.cell? wz ⟨w.heap.size, 0, none⟩ = some (.int .u64 g) := hP.cell 0
  have hp1 : World.cell? wz ⟨w.heap.size, 1, none⟩ = some (.int .u64 n) := hP.cell 1
  go_upto_region 7 with fail
  have hvk : Rd (wz.alloc (.cells (keyC z32 g n) 71)) .u8 (.slice (some ⟨b, off, none⟩) (p + 1) c) l := by rw [← hp]; exact hv.alloc _
  have hK1 : Blk (wz.alloc (.cells (keyC z32 g n) 71)) wz.heap.size 71 (keyC z32 g n).toList.toArray := Blk.new wz 71 (keyC z32 g n)
  have hR1 := hR.alloc (.cells (keyC z32 g n) 71)
  have hB1 := hB.alloc hB.size (.cells (keyC z32 g n) 71)
  have hs34 := key_size (g := g) (n := n) t32_zero
  have hfit : 0 + l.length ≤ (keyC z32 g n).toList.length := by rw [show (keyC z32 g n).toList.length = 34 from hs34]; omega
  have hrk : w.heap.size + 1 ≠ wz.heap.size := by have := hR.lt; omega
  have hpt := padT32 (l := l) (by unfold nameE; rw [if_neg h, if_neg (by omega), HLA.out, ← HX.out, if_neg h3]) hk
  have hkz := key_size (g := g) (n := n) hpt
  go_upto_region 8 with (first | (refine wpList_store_new rfl _ _ _ rfl 71 _ (keyC z32 g n) rfl rfl (by rw [info71]; rfl) rfl (key_one _ _ _) ?_) | fail)
  go_wp2_with (first | (refine wpList_copy_rd rfl _ _ _ rfl 5 Try.underlying30 infoU8 wz.heap.size 0 32 32 (some ⟨b, off, none⟩) (p + 1) c l (keyC z32 g n).toList 71 rfl rfl hvk hK1 (by omega) (by omega) hfit ?_; intro w9 hK9 hg9; rw [spl_key l g n (by omega)] at hK9; have hR9 := hR1.grown hg9 (by simpa using hrk); have hB9 := hB1.grown hg9 hB1.size (fun k hk => by simp only [Option.some.injEq] at hk; have := hB.size; omega)) | (refine wpList_load_row rfl _ _ rfl wz.heap.size rfl 71 (keyC (padT l) g n) (0, 0) _ hK9 Try.underlying71 rfl (by rw [info71, hkz]) ?_) | (refine wpList_store_row rfl _ _ _ rfl (w.heap.size + 1) (keyC (padT l) g n) rfl rfl 71 (keyC z32 0 0) hR9 (by rw [info71, hkz]) (by rw [hkz, key_size t32_zero]) (key_one _ _ _) ?_) | fail)
  refine bodyPost_ret (v := .tuple #[.agg (keyC (padT l) g n), .int .i64 0]) (by exact results_row2 Try.results29 _ _ rfl (Blk.row hR9 (keyC (padT l) g n)) Try.underlying71 rfl (by rw [info71, hkz])) rfl ?_
  exact ⟨rfl, below_row hB9 (by omega) _⟩
theorem name_any (v : Value) (l : List Int) (g n : Int) (w : World) (hv : Rd w .u8 v l) (hk : BytesOk l) (hll : l.length ≤ 1099511627776) :
    Calls Try.prog 29 #[v, .agg #[.int .u64 g, .int .u64 n]] w fun e w' => e = .returned (.tuple #[.agg (keyR l g n), .int .i64 (nameE l)]) ∧ Below w.heap.size w w' := by
  by_cases h : l = []
  · have e : nameE l = 2 := by unfold nameE; rw [if_pos h]
    unfold keyR; rw [e]; exact name_nil v l g n w hv hk hll h
  · by_cases h2 : 32 < l.length
    · have e : nameE l = 3 := by unfold nameE; rw [if_neg h, if_pos h2]
      unfold keyR; rw [e]; exact name_long v l g n w hv hk hll h h2
    · by_cases h3 : l.getD (l.length - 1) 0 = 0
      · have e : nameE l = 4 := by unfold nameE; rw [if_neg h, if_neg h2, if_pos h3]
        unfold keyR; rw [e]; exact name_form v l g n w hv hk hll h (by omega) h3
      · have e : nameE l = 0 := by unfold nameE; rw [if_neg h, if_neg h2, if_neg h3]
        unfold keyR; rw [e]; exact name_ok v l g n w hv hk hll h (by omega) h3

end Go.Proofs.Ytiaabbflchdcbaa
