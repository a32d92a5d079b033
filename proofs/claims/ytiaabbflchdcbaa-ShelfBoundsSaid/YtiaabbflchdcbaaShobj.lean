/-
  object, awake. No condition.
-/
import Derived.Test.YtiaabbflchdcbaaShnew
import Derived.Deep.OwnRows
namespace Go.Proofs.Ytiaabbflchdcbaa
open Go.RowKit
set_option linter.unusedVariables false
set_option linter.unusedSimpArgs false

theorem made_list (z : Value) (n : Nat) : (madeCells #[z] n).toList = List.replicate n z := by
  apply List.ext_getElem
  · simp [size_madeCells]
  · intro i h1 h2
    simp at h2
    simp [madeCells, Nat.mod_one]
set_option maxRecDepth 100000 in
theorem obj_any (g n : Int) (m : Nat) (w : World) (hm : m ≤ 1000000) :
    Calls Try.prog 16 #[.int .u64 g, .int .u64 n, .int .i64 m] w fun e w' => ∃ b, e = .returned (.agg #[.int .u64 g, .int .u64 n, .int .u8 0, .bool false, .slice (some ⟨b, 0, none⟩) m m]) ∧ w'.ownsRow w.heap.size 5 1 (.slice (some ⟨b, 0, none⟩) m m) m ((List.replicate m 0).map (Value.int .u8)) ∧ Below w.heap.size w w' := by
  obtain ⟨i0, hi, hz0, hz1, hz2⟩ := info_parts infoB
  have hR0 := Blk.new w 35 #[.int .u64 0, .int .u64 0, .int .u8 0, .bool false, .slice none 0 0]
  have hb0 : Below w.heap.size w (w.alloc (.cells #[.int .u64 0, .int .u64 0, .int .u8 0, .bool false, .slice none 0 0] 35)) := (Below.refl _ _).alloc (Nat.le_refl _) _
  go_enter Try.func16, Try.ntmps16
  go_upto_region 1 with fail
  refine wp_world (fun wz => Blk wz w.heap.size 35 #[.int .u64 0, .int .u64 0, .int .u8 0, .bool false, .slice none 0 0] ∧ Below w.heap.size w wz) ⟨hR0, hb0⟩ ?_
  clear hR0 hb0
  rintro w1 ⟨hR, hb⟩
  have hba : Below w1.heap.size w1 (w1.alloc (.cells (madeCells #[.int .u8 0] m) 5)) := (Below.refl _ _).alloc (Nat.le_refl _) _
  have hR1 := hR.same hba
  have hown : (w1.alloc (.cells (madeCells #[.int .u8 0] m) 5)).ownsRow w.heap.size 5 1 (.slice (some ⟨w1.heap.size, 0, none⟩) m m) m ((List.replicate m 0).map (Value.int .u8)) := by
    have h := World.ownsRow_lit (base := w.heap.size) (size := 1) (e := 5) w1 (madeCells #[.int .u8 0] m) m hb.size (by unfold maxLen; omega) (by rw [size_madeCells]; omega)
    rw [made_list] at h
    simpa using h
  have hS : ∀ W : World, (Instr.makeSlice 30 (.int .i64 m) (.int .i64 m)).run Try.prog W = .ok (.slice (some ⟨W.heap.size, 0, none⟩) m m) (W.alloc (.cells (madeCells #[.int .u8 0] m) 5)) := fun W => run_make_row 30 5 i0 (.int .u8 0) Try.underlying30 hi hz0 hz1 rfl .i64 .i64 m (by rw [hz2]; omega) (by omega) W
  go_wp2_with (first | (refine wpList_store_row rfl _ _ _ rfl w.heap.size #[.int .u64 g, .int .u64 n, .int .u8 0, .bool false, .slice (some ⟨w1.heap.size, 0, none⟩) m m] rfl rfl 35 #[.int .u64 0, .int .u64 0, .int .u8 0, .bool false, .slice none 0 0] hR1 (by rw [infoOB]; rfl) rfl (o5_one _ _ _ _ _ _ _) ?_) | fail)
  refine bodyPost_ret (by exact results_cell_row Try.results16 _ _ _ _ _ _ _ rfl (Blk.row hR1 #[.int .u64 g, .int .u64 n, .int .u8 0, .bool false, .slice (some ⟨w1.heap.size, 0, none⟩) m m]) Try.underlying35 rfl (by rw [infoOB]; rfl)) rfl ?_
  exact ⟨_, rfl, own_grown hown (row_grown _ _ _) (.inr (own_blk_ne hown hR1 (by decide))), below_row (hb.trans (hba.mono hb.size)) (Nat.le_refl _) _⟩
theorem put_rep (B sb lb zb tb : Nat) (v : Value) (room g n p : Int) (gr : Bool) (dA : Option Addr) (m dc : Nat) (x : Int) (l : List Int) (s : PS) (w : World) (hH : HS w B sb lb zb tb room s) (hok : s.Ok room) (hroom : room ≤ 1048576) (hv : Rd w .u8 v l) (hk : BytesOk l) (hll : l.length ≤ 1000000) (hdT : RdT w (.slice dA m dc) (List.replicate m x)) (hx : 0 ≤ x ∧ x ≤ 255) (hdl : m ≤ 1000000) (hg : U64 g) (hn : U64 n) (hp : 0 ≤ p ∧ p ≤ 255) :
    Calls Try.prog 12 #[.pointer (some ⟨sb, 0, none⟩), v, .agg #[.int .u64 g, .int .u64 n, .int .u8 p, .bool gr, (.slice dA m dc)]] w fun e w' => e = .returned (.int .i64 (pput room s l g n p (List.replicate m x)).1) ∧ HS w' B sb lb zb tb room (pput room s l g n p (List.replicate m x)).2 ∧ KX lb zb tb w w' ∧ Below B w w' := by
  have hl : (List.replicate m x).length = m := by simp
  have h := put_any B sb lb zb tb v room g n p gr dA dc l (List.replicate m x) s w hH hok hroom hv hk hll (by rw [hl]; exact hdT) (fun y hy => by rw [List.eq_of_mem_replicate hy]; exact hx) (by rw [hl]; exact hdl) hg hn hp
  rw [hl] at h
  exact h
/-- Bytes in a block of bytes (whatever of it is frozen). -/
def RdF (w : World) (v : Value) (l : List Int) : Prop := Rd w .u8 v l ∧ ∀ a n c, v = .slice (some a) n c → ∃ cs fr, w.heap[a.block]? = some (.cells cs 5 fr)
section
variable {w w' : World} {v : Value} {l : List Int} {B sb lb zb tb : Nat} {room : Int} {s : PS}
theorem RdT.rdf (h : RdT w v l) : RdF w v l := ⟨h.1, fun a n c e => by
  obtain ⟨_, cs, hb, _⟩ := h.2 a n c e
  exact ⟨cs, (0, 0), hb⟩⟩
theorem RdF.keep (h : RdF w v l) (hs : w.heap.size ≤ w'.heap.size) (hk : ∀ (b : Nat) (cs : Array Value) (fr : Nat × Nat), w.heap[b]? = some (Obj.cells cs 5 fr) → w'.heap[b]? = some (Obj.cells cs 5 fr)) : RdF w' v l := by
  obtain ⟨⟨A, cap, rfl, h1, h2, h3, h4⟩, h5⟩ := h
  refine ⟨⟨A, cap, rfl, h1, h2, h3, fun k' hk' => ?_⟩, fun a n c e => ?_⟩
  · obtain ⟨b, off, rfl, hl, hc⟩ := h4 k' hk'
    refine ⟨b, off, rfl, Nat.lt_of_lt_of_le hl hs, fun j hj => ?_⟩
    obtain ⟨cs, fr, hb⟩ := h5 _ _ _ rfl
    rw [← hc j hj]
    simp only at hb
    simp only [World.cell?, hk _ _ _ hb, hb]
  · obtain ⟨cs, fr, hb⟩ := h5 a n c e
    exact ⟨cs, fr, hk _ _ _ hb⟩
theorem RdF.below (h : RdF w v l) (hb : Below w.heap.size w w') : RdF w' v l := h.keep hb.size (fun b cs fr h1 => (hb.block b (Array.getElem?_eq_some_iff.1 h1).1).trans h1)
theorem RdF.kx (h : RdF w v l) (hS : HS w B sb lb zb tb room s) (hx : KX lb zb tb w w') : RdF w' v l := by
  obtain ⟨lv, E, _, hS⟩ := hS
  have nk : ∀ {k : TypeId} {b m : Nat} {L : List (Value × Value)} {cs : Array Value} {fr : Nat × Nat}, KM Try.prog k w b L → w.heap[m]? = some (.cells cs 5 fr) → m ≠ b := fun hk h1 e => by
    subst e
    obtain ⟨es, c, hb⟩ := hk.blk
    rw [hb] at h1
    cases h1
  exact h.keep hx.sz (fun b cs fr h1 => hx.2.2.2.2 b _ h1 (nk hS.kl h1) (nk hS.kz h1) (nk hS.kt h1) (fun cs' t' e => by
    injection e with e1 e2 e3
    subst e2
    exact ⟨by decide, by decide⟩))
end
theorem lit_rdf (x : Int) (w : World) : RdF (w.alloc (.cells #[.int .u8 x] 5 (1, 2))) (.slice (some ⟨w.heap.size, 0, none⟩) 1 1) [x] := by
  have hb : (w.alloc (.cells #[.int .u8 x] 5 (1, 2))).heap[w.heap.size]? = some (.cells #[.int .u8 x] 5 (1, 2)) := heap_alloc_new w _
  refine ⟨⟨_, 1, rfl, by simp, by decide, fun e => (by cases e), fun i hi => ⟨w.heap.size, 0, rfl, by simp, fun j hj => ?_⟩⟩, fun a n c e => ?_⟩
  · have hi0 : i = 0 := by simp at hi; omega
    have hj0 : j = 0 := by omega
    subst hi0 hj0
    simp [List.getD, World.cell?_alloc_mark]
  · simp only [Value.slice.injEq, Option.some.injEq] at e
    obtain ⟨rfl, _⟩ := e
    exact ⟨_, _, hb⟩

end Go.Proofs.Ytiaabbflchdcbaa
