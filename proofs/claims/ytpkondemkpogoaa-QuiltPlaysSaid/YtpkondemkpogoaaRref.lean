/-
  The reference quilt: New, Ready, Done, Held.
-/
import Derived.Test.YtpkondemkpogoaaRpl
namespace Go.Proofs.Ytpkondemkpogoaa
open Go.RowKit
set_option linter.unusedVariables false
set_option linter.unusedSimpArgs false

open Go.Maps in
theorem RMap.look_ok {w : World} {b : Nat} {es : List (Int × Int)} (h : RMap w b es) {n : Int} (hn : 0 ≤ n ∧ n ≤ 18446744073709551615) : (Instr.lookup 57 (.map (some b)) (.int .u64 n) true).run Try.prog w = .ok (.tuple #[.int .u8 ((lkp es n).getD 0), .bool (lkp es n).isSome]) w := by
  obtain ⟨v, ps, hrun, hv⟩ := h.1.look_ok lawU Try.underlying57 (zero5 w) (plainElem_int Try.underlying5 (by decide)) (keyOf_int_mk Try.underlying27 (wf_u64' hn))
  obtain ⟨c, rfl, hc, _⟩ := plainElem_int_inv Try.underlying5 hv
  have hat : (mapOf es).atKey (kint n) (.lit (.int .u8 0)) = .lit (.int .u8 c) := congrArg Prod.fst hc
  rw [map_at h.2] at hat
  injection hat with hat
  injection hat with _ hat
  rw [show (Lit.int .u64 n) = kint n from rfl, map_has h.2, ← hat] at hrun
  exact hrun
def RX (w : World) (g mb : Nat) (es : List (Int × Int)) (q : Q) : Prop := Blk w g 59 #[.map (some mb), .int .u64 q.rd, .int .u64 q.hi, .int .u64 q.la, .bool q.kn] ∧ RMap w mb es
theorem RX.below {w w' : World} {g mb : Nat} {es : List (Int × Int)} {q : Q} (h : RX w g mb es q) (hb : Below w.heap.size w w') : RX w' g mb es q := ⟨h.1.same hb, h.2.below hb⟩
theorem RX.keep {w w' : World} {g mb : Nat} {es : List (Int × Int)} {q : Q} (h : RX w g mb es q) (k : KeepT w w') (m : KeepM w w') : RX w' g mb es q := ⟨k _ _ _ h.1 (by decide) (by decide), h.2.keep m⟩
set_option maxHeartbeats 8000000 in
set_option maxRecDepth 100000 in
theorem rnew_law (w : World) : Calls Try.prog 22 #[] w fun e w' => e = .returned (.pointer (some ⟨w.heap.size + 1, 0, none⟩)) ∧ RX w' (w.heap.size + 1) w.heap.size [] Q.new ∧ Below w.heap.size w w' := by
  have hmm0 := @run_makeMap Try.prog
  go_enter Try.func22, Try.ntmps22
  go_wp2_with fail
  go_ret
  have hm := rmap_made w
  have hb : Below w.heap.size w (w.alloc (.map #[] 0)) := (Below.refl _ _).alloc (Nat.le_refl _) _
  have hb2 : Below (w.alloc (.map #[] 0)).heap.size (w.alloc (.map #[] 0)) ((w.alloc (.map #[] 0)).alloc (.cells #[.map (some w.heap.size), .int .u64 0, .int .u64 0, .int .u64 0, .bool false] 59)) := (Below.refl _ _).alloc (Nat.le_refl _) _
  have hB := Blk.new (w.alloc (.map #[] 0)) 59 #[.map (some w.heap.size), .int .u64 0, .int .u64 0, .int .u64 0, .bool false]
  rw [World.size_alloc] at hB
  exact ⟨rfl, ⟨hB, hm.below hb2⟩, hb.trans (hb2.mono hb.size)⟩
theorem keys_len (es : List (Int × Int)) : (keys es).length = es.length := by simp [keys]
set_option maxHeartbeats 8000000 in
set_option maxRecDepth 100000 in
theorem rready_law (g mb : Nat) (es : List (Int × Int)) (q : Q) (w : World) (hX : RX w g mb es q) (hR : XR es q) (hI : QI q) (hsm : es.length ≤ 1000000) :
    Calls Try.prog 26 #[.pointer (some ⟨g, 0, none⟩)] w fun e w' => e = .returned (.int .i64 (rdy q.rd q.L)) ∧ Below w.heap.size w w' := by
  have hrh := rdy_hld q.rd q.L
  have HLN := Lib.hid (hR.len hI)
  have hlo := hI.k.lo
  have hrd := hI.rd
  have hlen := hX.2.len 3
  have c0 : World.cell? w ⟨g, 0, none⟩ = some (.map (some mb)) := hX.1.cell 0
  have c1 : World.cell? w ⟨g, 1, none⟩ = some (.int .u64 q.rd) := hX.1.cell 1
  have c2 : World.cell? w ⟨g, 2, none⟩ = some (.int .u64 q.hi) := hX.1.cell 2
  have c3 : World.cell? w ⟨g, 3, none⟩ = some (.int .u64 q.la) := hX.1.cell 3
  have c4 : World.cell? w ⟨g, 4, none⟩ = some (.bool q.kn) := hX.1.cell 4
  go_enter Try.func26, Try.ntmps26
  go_wp2_with fail
  clear hlen
  go_loopw [3, 13] (fun s3 s13 wr => ∃ j : Nat, s3 = .int .i64 j ∧ s13 = .int .i64 j ∧ j ≤ es.length ∧ j ≤ rdy q.rd q.L ∧ RX wr g mb es q ∧ Below w.heap.size w wr) (fun _ s13 _ => es.length - (intOf s13).toNat)
  case atStart => exact ⟨0, rfl, rfl, Nat.zero_le _, Nat.zero_le _, hX, Below.refl _ _⟩
  case round =>
    clear c0 c1 c2 c3 c4 hX
    obtain ⟨j, rfl, rfl, hj, hjr, hX, hB⟩ := hrel
    by_cases hjl : j < es.length
    · have hjI : (j : Int) < (es.length : Int) := by omega
      have hw1 : IntKind.u64.wrap (j : Int) = j := Go.IntWalk.u64_in _ (by omega)
      have hw2 : IntKind.u64.wrap (q.rd + (j : Int)) = q.rd + j := Go.IntWalk.u64_in _ (by simp only [QM] at hrd; omega)
      have hlk : (Instr.lookup 57 (.map (some mb)) (.int .u64 (q.rd + (j : Int))) true).run Try.prog wr.drew = .ok (.tuple #[.int .u8 ((lkp es (q.rd + (j : Int))).getD 0), .bool (lkp es (q.rd + (j : Int))).isSome]) wr.drew := RMap.look_ok (hX.2.below (below_drewN (Below.refl _ _) 1)) (by simp only [QM] at hrd; omega)
      have hB1 : Below w.heap.size w wr.drew := hB.trans ((below_drewN (Below.refl _ wr) 1).mono hB.size)
      have hX1 : RX wr.drew g mb es q := hX.below (below_drewN (Below.refl _ _) 1)
      have hhd := hR.held (n := q.rd + j) (by omega)
      have y0 : World.cell? wr ⟨g, 0, none⟩ = some (.map (some mb)) := hX.1.cell 0
      have y1 : World.cell? wr ⟨g, 1, none⟩ = some (.int .u64 q.rd) := hX.1.cell 1
      have y2 : World.cell? wr ⟨g, 2, none⟩ = some (.int .u64 q.hi) := hX.1.cell 2
      have y3 : World.cell? wr ⟨g, 3, none⟩ = some (.int .u64 q.la) := hX.1.cell 3
      have y4 : World.cell? wr ⟨g, 4, none⟩ = some (.bool q.kn) := hX.1.cell 4
      cases hs : (lkp es (q.rd + (j : Int))).isSome with
      | true =>
        rw [hs] at hlk hhd
        have hlt : j < rdy q.rd q.L := by
          rcases Nat.lt_or_ge j (rdy q.rd q.L) with h | h
          · exact h
          · obtain rfl : j = rdy q.rd q.L := by omega
            rw [rdy_out hI.k.ch] at hhd
            simp at hhd
        have HX1 := Lib.hid hX1
        clear hX1 hX hs hhd
        go_wp2_with fail
        go_region_law (fail)
        all_goals go_wp2_with fail
        all_goals go_roundw
        all_goals first
          | exact ⟨j + 1, by go_num, by go_num, by omega, by omega, HX1.out, hB1⟩
          | (simp [intOf]; omega)
      | false =>
        rw [hs] at hlk hhd
        have hge : j = rdy q.rd q.L := by
          rcases Nat.lt_or_ge j (rdy q.rd q.L) with h | h
          · have := rdy_in hI.k.ch (q.rd + j) (by omega) (by omega)
            rw [← hhd] at this
            simp at this
          · omega
        have HGE := Lib.hid hge
        clear hX1 hX hs hhd hge
        go_wp2_with fail
        go_region_law (fail)
        all_goals go_wp2_with fail
        all_goals go_ret
        all_goals exact ⟨by rw [← HGE.out]; rfl, hB1⟩
    · have hjI : ¬ (j : Int) < (es.length : Int) := by omega
      have HGE := Lib.hid (show j = rdy q.rd q.L by have := HLN.out; omega)
      clear hX
      go_wp2_with fail
      go_ret
      exact ⟨by rw [← HGE.out]; rfl, hB⟩

end Go.Proofs.Ytpkondemkpogoaa
