/-
  The document's examples. No condition.
-/
import Derived.Test.YtjijmbpgfabgcaaDoorZWreadd
import Derived.Test.YtjijmbpgfabgcaaDoorZWbytey
namespace Go.Proofs.YtjijmbpgfabgcaaDoor
open Go.RowKit
set_option linter.unusedVariables false
set_option linter.unusedSimpArgs false

theorem rdt_of_mid {w : World} {base : Nat} {v : Value} {l : List Int} (h : OwnM w base 5 1 v l.length (l.map (Value.int .u8))) : RdT w v l := by
  obtain ⟨hx, h2⟩ := h
  rcases h2 with ⟨rfl, h0⟩ | ⟨g, off, cap, cur, rfl, hb, hg, hn, hc, hs, ht⟩
  · obtain rfl : l = [] := List.eq_nil_of_length_eq_zero h0
    exact RdT.nil _
  · refine ⟨⟨some ⟨g, off, none⟩, cap, rfl, hn, hc, (fun e => by cases e), fun i hi => ⟨g, off, rfl, hg.lt, fun j hj => ?_⟩⟩, fun a n c e => ?_⟩
    · obtain rfl : j = 0 := by omega
      rw [hg.cell]
      have hi2 : i < (l.map (Value.int .u8)).length := by simpa using hi
      have h3 : (l.map (Value.int .u8))[i]? = some (.int .u8 (l.getD i 0)) := by simp [List.getD, hi]
      rw [← ht] at h3
      rw [List.getElem?_take_of_lt (by omega), List.getElem?_drop] at h3
      simpa using h3
    · simp only [Value.slice.injEq, Option.some.injEq] at e
      obtain ⟨rfl, rfl, rfl⟩ := e
      exact ⟨rfl, cur, hg, by simpa using hs⟩
def mU : M := { M.nil 10 with id := 5 }
theorem mU_rt : rt mU = true := by decide
theorem mU_ok : mU.Ok := ⟨⟨by decide, by decide⟩, ⟨by decide, by decide⟩, ⟨by decide, by decide⟩, ⟨by decide, by decide⟩, ⟨by decide, by decide⟩, ⟨by decide, by decide⟩, ⟨by decide, by decide⟩, ⟨by decide, by decide⟩, ⟨by decide, by decide⟩, ⟨by decide, by decide⟩, ⟨by decide, by decide⟩, ⟨by decide, by decide⟩, fun _ h => (by cases h), fun _ h => (by cases h), fun _ h => (by cases h)⟩
theorem mU_bts : bts mU = [10, 0, 1, 5] := by decide
theorem rU : vtake [10, 0, 2, 5, 5] = some (10, [0, 2, 5, 5]) := by decide
theorem wU : parse (shP (prt 10).1) (M.nil 10) [5, 5] = some (mU, [5]) := by kernel_rfl
set_option maxHeartbeats 4000000 in
set_option maxRecDepth 100000 in
theorem awake_any (w : World) (hG : Glob w) : Calls Tryd.prog 9 #[] w fun e w' => e = .returned (.bool true) ∧ Below w.heap.size w w' := by
  have hby : Calls Tryd.prog 11 #[.agg #[.int .u64 10, .int .u64 5, .int .u64 0, .slice none 0 0, .int .u8 0, .int .u8 0, .int .u64 0, .int .u64 0, .int .u64 0, .int .u64 0, .bool false, .int .u64 0, .slice none 0 0, .int .u64 0, .int .u64 0, .slice none 0 0]] w fun e w' => ∃ v, e = .returned (.tuple #[v, .int .i64 0]) ∧ OwnM w' w.heap.size 5 1 v (bts mU).length ((bts mU).map (Value.int .u8)) ∧ Below w.heap.size w w' :=
    bytes_yes mU (.slice none 0 0) (.slice none 0 0) (.slice none 0 0) w hG ⟨Rd.nil _ _, Rd.nil _ _, Rd.nil _ _⟩ mU_ok ⟨by decide, by decide, by decide⟩ ((rt_iff mU mU_ok).1 mU_rt)
  rw [mU_bts] at hby
  go_enter Tryd.func9, Tryd.ntmps9
  go_wp2_with fail
  (with_reducible refine hby.mono ?_)
  clear hby
  rintro e w1 ⟨v, rfl, ho1, hb1⟩
  have hb2 : Below w1.heap.size w1 (w1.alloc (.cells #[.int .u8 10, .int .u8 0, .int .u8 2, .int .u8 5, .int .u8 5] 5)) := (Below.refl _ _).alloc (Nat.le_refl _) _
  have hl5 : RdT (w1.alloc (.cells #[.int .u8 10, .int .u8 0, .int .u8 2, .int .u8 5, .int .u8 5] 5)) (.slice (some ⟨w1.heap.size, 0, none⟩) 5 5) [10, 0, 2, 5, 5] := rdt_of_own (base := 0) (World.ownsRow_lit (size := 1) (e := 5) w1 #[.int .u8 10, .int .u8 0, .int .u8 2, .int .u8 5, .int .u8 5] 5 (Nat.zero_le _) (by decide) rfl)
  have hwn : wholeR 10 ([5, 5].take (0 * 256 + 2 : Int).toNat) = none := by show (match parse (shP (prt 10).1) (M.nil 10) [5, 5] with | some (y, []) => if rt y = true then some y else none | _ => none) = none; rw [wU]
  have hrd := read_form (.slice (some ⟨w1.heap.size, 0, none⟩) 5 5) [10, 0, 2, 5, 5] [5, 5] 10 0 2 _ ((hG.same hb1).same hb2) hl5 (by intro x hx; simp at hx; omega) (by simp) rU (by decide) (by decide) (by decide) (by decide) hwn
  go_wp2_with fail
  (with_reducible refine hrd.mono ?_)
  clear hrd
  rintro e w3 ⟨⟨nv, rv, vv, bv, rfl, k1, k2, k3, k4⟩, hb3⟩
  obtain ⟨nA, nc, rfl⟩ := k1.form
  obtain ⟨rA, rc, rfl⟩ := k2.form
  obtain ⟨vA, vc, rfl⟩ := k3.form
  have ho3 := (ho1.below hb2).below hb3
  have hb13 := hb1.trans ((hb2.trans (hb3.mono hb2.size)).mono hb1.size)
  clear hb1 hb2 hb3 ho1 hl5 hwn
  simp only [Option.getD_none]
  obtain ⟨w4, hw4⟩ : ∃ W, W = (w3.alloc (.cells ((M.nil 0).cells (.slice nA (M.nil 0).nm.length nc) (.slice rA (M.nil 0).rs.length rc) (.slice vA (M.nil 0).vs.length vc)) 31)) := ⟨_, rfl⟩
  have hb4 : Below w3.heap.size w3 w4 := by rw [hw4]; exact (Below.refl _ _).alloc (Nat.le_refl _) _
  have hs4 : w4.heap.size = w3.heap.size + 1 := by rw [hw4]; simp
  have hb5 : Below w4.heap.size w4 (w4.alloc (.cells #[.int .u8 10, .int .u8 0, .int .u8 1, .int .u8 5] 5)) := (Below.refl _ _).alloc (Nat.le_refl _) _
  have hl4 : RdT (w4.alloc (.cells #[.int .u8 10, .int .u8 0, .int .u8 1, .int .u8 5] 5)) (.slice (some ⟨w4.heap.size, 0, none⟩) 4 4) [10, 0, 1, 5] := rdt_of_own (base := 0) (World.ownsRow_lit (size := 1) (e := 5) w4 #[.int .u8 10, .int .u8 0, .int .u8 1, .int .u8 5] 4 (Nat.zero_le _) (by decide) rfl)
  have hsm := same_yes v (.slice (some ⟨w4.heap.size, 0, none⟩) 4 4) [10, 0, 1, 5] _ (rdt_of_mid (l := [10, 0, 1, 5]) ((ho3.below hb4).below hb5)).1 hl4.1
  have hB : Below w.heap.size w (w4.alloc (.cells #[.int .u8 10, .int .u8 0, .int .u8 1, .int .u8 5] 5)) := hb13.trans ((hb4.trans (hb5.mono hb4.size)).mono hb13.size)
  rw [hs4, hw4] at hsm
  rw [hw4] at hB
  clear hb4 hb5 hl4 hs4 hw4 ho3 k1 k2 k3 k4 hb13
  go_wp2_with fail
  (with_reducible refine hsm.mono ?_)
  rintro e w5 ⟨rfl, rfl⟩
  go_wp2_with fail
  go_ret
  exact ⟨rfl, hB⟩

end Go.Proofs.YtjijmbpgfabgcaaDoor
