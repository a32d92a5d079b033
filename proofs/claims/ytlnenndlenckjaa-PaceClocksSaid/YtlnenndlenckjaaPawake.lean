/-
  The document's examples, at a clock and a meter.
-/
import Derived.Test.YtlnenndlenckjaaMeterb
namespace Go.Proofs.Ytlnenndlenckjaa
open Go.RowKit
set_option linter.unusedVariables false
set_option linter.unusedSimpArgs false


theorem clk_mtr_ne {w : World} {g k : Nat} {c : Ck} {m : Mt} (h : Clk w g c) (h' : Mtr w k m) : g ≠ k := Blk.ne_ (t := 62) (t' := 64) h h' (by decide)
theorem Clk.grown {w w' : World} {g : Nat} {c : Ck} {r : Option Nat} (h : Clk w g c) (hb : w.grownBy w' r) (hr : some g ≠ r) : Clk w' g c := Blk.grown h hb hr
theorem Mtr.grown {w w' : World} {g : Nat} {m : Mt} {r : Option Nat} (h : Mtr w g m) (hb : w.grownBy w' r) (hr : some g ≠ r) : Mtr w' g m := Blk.grown h hb hr
theorem RMt.grown {w w' : World} {g : Nat} {m : Mt} {r : Option Nat} (h : RMt w g m) (hb : w.grownBy w' r) (hr : some g ≠ r) : RMt w' g m := Blk.grown h hb hr
theorem smp1 : smp ck0 20 0 = ⟨true, 20, 20, 20, 10⟩ := by rfl
theorem smp2 : smp ⟨true, 20, 20, 20, 10⟩ 28 0 = ⟨true, 28, 20, 21, 9⟩ := by rfl
theorem ck1_ok : CkOk ⟨true, 20, 20, 20, 10⟩ := ⟨by decide, by decide, by decide, by decide, by decide, by decide, by decide, by decide⟩
theorem mt1_ok : MtOk ⟨12000, 4611686018427387903, 1200, 0, false⟩ := ⟨by decide, by decide, by decide, by decide, by decide, by decide⟩
theorem wait59 : waitI 21 9 0 = 59 := by rfl
theorem half6 : half 12000 = 6000 := by rfl
set_option maxHeartbeats 1000000 in
set_option maxRecDepth 100000 in
theorem awake_any (w : World) : Calls Try.prog 8 #[] w fun e w' => e = .returned (.bool true) ∧ Below w.heap.size w w' := by
  go_enter Try.func8, Try.ntmps8
  go_wp2_with fail
  refine (newClock_any _).mono ?_
  rintro e w1 ⟨g, rfl, hc, hg, hB⟩
  go_wp2_with fail
  refine (newMeter_any _).mono ?_
  rintro e w2 ⟨k, rfl, hm, hk, hb⟩
  have hc : Clk w2 g ck0 := Blk.same hc hb
  have hk : w.heap.size ≤ k := Nat.le_trans hB.size hk
  have hB := hB.trans (hb.mono hB.size)
  clear hb
  have hne := clk_mtr_ne hc hm
  go_wp2_with fail
  refine (sample_any g ck0 20 0 _ hc ck0_ok (by omega) (by omega)).mono ?_
  rintro e w3 ⟨rfl, hc, hgr⟩
  rw [smp1] at hc
  have hm := hm.grown hgr (by simpa using hne.symm)
  have hB := hB.grown hgr hB.size (fun b hb => by injection hb with hb; omega)
  clear hgr
  go_wp2_with fail
  refine (sample_any g _ 28 0 _ hc ck1_ok (by omega) (by omega)).mono ?_
  rintro e w4 ⟨rfl, hc, hgr⟩
  rw [smp2] at hc
  have hm := hm.grown hgr (by simpa using hne.symm)
  have hB := hB.grown hgr hB.size (fun b hb => by injection hb with hb; omega)
  clear hgr
  go_wp2_with fail
  refine (told_any g true 28 20 21 9 _ hc).mono ?_
  rintro e w5 ⟨rfl, n5, rfl⟩
  go_wp2_with fail
  refine (send_yes k 12000 4611686018427387903 0 0 false 1200 _ (show Mtr (w4.drewN n5) k ⟨12000, 4611686018427387903, 0, 0, false⟩ from hm) (by omega) (by omega) (by omega)).mono ?_
  rintro e w6 ⟨rfl, hm, hgr⟩
  have hc : Clk w6 g ⟨true, 28, 20, 21, 9⟩ := Clk.grown (w := w4.drewN n5) hc hgr (by simpa using hne)
  have hB := (below_drewN hB n5).grown hgr hB.size (fun b hb => by injection hb with hb; omega)
  clear hgr
  go_wp2_with fail
  refine (mlost_yes k 12000 4611686018427387903 (0 + 1200) 0 false 1200 1 5 _ hm mt1_ok (by omega) (by omega) (by decide)).mono ?_
  rintro e w7 ⟨rfl, hm, hgr⟩
  rw [half6] at hm
  have hc := hc.grown hgr (by simpa using hne)
  have hB := hB.grown hgr hB.size (fun b hb => by injection hb with hb; omega)
  clear hgr
  go_wp2_with fail
  refine (mtold_any k 6000 6000 (0 + 1200 - 1200) 5 true _ hm).mono ?_
  rintro e w8 ⟨rfl, n8, rfl⟩
  go_wp2_with fail
  refine (wait_any g true 28 20 21 9 0 _ (show Clk (w7.drewN n8) g _ from hc) (by omega) (by omega)).mono ?_
  rintro e w9 ⟨rfl, n9, rfl⟩
  rw [wait59]
  go_wp2_with fail
  go_ret
  exact ⟨by simp, below_drewN hB _⟩

end Go.Proofs.Ytlnenndlenckjaa
