/-
  The reference: num. No condition.
-/
import Derived.Test.YtjijmbpgfabgcaaDoorZRshape
namespace Go.Proofs.YtjijmbpgfabgcaaDoor
open Go.RowKit
set_option linter.unusedVariables false
set_option linter.unusedSimpArgs false

set_option maxHeartbeats 4000000 in
set_option maxRecDepth 100000 in
theorem rnums (ns : List Int) (v : Value) (w : World) (hv : Rd w .u64 v ns) (hn : ns.length ≤ 20) (ha : AllN ns) (hf : FitN ns) :
    Calls Tryd.prog 32 #[v] w fun e w' => ∃ u, e = .returned u ∧ w'.ownsRow w.heap.size 5 1 u (joinN ns).length ((joinN ns).map (Value.int .u8)) ∧ Below w.heap.size w w' := by
  obtain ⟨i0, hi, hz0, hz1, hz2⟩ := info_parts infoB
  obtain ⟨A, c, rfl⟩ := hv.form
  have HV := Lib.hid hv
  have HA := Lib.hid ha
  have HF := Lib.hid hf
  clear hv ha hf
  go_enter Tryd.func32, Tryd.ntmps32
  go_wp2_with fail
  go_loopw [3, 10] (fun s3 s10 wr => ∃ k : Nat, k ≤ ns.length ∧ s10 = .int .i64 k ∧ wr.ownsRow w.heap.size 5 1 s3 (joinN (ns.take k)).length ((joinN (ns.take k)).map (Value.int .u8)) ∧ Below w.heap.size w wr) (fun _ s10 _ => ns.length - (intOf s10).toNat)
  case atStart => exact ⟨0, Nat.zero_le _, rfl, by simpa [joinN] using World.ownsRow_nil _ _ _ _, Below.refl _ _⟩
  case round =>
    obtain ⟨k, hkl, rfl, hP, hB⟩ := hrel
    by_cases hlt : k < ns.length
    · obtain ⟨b, off, rfl, _, c0⟩ := (HV.out.below hB).at_ k hlt
      have hjt := joinN_take ns k hlt
      have hjl := joinN_len (ns.take k) (fun x hx => HF.out x (List.mem_of_mem_take hx))
      have hxm : ns.getD k 0 ∈ ns := by rw [show ns.getD k 0 = ns[k] by simp [List.getD, hlt]]; exact List.getElem_mem hlt
      have hx1 := HA.out _ hxm
      have hx2 := HF.out _ hxm
      rw [List.length_take] at hjl
      obtain ⟨x, hx⟩ : ∃ x, x = ns.getD k 0 := ⟨_, rfl⟩
      rw [← hx] at c0 hjt hx1 hx2
      obtain ⟨J, hJ⟩ : ∃ J, J = joinN (ns.take k) := ⟨_, rfl⟩
      rw [← hJ] at hP hjl hjt
      have HJ := Lib.hid hjt
      have hf8 := vf_len x hx2
      clear hx hJ hjt hxm
      go_wp2_with fail
      (with_reducible refine (rnum_any x _ hx1.1 hx1.2 hx2).mono ?_)
      rintro e w1 ⟨v1, rfl, ho, hb1⟩
      obtain ⟨q, hq⟩ : ∃ q, q = vform x (vsz x) := ⟨_, rfl⟩
      rw [← hq] at ho hf8 HJ
      have r1 := rd_of_own ho
      obtain ⟨A1, cap1, rfl⟩ := r1.form
      have H1 := Lib.hid r1.rdv
      have hP1 := own_same hP hb1
      have hB1 := hB.trans (hb1.mono hB.size)
      obtain ⟨AJ, cJ, rfl, _⟩ := sl_of_own hP1
      clear hq r1 ho hb1 hP hB
      go_wp2_with (at_builtin; refine wpList_append_any _ rfl _ _ 23 rfl w.heap.size 5 i0 _ 1 1 Tryd.underlying23 hi hz0 hz1 hz2 rfl (by decide) _ J.length _ rfl hP1 A1 q.length cap1 _ rfl H1.out.2.2.2.2 (oneInts _ _) (by unfold maxLen; omega) (by omega) hB1.size H1.out.2.1 ?_; intro v4 w4 hown4 hgrow4 hat4; obtain ⟨A4, c4, rfl, _⟩ := sl_of_own hown4)
      have hown5 : w4.ownsRow w.heap.size 5 1 (.slice A4 (J.length + q.length) c4) (J ++ q).length ((J ++ q).map (Value.int .u8)) := by rw [List.length_append, List.map_append]; exact hown4
      go_roundw
      case rel => exact ⟨k + 1, by omega, by go_num, by rw [HJ.out]; exact hown5, hB1.grown hgrow4 hB1.size (fun b hb => (hP1.lt b hb).1)⟩
      case measure => simp [intOf]; omega
    · have htk : ns.take k = ns := List.take_of_length_le (by omega)
      rw [htk] at hP
      obtain ⟨AJ, cJ, rfl, _⟩ := sl_of_own hP
      clear htk
      go_wp2_with fail
      go_ret
      exact ⟨_, rfl, hP, hB⟩

end Go.Proofs.YtjijmbpgfabgcaaDoor
