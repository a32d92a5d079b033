/-
  PaceGrows: as long as nothing is lost, and the threshold isn't reached, as much more may be under way as was acknowledged. For every input; no condition.
-/
import Derived.Test.YtlnenndlenckjaaPawake
namespace Go.Proofs.Ytlnenndlenckjaa
open Go.RowKit
set_option linter.unusedVariables false
set_option linter.unusedSimpArgs false


theorem capM_id (x : Int) (h : x ≤ 1073741824) : capM x = x := by unfold capM; rw [if_neg (by omega)]
set_option maxHeartbeats 1000000 in
set_option maxRecDepth 100000 in
theorem grows_walk (v : Value) (l : List Int) (w : World) (hl : Rd w .u16 v l) (hln : ∀ x ∈ l, 0 ≤ x ∧ x ≤ 65535) :
    Calls Try.prog 5 #[v] w fun e w' => e = .returned (.bool true) ∧ Below w.heap.size w w' := by
  obtain ⟨A, cap, rfl⟩ := hl.form
  have hlm : l.length ≤ 9223372036854775807 := by have := hl.rdv.2.2; unfold maxLen at this; omega
  have HL := Lib.hid hl
  have HN := Lib.hid hln
  clear hl hln
  go_enter Try.func5, Try.ntmps5
  go_wp2_with fail
  refine (awake_any _).mono ?_
  rintro e w1 ⟨rfl, hB⟩
  go_wp2_with fail
  refine (newMeter_any _).mono ?_
  rintro e w2 ⟨g, rfl, hm, hg, hb⟩
  have hg : w.heap.size ≤ g := Nat.le_trans hB.size hg
  have hB := hB.trans (hb.mono hB.size)
  clear hb
  go_wp2_with fail
  go_loopw [4, 16] (fun s4 i wr => ∃ (k : Nat) (W : Int), s4 = .int .i64 W ∧ k ≤ l.length ∧ k ≤ 60 ∧ i = .int .i64 k ∧ 12000 ≤ W ∧ W ≤ 12000 + 1200 * k ∧ Mtr wr g ⟨W, 4611686018427387903, 0, 0, false⟩ ∧ Below w.heap.size w wr) (fun _ i _ => l.length - (intOf i).toNat)
  case atStart => exact ⟨0, 12000, rfl, Nat.zero_le _, Nat.zero_le _, rfl, by omega, by omega, hm, hB⟩
  case round =>
    clear hm hB
    obtain ⟨k, W, rfl, hkl, hk60, rfl, hW0, hW1, hm, hB⟩ := hrel
    by_cases hlt : k < l.length
    · obtain ⟨b, off, rfl, hb, c0⟩ := (HL.out.below hB).at_ k hlt
      obtain ⟨x, hx⟩ : ∃ x, x = l.getD k 0 := ⟨_, rfl⟩
      have hxb : 0 ≤ x ∧ x ≤ 65535 := by rw [hx]; have := HN.out (l[k]) (List.getElem_mem hlt); simpa [List.getD, hlt] using this
      rw [← hx] at c0
      clear hx
      by_cases h60 : 60 ≤ k
      · have h60' : (60 : Int) ≤ (k : Int) := by omega
        go_wp2_with fail
        go_ret
        exact ⟨rfl, hB⟩
      · have h60' : (k : Int) < (60 : Int) := by omega
        have hxm : 0 ≤ x % 1201 ∧ x % 1201 ≤ 1200 := by omega
        have hla : laterB 0 false (k : Int) = true := rfl
        have HLA := Lib.hid hla
        clear hla
        go_wp2_with fail
        refine (send_yes g W 4611686018427387903 0 0 false (x % 1201) _ hm hxm (by omega) (by omega)).mono ?_
        rintro e w3 ⟨rfl, hm3, hg3⟩
        have hB3 := hB.grown hg3 hB.size (fun b hb => by injection hb with hb; omega)
        go_wp2_with fail
        refine (acked_a g W 4611686018427387903 (0 + x % 1201) 0 false (x % 1201) k _ hm3 ⟨by show 2400 ≤ W; omega, by show W ≤ _; omega, by show (0 : Int) ≤ 4611686018427387903; decide, by show 0 ≤ 0 + x % 1201; omega, by show 0 + x % 1201 ≤ _; omega, by show (0 : Int) ≤ 0; decide⟩ hxm (by omega) HLA.out (by omega)).mono ?_
        rintro e w4 ⟨rfl, hm4, hg4⟩
        have hB4 := hB3.grown hg4 hB3.size (fun b hb => by injection hb with hb; omega)
        rw [capM_id _ (by omega), show 0 + x % 1201 - x % 1201 = 0 by omega] at hm4
        go_wp2_with fail
        refine (mtold_any g (W + x % 1201) 4611686018427387903 0 0 false _ hm4).mono ?_
        rintro e w5 ⟨rfl, n5, rfl⟩
        clear c0 hm hm3 hg3 hg4
        go_wp2_with fail
        go_roundw
        case rel => exact ⟨k + 1, W + x % 1201, rfl, by omega, by omega, by go_num, by omega, by push_cast; omega, hm4, below_drewN hB4 n5⟩
        case measure => simp [intOf]; omega
    · go_wp2_with fail
      go_ret
      exact ⟨rfl, hB⟩

open Go.ChangeShapes Go.WideShapes Go.ChangeAt in
theorem ints_of {H : Type} {enc : TypeId × Value → H} {W : World} {A : Option Addr} {len cap : Nat} {d1 : DataW H} {p1 : List MemPlace}
    (h : DataW.Trod enc Try.prog W 0 (fun _ => true) true 39 (.slice A len cap) d1 p1) : ∃ l, Rd W .u16 (.slice A len cap) l ∧ ∀ x ∈ l, 0 ≤ x ∧ x ≤ 65535 := by
  obtain ⟨fuel, hf⟩ := h
  rcases open_ints Try.underlying39 Try.underlying42 (by kernel_rfl) hf with ⟨hcs, _⟩ | ⟨x, l, c, zs, hcs, _, hl, hm, hz, _, hcell, hwz⟩
  · simp [Value.cells] at hcs
    obtain ⟨rfl, rfl, rfl⟩ := hcs
    exact ⟨[], Rd.nil _ _, fun x hx => by simp at hx⟩
  · simp [Value.cells] at hcs
    obtain ⟨rfl, rfl, rfl⟩ := hcs
    have hz' : zs.length = cap := by simpa using hz
    have hlen : (zs.take len).length = len := by simp; omega
    refine ⟨zs.take len, ⟨some x, cap, by rw [hlen], by omega, hm, fun e => (by cases e), fun i hi => ?_⟩, fun n hn => bounds_u16 (hwz n (List.mem_of_mem_take hn))⟩
    rw [hlen] at hi
    have hc := hcell i (by omega)
    have hsp : x.spot = none := by
      have h0 := World.cell?_spot (hcell 0 (by omega))
      simpa [Addr.add] using h0
    obtain ⟨b, o, s⟩ := x
    simp only at hsp
    subst hsp
    have hlt := World.block_lt_of_cell? W _ hc
    rw [addr_add] at hc hlt
    refine ⟨b, o, rfl, hlt, fun j hj => ?_⟩
    obtain rfl : j = 0 := by omega
    rw [show o + (i * 1 + 0) = o + i by omega, hc]
    simp [List.getD, List.getElem?_take, hi]

open Go.ChangeShapes Go.WideShapes Go.ChangeAt
set_option maxRecDepth 100000 in
theorem grows_lifted (os : Os) (started : os.Started) (H : Type) (enc : TypeId × Value → H) :
    ReturnsInHanded {} Try.checked os 5 .any (Rows.paceGrowsSpec.pre6 enc Try.prog Try.f5 Rows.paceGrowsRow.domain false) (Rows.paceGrowsSpec.post enc Try.prog Try.f5 false true false false) := by
  refine returnsInHanded_of_change (C := Try.checked) own started (by kernel_rfl) Try.func5
    (ChangeSpec.witness6 (enc := enc) (C := Try.checked) false ⟨#[], #[.slice none 0 0], []⟩ 8 (by kernel_rfl) (by kernel_rfl) (by kernel_rfl) (by kernel_rfl)) ?_
  intro W base args ds gs before hval0 hW hcnd _
  have hval : ∀ (j : Nat) t v, Try.f5.params[j]? = some t → args[j]? = some v → Value.okWide Try.prog W .any base t v := hval0
  have hW' := hW
  obtain ⟨p, q, hA0, hV, rfl, hfz, hnd⟩ := hW
  have hA : DataW.TrodAll enc Try.prog W 0 (fun _ => true) true Try.f5.params.toList args.toList ds p := hA0
  rw [Try.params5] at hA hval
  obtain ⟨v0, vs0, d0, ds0, p0, q0, hargs, rfl, rfl, h0, r0⟩ := trodAll_cons hA
  obtain ⟨rfl, rfl, rfl⟩ := trodAll_nil r0
  obtain rfl : args = #[v0] := by cases args; simp_all
  obtain ⟨rfl, rfl⟩ := trodVars_none hV
  obtain ⟨A0, len0, cap0, rfl⟩ := okWide_slice Try.underlying39 (hval 0 39 v0 rfl rfl)
  have k0 := h0
  have lt0 : ∀ x ∈ p0, x.block < W.heap.size := by obtain ⟨m, hm⟩ := k0; exact DataW.trod_lt m _ _ _ hm
  obtain ⟨l0, hR0, hK0⟩ := ints_of h0
  clear hA0 hval0
  refine (grows_walk _ l0 W hR0 hK0).mono fun e W' ⟨he, bel⟩ => ?_
  subst he
  exact ⟨_, rfl, _, _, _, [], _, [], hW', trodAll_mk1 (shut_bool Try.underlying4 _), (trodAll_cons_mk (Below.trod laidOut (by kernel_rfl) (of_decide_eq_true (by kernel_rfl)) k0 bel lt0) trodAll_mk0), rfl, bel.frame _, fun h => by cases h⟩

theorem grows_holds : Rows.PaceGrowsSaid :=
  OpenClaim.holds_of_wide 5 Try.f5 rfl rfl rfl rfl rfl rfl rfl ⟨rfl, rfl, rfl, rfl, rfl⟩ rfl rfl rfl rfl rfl (by kernel_rfl) Try.func5 (by kernel_rfl)
    (of_decide_eq_true (by kernel_rfl)) (by unfold Func.isWrapper; first | (rw [if_pos (by decide +kernel)]; kernel_rfl) | (rw [if_neg (by decide +kernel)]; exact ⟨rfl, rfl⟩))
    (fun os started H enc _ => grows_lifted os started H enc)
#print axioms grows_holds

end Go.Proofs.Ytlnenndlenckjaa
