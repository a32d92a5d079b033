/-
  TurnRanks: of any priorities, orders and groups the rank is told; and which of two goes ahead: never both. For every input; no condition.
-/
import Derived.Test.YtddgakjcigefoaaTless
import Derived.Test.YtddgakjcigefoaaOpen
namespace Go.Proofs.Ytddgakjcigefoaa
open Go.RowKit
set_option linter.unusedVariables false
set_option linter.unusedSimpArgs false


theorem rank_exact (a b o g : Int) (w : World) (ha : 0 ≤ a ∧ a ≤ 255) (hb : 0 ≤ b ∧ b ≤ 255) (hg : 0 ≤ g ∧ g ≤ 18446744073709551615) :
    Calls Try.prog 11 #[.int .u8 a, .int .u8 b, .int .u8 o, .int .u64 g] w fun e w' => e = .returned (.agg #[.int .u64 a, .int .u64 b, .int .u64 (rankI o g)]) ∧ w' = w.alloc (.cells #[.int .u64 a, .int .u64 b, .int .u64 (rankI o g)] 29) := by
  by_cases ho : o = 2
  · have hb1 : (o == 2) = true := by simpa using ho
    by_cases hm : 4611686018427387903 < g
    · have hr : rankI o g = 0 := by unfold rankI; rw [if_pos ho]; omega
      rw [hr]
      subst ho
      clear hr
      go_enter Try.func11, Try.ntmps11
      go_wp2
      exact bodyPost_ret (v := .agg #[.int .u64 a, .int .u64 b, .int .u64 0]) (by simp [results, Try.results11, go_sem]) rfl ⟨rfl, rfl⟩
    · have hr : rankI o g = 4611686018427387903 - g := by unfold rankI; rw [if_pos ho]; omega
      rw [hr]
      subst ho
      clear hr
      go_enter Try.func11, Try.ntmps11
      go_wp2
      exact bodyPost_ret (v := .agg #[.int .u64 a, .int .u64 b, .int .u64 (4611686018427387903 - g)]) (by simp [results, Try.results11, go_sem]) rfl ⟨rfl, rfl⟩
  · have hb1 : (o == 2) = false := by simpa using ho
    have hb2 : (o != 2) = true := by simpa using ho
    have hr : rankI o g = g := by unfold rankI; rw [if_neg ho]
    rw [hr]
    clear hr ho
    go_enter Try.func11, Try.ntmps11
    go_wp2
    exact bodyPost_ret (v := .agg #[.int .u64 a, .int .u64 b, .int .u64 g]) (by simp [results, Try.results11, go_sem]) rfl ⟨rfl, rfl⟩
theorem less_tri (a0 a1 a2 b0 b1 b2 : Int) : (lessB a0 a1 a2 b0 b1 b2 = true ∧ lessB b0 b1 b2 a0 a1 a2 = false) ∨ (lessB a0 a1 a2 b0 b1 b2 = false ∧ lessB b0 b1 b2 a0 a1 a2 = true) ∨
    (lessB a0 a1 a2 b0 b1 b2 = false ∧ lessB b0 b1 b2 a0 a1 a2 = false ∧ a0 = b0 ∧ a1 = b1 ∧ a2 = b2) := by
  rw [lessB_iff, lessB_iff]
  simp only [decide_eq_true_eq, decide_eq_false_iff_not]
  omega
def SRead (n : Nat) (a0 a1 a2 b0 b1 b2 : Int) (w' : World) : Prop := w'.cell? ⟨n, 0, none⟩ = some (.int .u8 a0) ∧ w'.cell? ⟨n, 1, none⟩ = some (.int .u8 a1) ∧ w'.cell? ⟨n, 2, none⟩ = some (.int .u8 a2) ∧ w'.cell? ⟨n + 1, 0, none⟩ = some (.int .u8 b0) ∧ w'.cell? ⟨n + 1, 1, none⟩ = some (.int .u8 b1) ∧ w'.cell? ⟨n + 1, 2, none⟩ = some (.int .u8 b2)
set_option maxHeartbeats 4000000 in
set_option maxRecDepth 100000 in
theorem ranks_walk (a0 a1 a2 b0 b1 b2 g h : Int) (w : World) (ha0 : 0 ≤ a0 ∧ a0 ≤ 255) (ha1 : 0 ≤ a1 ∧ a1 ≤ 255) (ha2 : 0 ≤ a2 ∧ a2 ≤ 255) (hb0 : 0 ≤ b0 ∧ b0 ≤ 255) (hb1 : 0 ≤ b1 ∧ b1 ≤ 255) (hb2 : 0 ≤ b2 ∧ b2 ≤ 255)
    (hg : 0 ≤ g ∧ g ≤ 18446744073709551615) (hh : 0 ≤ h ∧ h ≤ 18446744073709551615) :
    Calls Try.prog 4 #[.agg #[.int .u8 a0, .int .u8 a1, .int .u8 a2], .agg #[.int .u8 b0, .int .u8 b1, .int .u8 b2], .int .u64 g, .int .u64 h] w fun e w' => e = .returned (.bool true) ∧ Below w.heap.size w w' := by
  have hBA := (Blk.new w 28 #[.int .u8 a0, .int .u8 a1, .int .u8 a2]).alloc (.cells #[.int .u8 b0, .int .u8 b1, .int .u8 b2] 28)
  have hBB := Blk.new (w.alloc (.cells #[.int .u8 a0, .int .u8 a1, .int .u8 a2] 28)) 28 #[.int .u8 b0, .int .u8 b1, .int .u8 b2]
  rw [World.size_alloc] at hBB
  have hB0 := ((Below.refl w.heap.size w).alloc (Nat.le_refl _) (.cells #[.int .u8 a0, .int .u8 a1, .int .u8 a2] 28)).alloc (by simp) (.cells #[.int .u8 b0, .int .u8 b1, .int .u8 b2] 28)
  go_enter Try.func4, Try.ntmps4
  go_wp2_with fail
  refine (awake_any _).mono ?_
  rintro e w1 ⟨rfl, hb⟩
  have hA := hBA.same hb
  have hB := hBB.same hb
  have hW := hB0.trans (hb.mono hB0.size)
  clear hBA hBB hb hB0
  have x0 := hA.cell 0
  have x1 := hA.cell 1
  have x2 := hA.cell 2
  have y0 := hB.cell 0
  have y1 := hB.cell 1
  have y2 := hB.cell 2
  simp only [List.getElem?_toArray, List.getElem?_cons_zero, List.getElem?_cons_succ] at x0 x1 x2 y0 y1 y2
  have SR : SRead w.heap.size a0 a1 a2 b0 b1 b2 w1 := ⟨x0, x1, x2, y0, y1, y2⟩
  go_upto_region 3 with (fail)
  go_cut [9, 10] (fun s9 s10 wx => ∃ p q, s9 = .pointer (some ⟨p, 0, none⟩) ∧ s10 = .pointer (some ⟨q, 0, none⟩) ∧ Blk wx p 29 #[.int .u64 a0, .int .u64 a1, .int .u64 (rankI a2 g)] ∧ Blk wx q 29 #[.int .u64 b0, .int .u64 b1, .int .u64 (rankI b2 h)] ∧ Below w1.heap.size w1 wx)
  case first =>
    have c0 := keepB_cell x0
    have c1 := keepB_cell x1
    have c2 := keepB_cell x2
    have d0 := keepB_cell y0
    have d1 := keepB_cell y1
    have d2 := keepB_cell y2
    have hS0 := Below.refl w1.heap.size w1
    clear SR x0 x1 x2 y0 y1 y2 hA hB
    go_region_held3 (fun w' => Below w1.heap.size w1 w') (repeat (first | with_reducible assumption | with_reducible refine keepB_alloc ?_ _ | with_reducible refine keepB_drew ?_))
      (first
        | (go_at_call 11; (with_reducible refine (rank_exact a0 a1 a2 g _ ha0 ha1 hg).mono ?_); rintro e wT ⟨rfl, rfl⟩)
        | (go_at_call 11; (with_reducible refine (rank_exact b0 b1 b2 h _ hb0 hb1 hh).mono ?_); rintro e wT ⟨rfl, rfl⟩))
    all_goals
      go_wp2_with fail
      go_meet
      refine ⟨_, _, rfl, rfl, ?_, ?_, ?_⟩
      · (repeat (first | (refine blk_new_at ?_; simp; done) | refine Blk.drew ?_ | refine Blk.alloc ?_ _))
      · (repeat (first | (refine blk_new_at ?_; simp; done) | refine Blk.drew ?_ | refine Blk.alloc ?_ _))
      · (repeat (first | exact Below.refl _ _ | refine keepB_drew ?_ | refine keepB_alloc ?_ _))
  case rest =>
    obtain ⟨p, q, rfl, rfl, hP, hQ, hb⟩ := hcut
    have hA := hA.same hb
    have hB := hB.same hb
    have hW := hW.trans (hb.mono hW.size)
    clear hb SR x0 x1 x2 y0 y1 y2
    obtain ⟨ra, hra⟩ : ∃ ra, ra = rankI a2 g := ⟨_, rfl⟩
    obtain ⟨rb, hrb⟩ : ∃ rb, rb = rankI b2 h := ⟨_, rfl⟩
    rw [← hra] at hP
    rw [← hrb] at hQ
    have kr : ∀ W, Calls Try.prog 12 #[.int .u8 a0, .int .u8 a1, .int .u8 a2, .int .u64 g] W fun e w' => e = .returned (.agg #[.int .u64 a0, .int .u64 a1, .int .u64 ra]) ∧ Below W.heap.size W w' := fun W => by rw [hra]; exact rrank_any a0 a1 a2 g W ha0 ha1 hg
    clear hra hrb
    have heq := fun W : World => eq3 W a0 a1 ra a0 a1 ra
    simp only [and_self, decide_true] at heq
    have tri := less_tri a0 a1 ra b0 b1 rb
    have l1 := fun W => less_any a0 a1 ra b0 b1 rb W
    have l2 := fun W => less_any b0 b1 rb a0 a1 ra W
    have l3 := fun W => rless_any a0 a1 ra b0 b1 rb W
    have p0 := hP.cell 0
    have p1 := hP.cell 1
    have p2 := hP.cell 2
    have q0 := hQ.cell 0
    have q1 := hQ.cell 1
    have q2 := hQ.cell 2
    have x0 := hA.cell 0
    have x1 := hA.cell 1
    have x2 := hA.cell 2
    simp only [List.getElem?_toArray, List.getElem?_cons_zero, List.getElem?_cons_succ] at p0 p1 p2 q0 q1 q2 x0 x1 x2
    have hWs := hW.size
    clear hA hB
    rcases tri with ⟨e1, e2⟩ | ⟨e1, e2⟩ | ⟨e1, e2, rfl, rfl, rfl⟩
    all_goals
      rw [e1] at l1 l3
      rw [e2] at l2
      clear e1 e2
      go_wp2_with fail
      have Cp0 := Cls.cells p0 (World.block_lt_of_cell? _ _ p0)
      have Cp1 := Cls.cells p1 (World.block_lt_of_cell? _ _ p1)
      have Cp2 := Cls.cells p2 (World.block_lt_of_cell? _ _ p2)
      have Cq0 := Cls.cells q0 (World.block_lt_of_cell? _ _ q0)
      have Cq1 := Cls.cells q1 (World.block_lt_of_cell? _ _ q1)
      have Cq2 := Cls.cells q2 (World.block_lt_of_cell? _ _ q2)
      have Cx0 := Cls.cells x0 (World.block_lt_of_cell? _ _ x0)
      have Cx1 := Cls.cells x1 (World.block_lt_of_cell? _ _ x1)
      have Cx2 := Cls.cells x2 (World.block_lt_of_cell? _ _ x2)
      refine wp_region_cls (by kernel_rfl) (by kernel_rfl) ?_
      repeat (go_big_quiet_step ((first | (go_at_call 13; exact Cls.call (Nat.le_refl _) (l1 _)) | (go_at_call 13; exact Cls.call (Nat.le_refl _) (l2 _)) | (go_at_call 14; exact Cls.call (Nat.le_refl _) (l3 _)) | (go_at_call 12; exact Cls.call (Nat.le_refl _) (kr _)))))
      refine wpQuiet_nil ?_
      intro w5 hb5
      have p0 := keepB_cell p0 w5 hb5
      have p1 := keepB_cell p1 w5 hb5
      have p2 := keepB_cell p2 w5 hb5
      have q0 := keepB_cell q0 w5 hb5
      have q1 := keepB_cell q1 w5 hb5
      have q2 := keepB_cell q2 w5 hb5
      have x0 := keepB_cell x0 w5 hb5
      have x1 := keepB_cell x1 w5 hb5
      have x2 := keepB_cell x2 w5 hb5
      clear Cp0 Cp1 Cp2 Cq0 Cq1 Cq2 Cx0 Cx1 Cx2
      have hW := hW.trans (hb5.mono hW.size)
      clear hb5 kr x0 x1 x2 l3
      go_wp2_with fail
      refine (l1 _).mono ?_
      rintro e w6 ⟨rfl, hb6⟩
      have hW := hW.trans (hb6.mono hW.size)
      have p0 := keepB_cell p0 w6 hb6
      have p1 := keepB_cell p1 w6 hb6
      have p2 := keepB_cell p2 w6 hb6
      have q0 := keepB_cell q0 w6 hb6
      have q1 := keepB_cell q1 w6 hb6
      have q2 := keepB_cell q2 w6 hb6
      clear hb6 l1
      go_wp2_with fail
    · go_ret
      exact ⟨by simp, hW⟩
    all_goals
      refine (l2 _).mono ?_
      rintro e w7 ⟨rfl, hb7⟩
      have hW := hW.trans (hb7.mono hW.size)
      have p0 := keepB_cell p0 w7 hb7
      have p1 := keepB_cell p1 w7 hb7
      have p2 := keepB_cell p2 w7 hb7
      have q0 := keepB_cell q0 w7 hb7
      have q1 := keepB_cell q1 w7 hb7
      have q2 := keepB_cell q2 w7 hb7
      clear hb7 l2
      go_wp2_with fail
      go_ret
      exact ⟨by simp, hW⟩

open Go.ChangeShapes Go.WideShapes Go.ChangeAt in
theorem arr3_of {H : Type} {enc : TypeId × Value → H} {W : World} {v : Value} {d : DataW H} {p : List MemPlace} {r : Reach} {b : Nat} (hv : Value.okWide Try.prog W r b 28 v)
    (h : DataW.Trod enc Try.prog W 0 (fun _ => true) true 28 v d p) : ∃ a0 a1 a2 : Int, v = .agg #[.int .u8 a0, .int .u8 a1, .int .u8 a2] ∧ (0 ≤ a0 ∧ a0 ≤ 255) ∧ (0 ≤ a1 ∧ a1 ≤ 255) ∧ (0 ≤ a2 ∧ a2 ≤ 255) := by
  obtain ⟨cs, rfl, _⟩ := okWide_array Try.underlying28 hv
  obtain ⟨m, hm⟩ := h
  obtain ⟨l, hl, he, hw⟩ := open_arr Try.underlying28 Try.underlying5 (by kernel_rfl) (by kernel_rfl) hm
  match l, hl with
  | [a0, a1, a2], _ =>
    refine ⟨a0, a1, a2, ?_, bounds_u8 (hw a0 (by simp)), bounds_u8 (hw a1 (by simp)), bounds_u8 (hw a2 (by simp))⟩
    obtain ⟨c⟩ := cs
    simp [Value.cells] at he
    rw [he]
open Go.ChangeShapes Go.WideShapes Go.ChangeAt
set_option maxRecDepth 100000 in
theorem ranks_lifted (os : Os) (started : os.Started) (H : Type) (enc : TypeId × Value → H) :
    ReturnsInHanded {} Try.checked os 4 .any (Rows.turnRanksSpec.pre6 enc Try.prog Try.f4 Rows.turnRanksRow.domain false) (Rows.turnRanksSpec.post enc Try.prog Try.f4 false true false false) := by
  refine returnsInHanded_of_change (C := Try.checked) own started (by kernel_rfl) Try.func4
    (ChangeSpec.witness6 (enc := enc) (C := Try.checked) false ⟨#[], #[.agg #[.int .u8 0, .int .u8 0, .int .u8 0], .agg #[.int .u8 0, .int .u8 0, .int .u8 0], .int .u64 0, .int .u64 0], []⟩ 8 (by kernel_rfl) (by kernel_rfl) (by kernel_rfl) (by kernel_rfl)) ?_
  intro W base args ds gs before hval0 hW hcnd _
  have hval : ∀ (j : Nat) t v, Try.f4.params[j]? = some t → args[j]? = some v → Value.okWide Try.prog W .any base t v := hval0
  have hW' := hW
  obtain ⟨p, q, hA0, hV, rfl, hfz, hnd⟩ := hW
  have hA : DataW.TrodAll enc Try.prog W 0 (fun _ => true) true Try.f4.params.toList args.toList ds p := hA0
  rw [Try.params4] at hA hval
  obtain ⟨v0, vs0, d0, ds0, p0, q0, hargs, rfl, rfl, h0, r0⟩ := trodAll_cons hA
  obtain ⟨v1, vs1, d1, ds1, p1, q1, rfl, rfl, rfl, h1, r1⟩ := trodAll_cons r0
  obtain ⟨v2, vs2, d2, ds2, p2, q2, rfl, rfl, rfl, h2, r2⟩ := trodAll_cons r1
  obtain ⟨v3, vs3, d3, ds3, p3, q3, rfl, rfl, rfl, h3, r3⟩ := trodAll_cons r2
  obtain ⟨rfl, rfl, rfl⟩ := trodAll_nil r3
  obtain rfl : args = #[v0, v1, v2, v3] := by cases args; simp_all
  obtain ⟨rfl, rfl⟩ := trodVars_none hV
  have k0 := h0
  have lt0 : ∀ x ∈ p0, x.block < W.heap.size := by obtain ⟨m, hm⟩ := k0; exact DataW.trod_lt m _ _ _ hm
  obtain ⟨a00, a01, a02, rfl, u00, u01, u02⟩ := arr3_of (hval 0 28 v0 rfl rfl) h0
  have k1 := h1
  have lt1 : ∀ x ∈ p1, x.block < W.heap.size := by obtain ⟨m, hm⟩ := k1; exact DataW.trod_lt m _ _ _ hm
  obtain ⟨a10, a11, a12, rfl, u10, u11, u12⟩ := arr3_of (hval 1 28 v1 rfl rfl) h1
  obtain ⟨a2, rfl, rfl, rfl, w2⟩ := open_int Try.underlying22 (hval 2 22 v2 rfl rfl) h2
  obtain ⟨a3, rfl, rfl, rfl, w3⟩ := open_int Try.underlying22 (hval 3 22 v3 rfl rfl) h3
  clear hA0 hval0
  refine (ranks_walk _ _ _ _ _ _ a2 a3 W u00 u01 u02 u10 u11 u12 (bounds_u64 w2) (bounds_u64 w3)).mono fun e W' ⟨he, bel⟩ => ?_
  subst he
  exact ⟨_, rfl, _, _, _, [], _, [], hW', trodAll_mk1 (shut_bool Try.underlying4 _), (trodAll_cons_mk (Below.trod laidOut (by kernel_rfl) (of_decide_eq_true (by kernel_rfl)) k0 bel lt0) (trodAll_cons_mk (Below.trod laidOut (by kernel_rfl) (of_decide_eq_true (by kernel_rfl)) k1 bel lt1) (trodAll_cons_mk (shut_int Try.underlying22 w2) (trodAll_cons_mk (shut_int Try.underlying22 w3) trodAll_mk0)))), rfl, bel.frame _, fun h => by cases h⟩

theorem ranks_holds : Rows.TurnRanksSaid :=
  OpenClaim.holds_of_wide 4 Try.f4 rfl rfl rfl rfl rfl rfl rfl ⟨rfl, rfl, rfl, rfl, rfl⟩ rfl rfl rfl rfl rfl (by kernel_rfl) Try.func4 (by kernel_rfl)
    (of_decide_eq_true (by kernel_rfl)) (by unfold Func.isWrapper; first | (rw [if_pos (by decide +kernel)]; kernel_rfl) | (rw [if_neg (by decide +kernel)]; exact ⟨rfl, rfl⟩))
    (fun os started H enc _ => ranks_lifted os started H enc)
#print axioms ranks_holds

end Go.Proofs.Ytddgakjcigefoaa
