/-
  LossThree: whoever is three behind one that came is lost; whoever is above all that came isn't, however long ago it was sent. For every input; no condition.
-/
import Derived.Test.YtohjifbkjfnkfaaLawake
import Derived.Test.YtohjifbkjfnkfaaLmap
namespace Go.Proofs.Ytohjifbkjfnkfaa
open Go.RowKit
set_option linter.unusedVariables false
set_option linter.unusedSimpArgs false


/-- What is lost of those that were sent. -/
def threeX (k : Nat) (a now : Int) : List Pk := ((sentL k).filter (fun p => !(inR [(a, a)]) p)).filter (lostF true a now 1125899906842624)
theorem three_law (k : Nat) (a now i : Int) (hi : 1 ≤ i ∧ i ≤ k) : ((threeX k a now).map Pk.num).contains i = (decide (i + 3 ≤ a) || (decide (i < a) && (decide (5 ≤ now) && decide (1125899906842624 ≤ now - 5)))) := by
  rw [Bool.eq_iff_iff]
  constructor
  · intro h
    simp only [List.contains_iff_mem, List.mem_map, threeX, List.mem_filter, sentL, List.mem_range] at h
    obtain ⟨p, ⟨⟨⟨j, hj, rfl⟩, h2⟩, h3⟩, rfl⟩ := h
    have hs : (sentP j).num = j + 1 := rfl
    have hs5 : (sentP j).sent = 5 := rfl
    generalize sentP j = p at *
    simp [lostF, belowF, inR] at h2 h3 ⊢
    have hs2 : p.sent = 5 := hs5
    omega
  · intro h
    simp at h
    simp only [List.contains_iff_mem, List.mem_map, threeX, List.mem_filter, sentL, List.mem_range]
    refine ⟨sentP (i - 1).toNat, ⟨⟨⟨(i - 1).toNat, by omega, rfl⟩, ?_⟩, ?_⟩, ?_⟩
    · simp [inR, sentP]
      omega
    · simp [lostF, belowF, sentP]
      omega
    · simp [sentP]; omega
theorem three_len (k : Nat) (a now : Int) : (threeX k a now).length ≤ k := Nat.le_trans (List.length_filter_le _ _) (Nat.le_trans (List.length_filter_le _ _) (by rw [sentL_len]; exact Nat.le_refl _))
theorem three_num (k : Nat) (a now : Int) (hk : k ≤ 1000) : ∀ p ∈ threeX k a now, PkOk p := fun p hp => sentL_ok k (by omega) p (List.mem_filter.1 (List.mem_filter.1 hp).1).1
set_option maxHeartbeats 4000000 in
set_option maxRecDepth 100000 in
theorem three_walk (nn at_ now : Int) (w : World) (hn : 0 ≤ nn ∧ nn ≤ 255) (ha : 0 ≤ at_ ∧ at_ ≤ 255) (hw : 0 ≤ now ∧ now ≤ 18446744073709551615) :
    Calls Try.prog 3 #[.int .u8 nn, .int .u8 at_, .int .u64 now] w fun e w' => e = .returned (.bool true) ∧ Below w.heap.size w w' := by
  have hmm := @run_makeMap Try.prog
  obtain ⟨k, hk⟩ : ∃ k : Nat, (k : Int) = 1 + nn % 40 := ⟨(1 + nn % 40).toNat, by omega⟩
  have hk1 : 1 ≤ k ∧ k ≤ 40 := by omega
  have hk' : 1 + nn % 40 = (k : Int) := hk.symm
  obtain ⟨a, haa⟩ : ∃ a : Int, a = 1 + at_ % (k : Int) := ⟨_, rfl⟩
  have hmod := Int.emod_lt_of_pos at_ (show (0 : Int) < (k : Int) by omega)
  have hmod0 := Int.emod_nonneg at_ (show (k : Int) ≠ 0 by omega)
  have ha1 : 1 ≤ a ∧ a ≤ k := by omega
  have haa' : 1 + at_ % (k : Int) = a := haa.symm
  have hk0 : ¬ (k : Int) = 0 := by omega
  clear hk haa
  go_enter Try.func3, Try.ntmps3
  go_wp2_with fail
  refine (awake_any _).mono ?_
  rintro e w1 ⟨rfl, hB⟩
  go_wp2_with fail
  refine (sent_any k _ (by omega)).mono ?_
  rintro e w2 ⟨g, rfl, hl, hB2⟩
  have hl := hl.base hB.size
  have hB := hB.trans (hB2.mono hB.size)
  have hp := one_range w2 a a
  have hA1 := (Below.refl w2.heap.size w2).alloc (Nat.le_refl _) (.cells #[.int .u64 a, .int .u64 a] 31)
  have hgl := hl.lt
  have hl1 := hl.below hA1
  clear hB2
  go_wp2_with fail
  refine (ack_ok w.heap.size g (sentL k) (sentN k) 0 false _ 1 1 [(a, a)] _ hl1 (by rw [sentL_len]; omega) (sentL_ok k (by omega)) hp (by decide) (by unfold maxLen; decide) (by simp [badR]) (by unfold sentN; rw [if_neg (by omega)]; simp [farR]; omega) (by rintro b off e rfl; first | (simp at e; done) | (simp at e; omega))).mono ?_
  rintro e w3 ⟨v, rfl, ho, hl3, hg3⟩
  rw [show ackI 0 [(a, a)] = a by simp [ackI]; omega, show (false || decide (0 < 1)) = true by rfl] at hl3
  have hB3 := (hB.trans (hA1.mono hB.size)).grown hg3 (Nat.le_trans hB.size hA1.size) (fun b hb => by injection hb with hb; have := hl.1; omega)
  obtain ⟨A2, cp2, rfl, _⟩ := sl_of_own ho
  clear hp hl1 hA1 hg3 ho hB hl
  have hl4 := hl3.below ((Below.refl w3.heap.size w3).alloc (Nat.le_refl _) (.map #[] 0))
  have hB4 := hB3.alloc hB3.size (.map #[] 0)
  have hM4 := setU_made w3
  have hgl := hl3.lt
  have hgm : some w3.heap.size ≠ some g := by simp; omega
  go_wp2_with fail
  refine (lost_any w.heap.size g _ _ _ true now 1125899906842624 _ hl4 (Nat.le_trans (List.length_filter_le _ _) (by rw [sentL_len]; omega)) (fun p hp => sentL_ok k (by omega) p (List.mem_filter.1 hp).1) hw).mono ?_
  rintro e w5 ⟨v5, rfl, ho5, hl5, hg5⟩
  have hB5 := hB4.grown hg5 hB4.size (fun b hb => by injection hb with hb; have := hl3.1; omega)
  have hM5 := hM4.grown hg5 hgm
  have hmb : w.heap.size ≤ w3.heap.size := hB3.size
  generalize w3.heap.size = mb at *
  clear hl3 hl4 hl5 hg5 hB3 hB4 hM4
  change w5.ownsRow _ 36 4 v5 (threeX k a now).length (pkcells (threeX k a now)) at ho5
  have hxl := three_len k a now
  have hxn := three_num k a now (by omega)
  have hxlaw := Lib.hid (fun i => three_law k a now i)
  obtain ⟨X, hX⟩ : ∃ X, X = threeX k a now := ⟨_, rfl⟩
  rw [← hX] at ho5 hxl hxn hxlaw
  clear hX
  have hne := own_set_ne ho5 hM5
  obtain ⟨A5, cp5, rfl, _, hnc5, hcm5, _⟩ := pks_of_own ho5
  have hcm' : cp5 ≤ 9223372036854775807 := by unfold maxLen at hcm5; omega
  clear hcm5
  have HO := Lib.hid ho5
  clear ho5
  go_wp2_with fail
  go_loopw [45] (fun i wr => ∃ (j : Nat), j ≤ X.length ∧ i = .int .i64 j ∧ SetU wr mb ((X.take j).map Pk.num) ∧ w5.grownBy wr (some mb)) (fun i _ => X.length - (intOf i).toNat)
  case atStart => exact ⟨0, Nat.zero_le _, rfl, hM5, grown_refl _ _⟩
  case round =>
    clear hM5
    obtain ⟨j, hjn, rfl, hM, hG⟩ := hrel
    have hBr := hB5.grown hG hB5.size (fun b hb => by injection hb with hb; omega)
    by_cases hlt : j < X.length
    · have ho := own_grown HO.out hG (.inr hne)
      obtain ⟨_, _, e5, _, _, _, hk5⟩ := pks_of_own ho
      simp only [Value.slice.injEq] at e5
      obtain ⟨rfl, _, rfl⟩ := e5
      obtain ⟨b, off, rfl, hb, c0, c1, c2, c3⟩ := hk5.2 j hlt
      have T : (X.take (j + 1)).map Pk.num = (X.take j).map Pk.num ++ [(X.getD j pk0).num] := by
        have e : X.getD j pk0 = X[j] := by simp [List.getD, hlt]
        rw [e, List.take_succ_eq_append_getElem hlt, List.map_append]
        rfl
      have hpo : PkOk (X.getD j pk0) := by
        have e : X.getD j pk0 = X[j] := by simp [List.getD, hlt]
        rw [e]
        exact hxn _ (List.getElem_mem hlt)
      obtain ⟨p, hp⟩ : ∃ p, p = X.getD j pk0 := ⟨_, rfl⟩
      rw [← hp] at c0 c1 c2 c3 T hpo
      clear hp ho hk5
      obtain ⟨pn, ps, pz, pa⟩ := p
      obtain ⟨hpn, _, _⟩ := hpo
      simp only at c0 c1 c2 c3 T hpn
      obtain ⟨ks, hks⟩ : ∃ ks, ks = (X.take j).map Pk.num := ⟨_, rfl⟩
      have hkl : ks.length < 1000000 := by rw [hks]; simp; omega
      rw [← hks] at hM T
      have HT := Lib.hid T
      clear hks T
      have hM2 : SetU (wr.alloc (.cells #[.int .u64 pn, .int .u64 ps, .int .i64 pz, .bool pa] 36)) mb ks := hM.below ((Below.refl _ _).alloc (Nat.le_refl _) _)
      have hG2 := grown_alloc hG (.cells #[.int .u64 pn, .int .u64 ps, .int .i64 pz, .bool pa] 36)
      go_wp2_with (first | (at_mapUpdate; refine wpList_put_set _ rfl _ _ _ rfl mb ks rfl hM2 hkl pn rfl rfl (by omega) ?_; intro w7 hM7 hg7) | fail)
      have hG7 := grown_trans hG2 hg7
      go_roundw
      case rel => exact ⟨j + 1, by omega, by go_num, by rw [HT.out]; exact hM7, hG7⟩
      case measure => simp [intOf]; omega
    · have htk : X.take j = X := List.take_of_length_le (by omega)
      rw [htk] at hM
      clear htk hG
      obtain ⟨ks, hks⟩ : ∃ ks, ks = X.map Pk.num := ⟨_, rfl⟩
      rw [← hks] at hM hxlaw
      clear hks
      go_wp2_with fail
      go_loopw [15] (fun i wz => ∃ (j : Nat), 1 ≤ j ∧ j ≤ k + 1 ∧ i = .int .u64 j ∧ wz = wr) (fun i _ => k + 1 - (intOf i).toNat)
      case atStart => exact ⟨1, by omega, by omega, rfl, rfl⟩
      case round =>
        obtain ⟨i, hi1, hi2, rfl, rfl⟩ := hrel
        by_cases hik : i ≤ k
        · have hik' : (i : Int) ≤ (k : Int) := by omega
          have T := hxlaw.out i (by omega)
          obtain ⟨B, hBB⟩ : ∃ B, B = ks.contains (i : Int) := ⟨_, rfl⟩
          rw [← hBB] at T
          have HB := Lib.hid hBB
          clear hBB
          obtain ⟨r1, hr1⟩ : ∃ r, r = decide ((i : Int) + 3 ≤ a) := ⟨_, rfl⟩
          obtain ⟨r2, hr2⟩ : ∃ r, r = decide ((i : Int) < a) := ⟨_, rfl⟩
          obtain ⟨r4, hr4⟩ : ∃ r, r = decide (1125899906842624 ≤ now - 5) := ⟨_, rfl⟩
          rw [← hr1, ← hr2, ← hr4] at T
          have h1 := hr1.symm
          have h2 := hr2.symm
          have h4 := hr4.symm
          clear hr1 hr2 hr4
          rcases h3 : decide (5 ≤ now) with _ | _
          all_goals
            rw [h3] at T
            have h5 := h3
            simp only [decide_eq_true_eq, decide_eq_false_iff_not] at h5
            cases r1 <;> cases r2 <;> cases r4
            all_goals
              simp only [Bool.or_true, Bool.or_false, Bool.true_or, Bool.false_or, Bool.and_true, Bool.and_false, Bool.true_and, Bool.false_and] at T
              go_wp2_with (first | (at_lookup; refine wpList_look_set _ rfl _ _ rfl mb ks rfl hM i rfl (by omega) ?_; rw [← HB.out, T]) | fail)
              go_roundw
              case rel => exact ⟨i + 1, by omega, by omega, by go_num, trivial⟩
              case measure => simp [intOf]; omega
        · go_wp2_with fail
          go_ret
          exact ⟨rfl, hBr⟩
open Go.ChangeShapes Go.WideShapes Go.ChangeAt
set_option maxRecDepth 100000 in
theorem three_lifted (os : Os) (started : os.Started) (H : Type) (enc : TypeId × Value → H) :
    ReturnsInHanded {} Try.checked os 3 .any (Rows.lossThreeSpec.pre6 enc Try.prog Try.f3 Rows.lossThreeRow.domain false) (Rows.lossThreeSpec.post enc Try.prog Try.f3 false true false false) := by
  refine returnsInHanded_of_change (C := Try.checked) own started (by kernel_rfl) Try.func3
    (ChangeSpec.witness6 (enc := enc) (C := Try.checked) false ⟨#[], #[.int .u8 0, .int .u8 0, .int .u64 0], []⟩ 8 (by kernel_rfl) (by kernel_rfl) (by kernel_rfl) (by kernel_rfl)) ?_
  intro W base args ds gs before hval0 hW hcnd _
  have hval : ∀ (j : Nat) t v, Try.f3.params[j]? = some t → args[j]? = some v → Value.okWide Try.prog W .any base t v := hval0
  have hW' := hW
  obtain ⟨p, q, hA0, hV, rfl, hfz, hnd⟩ := hW
  have hA : DataW.TrodAll enc Try.prog W 0 (fun _ => true) true Try.f3.params.toList args.toList ds p := hA0
  rw [Try.params3] at hA hval
  obtain ⟨v0, vs0, d0, ds0, p0, q0, hargs, rfl, rfl, h0, r0⟩ := trodAll_cons hA
  obtain ⟨v1, vs1, d1, ds1, p1, q1, rfl, rfl, rfl, h1, r1⟩ := trodAll_cons r0
  obtain ⟨v2, vs2, d2, ds2, p2, q2, rfl, rfl, rfl, h2, r2⟩ := trodAll_cons r1
  obtain ⟨rfl, rfl, rfl⟩ := trodAll_nil r2
  obtain rfl : args = #[v0, v1, v2] := by cases args; simp_all
  obtain ⟨rfl, rfl⟩ := trodVars_none hV
  obtain ⟨a0, rfl, rfl, rfl, w0⟩ := open_int Try.underlying5 (hval 0 5 v0 rfl rfl) h0
  obtain ⟨a1, rfl, rfl, rfl, w1⟩ := open_int Try.underlying5 (hval 1 5 v1 rfl rfl) h1
  obtain ⟨a2, rfl, rfl, rfl, w2⟩ := open_int Try.underlying22 (hval 2 22 v2 rfl rfl) h2
  clear hA0 hval0
  refine (three_walk a0 a1 a2 W (bounds_u8 w0) (bounds_u8 w1) (bounds_u64 w2)).mono fun e W' ⟨he, bel⟩ => ?_
  subst he
  exact ⟨_, rfl, _, _, _, [], _, [], hW', trodAll_mk1 (shut_bool Try.underlying4 _), (trodAll_cons_mk (shut_int Try.underlying5 w0) (trodAll_cons_mk (shut_int Try.underlying5 w1) (trodAll_cons_mk (shut_int Try.underlying22 w2) trodAll_mk0))), rfl, bel.frame _, fun h => by cases h⟩

theorem three_holds : Rows.LossThreeSaid :=
  OpenClaim.holds_of_wide 3 Try.f3 rfl rfl rfl rfl rfl rfl rfl ⟨rfl, rfl, rfl, rfl, rfl⟩ rfl rfl rfl rfl rfl (by kernel_rfl) Try.func3 (by kernel_rfl)
    (of_decide_eq_true (by kernel_rfl)) (by unfold Func.isWrapper; first | (rw [if_pos (by decide +kernel)]; kernel_rfl) | (rw [if_neg (by decide +kernel)]; exact ⟨rfl, rfl⟩))
    (fun os started H enc _ => three_lifted os started H enc)
#print axioms three_holds

end Go.Proofs.Ytohjifbkjfnkfaa
