/-
  LossTime: whoever is below one that came is lost once so many ticks are gone since it was sent; not ahead of that, if it is near; and it is told when that will be. For every input; no condition.
-/
import Derived.Test.YtohjifbkjfnkfaaLtime
namespace Go.Proofs.Ytohjifbkjfnkfaa
open Go.RowKit
set_option linter.unusedVariables false
set_option linter.unusedSimpArgs false


theorem t_in (l : List Int) (n : Nat) (hn : n ≤ 2) : (tL l n ++ [(⟨n, 500, 1, true⟩ : Pk)]).length ≤ 100000 := by simp [tL_len]; omega
theorem t_in_ok (l : List Int) (hl : BytesOk l) (n : Nat) (hn : n ≤ 2) : ∀ p ∈ tL l n ++ [(⟨n, 500, 1, true⟩ : Pk)], PkOk p := by
  intro p hp
  rcases List.mem_append.1 hp with hp | hp
  · exact tL_ok l hl n (by omega) p hp
  · simp at hp
    subst hp
    refine ⟨⟨?_, ?_⟩, ⟨?_, ?_⟩, ?_, ?_⟩ <;> simp <;> omega
theorem fil_ok {L : List Pk} (h : ∀ p ∈ L, PkOk p) (f : Pk → Bool) : ∀ p ∈ L.filter f, PkOk p := fun p hp => h p (List.mem_filter.1 hp).1
set_option maxHeartbeats 4000000 in
set_option maxRecDepth 100000 in
theorem time_walk (v : Value) (l : List Int) (wt : Int) (w : World) (hr : Rd w .u8 v l) (hl : BytesOk l) (hw : 0 ≤ wt ∧ wt ≤ 65535) :
    Calls Try.prog 4 #[v, .int .u16 wt] w fun e w' => e = .returned (.bool true) ∧ Below w.heap.size w w' := by
  obtain ⟨A, cap, rfl⟩ := hr.form
  obtain ⟨_, _, hlc, hcm, _⟩ := hr.rdv
  have hcm' : cap ≤ 9223372036854775807 := by unfold maxLen at hcm; omega
  clear hcm
  have HR := Lib.hid hr
  have HL := Lib.hid hl
  clear hr hl
  obtain ⟨n, hn⟩ : ∃ n : Nat, n = if 2 < l.length then 2 else l.length := ⟨_, rfl⟩
  have hn2 : n ≤ 2 := by rw [hn]; split <;> omega
  have hnl : n ≤ l.length := by rw [hn]; split <;> omega
  have hm1 : (if (2 : Int) < (l.length : Int) then 2 else (l.length : Int)) = (n : Int) := by rw [hn]; split <;> split <;> omega
  have hm2 : (if (l.length : Int) < 2 then (l.length : Int) else 2) = (n : Int) := by rw [hn]; split <;> split <;> omega
  clear hn
  go_enter Try.func4, Try.ntmps4
  go_wp2_with fail
  refine (awake_any _).mono ?_
  rintro e w1 ⟨rfl, hB⟩
  have hBs := hB.size
  go_wp2_with fail
  refine (new_any _).mono ?_
  rintro e w2 ⟨g, rfl, hl2, hB2⟩
  have hB := hB.trans (hB2.mono hB.size)
  have hl2 := hl2.base hBs
  go_wp2_with fail
  go_loopw [7, 20] (fun fs i wr => ∃ (k : Nat), k ≤ n ∧ fs = .int .u64 (tF l k) ∧ i = .int .u64 k ∧ Led w.heap.size wr g (tL l k) k 0 false ∧ Below w.heap.size w wr) (fun _ i _ => n - (intOf i).toNat)
  case atStart => exact ⟨0, Nat.zero_le _, rfl, rfl, hl2, hB⟩
  case round =>
    clear hl2 hB hB2
    obtain ⟨k, hkn, rfl, rfl, hl, hB⟩ := hrel
    have hF := tF_ok l HL.out k
    by_cases hlt : k < n
    · obtain ⟨b, off, rfl, hb, c0⟩ := (HR.out.below hB).at_ k (by omega)
      have hs := send_ok w.heap.size g (tL l k) k 0 false (tP l k) wr hl hB.size (by rw [tL_len]; omega) (tP_ok l HL.out k (by omega)) (by simp [tP])
      have T := tF_snoc l k
      have hx := HL.out.getD k
      unfold tP Pk.agg at hs
      simp only at hs
      obtain ⟨x, hxx⟩ : ∃ x, x = l.getD k 0 := ⟨_, rfl⟩
      rw [← hxx] at hs c0 T hx
      obtain ⟨m, hmm⟩ : ∃ m, m = tF l k := ⟨_, rfl⟩
      rw [← hmm] at hF T ⊢
      obtain ⟨m', hmm'⟩ : ∃ m', m' = tF l (k + 1) := ⟨_, rfl⟩
      have e1 : (if m < 100 + x then m else 100 + x) = m' := by rw [hmm', T]; split <;> omega
      have e2 : (if 100 + x < m then 100 + x else m) = m' := by rw [hmm', T]; split <;> omega
      have HM := Lib.hid hmm'
      have HX := Lib.hid hxx
      clear hmm hmm' T hxx
      go_wp2_with fail
      refine hs.mono ?_
      rintro e w4 ⟨rfl, hl4, hB4, _⟩
      have hl5 : Led w.heap.size w4 g (tL l (k + 1)) ((k + 1 : Nat) : Int) 0 false := by
        rw [tL_snoc]
        unfold tP
        rw [← HX.out]
        simpa using hl4
      have hB5 := hB.trans hB4
      clear hs hl hl4 hB4 c0
      go_wp2_with fail
      go_roundw
      case rel => exact ⟨k + 1, by omega, by rw [← HM.out], by go_num, hl5, hB5⟩
      case measure => simp [intOf]; omega
    · obtain rfl : k = n := by omega
      have hs := send_ok w.heap.size g (tL l k) k 0 false ⟨k, 500, 1, true⟩ wr hl hB.size (by rw [tL_len]; omega) (by refine ⟨⟨?_, ?_⟩, ⟨?_, ?_⟩, ?_, ?_⟩ <;> simp <;> omega) (by simp)
      unfold Pk.agg at hs
      simp only at hs
      obtain ⟨m, hmm⟩ : ∃ m, m = tF l k := ⟨_, rfl⟩
      rw [← hmm] at hF ⊢
      have HM := Lib.hid hmm
      clear hmm
      go_wp2_with fail
      refine hs.mono ?_
      rintro e w4 ⟨rfl, hl4, hB4, _⟩
      have hB4 := hB.trans hB4
      clear hs hl hB
      have hp := one_range w4 k k
      have hA1 := (Below.refl w4.heap.size w4).alloc (Nat.le_refl _) (.cells #[.int .u64 k, .int .u64 k] 31)
      have hgl := hl4.lt
      have hBg := hl4.1
      have hl1 := hl4.below hA1
      go_wp2_with fail
      refine (ack_ok w.heap.size g _ (k + 1) 0 false _ 1 1 [((k : Int), (k : Int))] _ hl1 (t_in l k hn2) (t_in_ok l HL.out k hn2) hp (by decide) (by unfold maxLen; decide) (by simp [badR]) (by simp [farR]; omega) (by rintro b off e rfl; first | (simp at e; done) | (simp at e; omega))).mono ?_
      rintro e w5 ⟨v, rfl, ho, hl5, hg5⟩
      rw [t_ack l k hn2, show ackI 0 [((k : Int), (k : Int))] = k by simp [ackI], show (false || decide (0 < 1)) = true by rfl] at hl5
      have hB5 := (hB4.trans (hA1.mono hB4.size)).grown hg5 (Nat.le_trans hB4.size hA1.size) (fun b hb => by injection hb with hb; omega)
      obtain ⟨A2, cp2, rfl, _⟩ := sl_of_own ho
      clear hp hl4 hl1 hA1 hg5 ho hB4
      go_wp2_with fail
      refine (due_any w.heap.size g _ (k + 1) k true wt _ hl5 (tL_ok l HL.out k (by omega)) hw.1).mono ?_
      rintro e w6 ⟨rfl, hb6⟩
      have hl6 := hl5.below hb6
      have hB6 := hB5.trans (hb6.mono hB5.size)
      rw [show wtI wt = wt by unfold wtI; rw [if_pos (by omega)]]
      clear hl5 hb6 hB5
      by_cases hk0 : k = 0
      · have e0 : dueF k true wt (tL l k) = (0, false) := by subst hk0; rfl
        have e1 : (tL l k).filter (lostF true k 1099511627776 0) = [] := by subst hk0; rfl
        have hk0 : (k : Int) = 0 := by omega
        rw [e0]
        have E1 := Lib.hid e1
        clear e0 e1
        go_wp2_with fail
        refine (lost_any w.heap.size g _ _ _ true 1099511627776 0 _ hl6 (by rw [tL_len]; omega) (tL_ok l HL.out k (by omega)) (by decide)).mono ?_
        rintro e w7 ⟨v7, rfl, ho7, hl7, hg7⟩
        rw [E1.out] at ho7
        obtain ⟨A7, cp7, rfl, _⟩ := sl_of_own ho7
        have hB7 := hB6.grown hg7 hB6.size (fun b hb => by injection hb with hb; omega)
        go_wp2_with fail
        go_ret
        exact ⟨rfl, hB7⟩
      · obtain ⟨q1, q2, q3, q4, q5⟩ := time_law l HL.out k (by omega) wt hw
        rw [q1]
        rw [← HM.out] at q1 q2 q3 q4 q5 ⊢
        simp only
        have hk1 : 0 < (k : Int) := by omega
        have hk2 : ¬ (k : Int) = 0 := by omega
        have q2 := Lib.hid q2
        have q3 := Lib.hid q3
        have q4 := Lib.hid q4
        have q5 := Lib.hid q5
        clear q1 
        go_wp2_with fail
        refine (lost_any w.heap.size g _ _ _ true (m + wt - 1) wt _ hl6 (by rw [tL_len]; omega) (tL_ok l HL.out k (by omega)) (by omega)).mono ?_
        rintro e w7 ⟨v7, rfl, ho7, hl7, hg7⟩
        rw [q2.out] at ho7
        rw [q3.out] at hl7
        obtain ⟨A7, cp7, rfl, _⟩ := sl_of_own ho7
        have hB7 := hB6.grown hg7 hB6.size (fun b hb => by injection hb with hb; omega)
        clear hl6 hg7 hB6 ho7
        go_wp2_with fail
        refine (lost_any w.heap.size g _ _ _ true (m + wt) wt _ hl7 (by rw [tL_len]; omega) (tL_ok l HL.out k (by omega)) (by omega)).mono ?_
        rintro e w8 ⟨v8, rfl, ho8, hl8, hg8⟩
        have q4 := q4.out
        have q5 := q5.out
        have hl8k := fil_ok (tL_ok l HL.out k (by omega)) (fun p => !(lostF true k (m + wt) wt) p)
        have hl8n : ((tL l k).filter (fun p => !(lostF true k (m + wt) wt) p)).length ≤ 100000 := Nat.le_trans (List.length_filter_le _ _) (by rw [tL_len]; omega)
        obtain ⟨X, hX⟩ : ∃ X, X = (tL l k).filter (lostF true k (m + wt) wt) := ⟨_, rfl⟩
        obtain ⟨Y, hY⟩ : ∃ Y, Y = (tL l k).filter (fun p => !(lostF true k (m + wt) wt) p) := ⟨_, rfl⟩
        rw [← hX] at ho8 q4
        rw [← hY] at hl8 q5 hl8k hl8n
        clear hX hY
        obtain ⟨A8, cp8, rfl, _⟩ := sl_of_own ho8
        have hB8 := hB7.grown hg8 hB7.size (fun b hb => by injection hb with hb; omega)
        clear hl7 hg8 hB7 ho8
        go_wp2_with fail
        refine (lost_any w.heap.size g _ _ _ true 2199023255552 wt _ hl8 hl8n hl8k (by omega)).mono ?_
        rintro e w9 ⟨v9, rfl, ho9, hl9, hg9⟩
        obtain ⟨Z, hZ⟩ : ∃ Z, Z = Y.filter (lostF true k 2199023255552 wt) := ⟨_, rfl⟩
        rw [← hZ] at ho9 q5
        clear hZ
        obtain ⟨A9, cp9, rfl, _⟩ := sl_of_own ho9
        have hB9 := hB8.grown hg9 hB8.size (fun b hb => by injection hb with hb; omega)
        clear hl8 hg9 hB8 ho9 hl9
        have q6 : (Z.length : Int) + 1 ≤ (k : Int) := by omega
        go_wp2_with fail
        go_ret
        exact ⟨rfl, hB9⟩
open Go.ChangeShapes Go.WideShapes Go.ChangeAt
set_option maxRecDepth 100000 in
theorem time_lifted (os : Os) (started : os.Started) (H : Type) (enc : TypeId × Value → H) :
    ReturnsInHanded {} Try.checked os 4 .any (Rows.lossTimeSpec.pre6 enc Try.prog Try.f4 Rows.lossTimeRow.domain false) (Rows.lossTimeSpec.post enc Try.prog Try.f4 false true false false) := by
  refine returnsInHanded_of_change (C := Try.checked) own started (by kernel_rfl) Try.func4
    (ChangeSpec.witness6 (enc := enc) (C := Try.checked) false ⟨#[], #[.slice none 0 0, .int .u16 0], []⟩ 8 (by kernel_rfl) (by kernel_rfl) (by kernel_rfl) (by kernel_rfl)) ?_
  intro W base args ds gs before hval0 hW hcnd _
  have hval : ∀ (j : Nat) t v, Try.f4.params[j]? = some t → args[j]? = some v → Value.okWide Try.prog W .any base t v := hval0
  have hW' := hW
  obtain ⟨p, q, hA0, hV, rfl, hfz, hnd⟩ := hW
  have hA : DataW.TrodAll enc Try.prog W 0 (fun _ => true) true Try.f4.params.toList args.toList ds p := hA0
  rw [Try.params4] at hA hval
  obtain ⟨v0, vs0, d0, ds0, p0, q0, hargs, rfl, rfl, h0, r0⟩ := trodAll_cons hA
  obtain ⟨v1, vs1, d1, ds1, p1, q1, rfl, rfl, rfl, h1, r1⟩ := trodAll_cons r0
  obtain ⟨rfl, rfl, rfl⟩ := trodAll_nil r1
  obtain rfl : args = #[v0, v1] := by cases args; simp_all
  obtain ⟨rfl, rfl⟩ := trodVars_none hV
  obtain ⟨A0, len0, cap0, rfl⟩ := okWide_slice Try.underlying38 (hval 0 38 v0 rfl rfl)
  have k0 := h0
  have lt0 : ∀ x ∈ p0, x.block < W.heap.size := by obtain ⟨m, hm⟩ := k0; exact DataW.trod_lt m _ _ _ hm
  obtain ⟨l0, hR0, hK0⟩ := bytes_of h0
  obtain ⟨a1, rfl, rfl, rfl, w1⟩ := open_int Try.underlying39 (hval 1 39 v1 rfl rfl) h1
  clear hA0 hval0
  refine (time_walk _ l0 a1 W hR0 hK0 (bounds_u16 w1)).mono fun e W' ⟨he, bel⟩ => ?_
  subst he
  exact ⟨_, rfl, _, _, _, [], _, [], hW', trodAll_mk1 (shut_bool Try.underlying4 _), (trodAll_cons_mk (Below.trod laidOut (by kernel_rfl) (of_decide_eq_true (by kernel_rfl)) k0 bel lt0) (trodAll_cons_mk (shut_int Try.underlying39 w1) trodAll_mk0)), rfl, bel.frame _, fun h => by cases h⟩

theorem time_holds : Rows.LossTimeSaid :=
  OpenClaim.holds_of_wide 4 Try.f4 rfl rfl rfl rfl rfl rfl rfl ⟨rfl, rfl, rfl, rfl, rfl⟩ rfl rfl rfl rfl rfl (by kernel_rfl) Try.func4 (by kernel_rfl)
    (of_decide_eq_true (by kernel_rfl)) (by unfold Func.isWrapper; first | (rw [if_pos (by decide +kernel)]; kernel_rfl) | (rw [if_neg (by decide +kernel)]; exact ⟨rfl, rfl⟩))
    (fun os started H enc _ => time_lifted os started H enc)
#print axioms time_holds

end Go.Proofs.Ytohjifbkjfnkfaa
