/-
  SpanOrder: in whatever order ranges come, and however often, the set is the same. For every input; no condition.
-/
import Derived.Test.YtcmkegkljappfaaSawake
namespace Go.Proofs.Ytcmkegkljappfaa
open Go.RowKit
set_option linter.unusedVariables false
set_option linter.unusedSimpArgs false


theorem below_pre {B : Nat} {w w' : World} (h : Below B w.drew w') : Below B w w' := ⟨h.os, h.tape, h.output, h.size, h.block⟩
theorem nm_pos {L : List (Int × Int)} (h : Nm 0 L) : ∀ r ∈ L, 0 ≤ r.1 ∧ r.1 ≤ r.2 ∧ r.2 ≤ MX := by
  have key : ∀ (L : List (Int × Int)) (b : Int), 0 ≤ b → Nm b L → ∀ r ∈ L, 0 ≤ r.1 ∧ r.1 ≤ r.2 ∧ r.2 ≤ MX := by
    intro L
    induction L with
    | nil => intro b _ _ r hr; simp at hr
    | cons q T ih =>
      rintro b hb ⟨h1, h2, h3, h4⟩ r hr
      rcases List.mem_cons.1 hr with rfl | hr
      · exact ⟨by omega, h2, h3⟩
      · exact ih _ (by omega) h4 r hr
  exact key L 0 (Int.le_refl _) h
theorem adE_nm {L : List (Int × Int)} (h : Nm 0 L) : ∀ r ∈ L, adE r.1 r.2 = 0 := by
  intro r hr
  have := nm_pos h r hr
  unfold adE
  rw [if_neg (by omega)]
/-- All ranges of a set, added to none, are the set. -/
theorem adA_self {L K : List (Int × Int)} (h : Nm 0 L) (hK : ∀ r, r ∈ K ↔ r ∈ L) : adA [] K = L := by
  have hp : ∀ r ∈ K, 0 ≤ r.1 := fun r hr => (nm_pos h r ((hK r).1 hr)).1
  refine nm_one (adA_nm (L := []) K trivial hp) h fun n => ?_
  rw [adA_mem (L := []) K trivial hp n]
  constructor
  · rintro (h1 | ⟨r, hr, _, h2⟩)
    · exact absurd h1 Mm.nil
    · exact ⟨r, (hK r).1 hr, h2⟩
  · rintro ⟨r, hr, h2⟩
    exact .inr ⟨r, (hK r).2 hr, adE_nm h r hr, h2⟩
theorem rgL_mem {m : Int} {L : List (Int × Int)} (h : (L.length : Int) ≤ m) (r : Int × Int) : r ∈ rgL m L ↔ r ∈ L := by
  unfold rgL
  rw [List.take_of_length_le (by simp; omega)]
  simp
theorem rgL_ok {m : Int} {L : List (Int × Int)} (h : Nm 0 L) : PairsOk (rgL m L) := by
  intro r hr
  have hr' : r ∈ L := by
    have := List.mem_of_mem_take hr
    simpa using this
  have := nm_pos h r hr'
  simp only [MX] at this
  omega
theorem rgL_len {m : Int} {L : List (Int × Int)} : (rgL m L).length ≤ L.length := by
  unfold rgL
  rw [List.length_take, List.length_reverse]
  omega
/-- What of a list of ranges counts. -/
def Vm (l : List (Int × Int)) (n : Int) : Prop := ∃ r ∈ l, adE r.1 r.2 = 0 ∧ r.1 ≤ n ∧ n ≤ r.2
theorem Vm.cons {x : Int × Int} {l : List (Int × Int)} {n : Int} : Vm (x :: l) n ↔ (adE x.1 x.2 = 0 ∧ x.1 ≤ n ∧ n ≤ x.2) ∨ Vm l n := by
  unfold Vm
  simp only [List.mem_cons, exists_eq_or_imp]
set_option maxHeartbeats 4000000 in
set_option maxRecDepth 100000 in
theorem order_walk (v : Value) (l0 : List (Int × Int)) (w : World) (hv : RdP w v l0) (hl : PairsOk l0) :
    Calls Try.prog 3 #[v] w fun e w' => e = .returned (.bool true) ∧ Below w.heap.size w w' := by
  obtain ⟨A, cap, rfl⟩ := hv.form
  obtain ⟨_, _, hnc, hcm, _⟩ := hv.parts
  have hcm' : cap ≤ 9223372036854775807 := by unfold maxLen at hcm; omega
  clear hcm
  obtain ⟨N, hN⟩ : ∃ N, N = l0.length := ⟨_, rfl⟩
  rw [← hN] at hnc hv ⊢
  obtain ⟨m, hm⟩ : ∃ m : Nat, m = if N < 30 then N else 30 := ⟨_, rfl⟩
  have hm6 : m ≤ N ∧ m ≤ 30 := by rw [hm]; split <;> omega
  have hm1 : (if (30 : Int) < (N : Int) then 30 else (N : Int)) = (m : Int) := by rw [hm]; split <;> split <;> omega
  have hm2 : (if (N : Int) < 30 then (N : Int) else 30) = (m : Int) := by rw [hm]; split <;> split <;> omega
  have hmc : m ≤ cap := by omega
  have hmc' : (m : Int) ≤ (cap : Int) := by omega
  have hpre := hv.pre (m := m) (by omega)
  have hlok := hl.take m
  obtain ⟨l, hl'⟩ : ∃ l, l = l0.take m := ⟨_, rfl⟩
  have hlen : l.length = m := by rw [hl']; simp; omega
  rw [← hl'] at hpre hlok
  clear hv hl hl' hm hN
  obtain ⟨hm6a, hm6b⟩ := hm6
  have HV := Lib.hid hpre
  have HL := Lib.hid hlok
  have HN := Lib.hid hlen
  have hl0 : ∀ r ∈ l, 0 ≤ r.1 := fun r hr => (hlok r hr).1.1
  have HP := Lib.hid hl0
  clear hpre hlok hlen hl0
  go_enter Try.func3, Try.ntmps3
  go_wp2_with fail
  refine (awake_any _).mono ?_
  rintro e w1 ⟨rfl, hB1⟩
  go_wp2_with fail
  refine (new_any _ l _ (HV.out.below hB1) HL.out (by rw [HN.out]; omega)).mono ?_
  rintro e w2 ⟨ga, ra, rfl, hsa, hb2⟩
  have hsa := hsa.base hB1.size
  have hB2 := hB1.trans (hb2.mono hB1.size)
  clear hB1 hb2 hm1 hm2
  go_wp2_with fail
  refine (new_any _ [] _ (RdP.nil _) (fun p hp => by simp at hp) (by decide)).mono ?_
  rintro e w3 ⟨gb, rb, rfl, hsb, hb3⟩
  have hw1 : IntKind.i64.wrap ((m : Int) - 1) = (m : Int) - 1 := Go.IntWalk.i64_in _ (by omega)
  go_wp2_with fail
  go_loopw [5] (fun s5 wr => ∃ (j : Nat) (rbb : Option Nat) (Lb : List (Int × Int)), j ≤ m ∧ s5 = .int .i64 ((j : Int) - 1) ∧ SetR w2.heap.size wr gb rbb Lb ∧ Below w2.heap.size w2 wr ∧ Nm 0 Lb ∧ Lb.length ≤ 2 * (m - j) ∧ Hid (∀ n, Mm Lb n ↔ Vm (l.drop j) n)) (fun s5 _ => (intOf s5 + 1).toNat)
  case atStart => exact ⟨m, rb, [], Nat.le_refl _, rfl, hsb, hb3, trivial, by simp, Lib.hid fun n => by rw [List.drop_eq_nil_of_le (by rw [HN.out]; omega)]; simp [Mm.nil, Vm]⟩
  case round =>
    clear hsb hb3 hw1
    obtain ⟨j, rbb, Lb, hjm, rfl, hsb, hb3, hnb, hlb, HM⟩ := hrel
    rcases j with _ | j
    · have hneg : decide (0 ≤ ((0 : Nat) : Int) - 1) = false := by decide
      have hLb : Lb = adA [] l := nm_one hnb (adA_nm (L := []) l trivial HP.out) fun n => by rw [HM.out n, adA_mem (L := []) l trivial HP.out n]; simp [Mm.nil, Vm]
      have hla : (adA [] l).length ≤ 30 := by have := adA_len [] l; rw [HN.out] at this; simp at this; omega
      have hna := adA_nm (L := []) l trivial HP.out
      subst hLb
      have hsa3 := hsa.below hb3
      have hB3 := hB2.trans (hb3.mono hB2.size)
      obtain ⟨AA, hAA⟩ : ∃ AA, AA = adA [] l := ⟨_, rfl⟩
      rw [← hAA] at hsa3 hsb hla hna
      have hself : adA [] (rgL 1000 AA) = AA := adA_self hna (rgL_mem (by omega))
      have hrok := rgL_ok (m := 1000) hna
      have hrlen := rgL_len (m := 1000) (L := AA)
      have HS := Lib.hid hself
      clear hAA hself hsa hb3 HM hnb hlb
      go_wp2_with fail
      refine (ranges_any _ ga ra AA 1000 _ hsa3 (by omega)).mono ?_
      rintro e w4 ⟨v4, rfl, ho4, hb4⟩
      have hr4 := rdp_of_own ho4
      have hsa4 := hsa3.below hb4
      have hsb4 := hsb.below hb4
      have hB4 := hB3.trans (hb4.mono hB3.size)
      clear hsa3 hsb hb4 hB3 ho4
      go_wp2_with fail
      refine (ranges_any _ gb rbb AA 1000 _ hsb4 (by omega)).mono ?_
      rintro e w5 ⟨v5, rfl, ho5, hb5⟩
      have hr5 := rdp_of_own ho5
      have hr4 := hr4.below hb5
      have hsa5 := hsa4.below hb5
      have hB5 := hB4.trans (hb5.mono hB4.size)
      clear hsa4 hsb4 hb5 hB4 ho5
      go_wp2_with fail
      refine (sameR_yes v4 v5 _ _ hr4 hr5).mono ?_
      rintro e w6 ⟨rfl, nd, rfl⟩
      have hsa6 := hsa5.drewN nd
      have hB6 := below_drewN hB5 nd
      clear hr4 hr5 hsa5 hB5
      go_wp2_with fail
      refine (ranges_any _ ga ra AA 1000 _ hsa6 (by omega)).mono ?_
      rintro e w7 ⟨v7, rfl, ho7, hb7⟩
      have hr7 := rdp_of_own ho7
      have hsa7 := hsa6.below hb7
      have hB7 := hB6.trans (hb7.mono hB6.size)
      clear hsa6 hb7 hB6 ho7
      go_wp2_with fail
      refine (new_any v7 _ _ hr7 hrok (by omega)).mono ?_
      rintro e w8 ⟨gc, rc, rfl, hsc, hb8⟩
      rw [HS.out] at hsc
      have hsa8 := hsa7.below hb8
      have hB8 := hB7.trans (hb8.mono hB7.size)
      clear hsa7 hb8 hB7 hr7
      go_wp2_with fail
      refine (ranges_any _ gc rc AA 1000 _ hsc (by omega)).mono ?_
      rintro e w9 ⟨v9, rfl, ho9, hb9⟩
      have hr9 := rdp_of_own ho9
      have hsa9 := hsa8.below hb9
      have hB9 := hB8.trans (hb9.mono hB8.size)
      clear hsa8 hb9 hB8 ho9 hsc
      go_wp2_with fail
      refine (ranges_any _ ga ra AA 1000 _ hsa9 (by omega)).mono ?_
      rintro e w10 ⟨v10, rfl, ho10, hb10⟩
      have hr10 := rdp_of_own ho10
      have hr9 := hr9.below hb10
      have hB10 := hB9.trans (hb10.mono hB9.size)
      clear hsa9 hb10 hB9 ho10
      go_wp2_with fail
      refine (sameR_yes v9 v10 _ _ hr9 hr10).mono ?_
      rintro e w11 ⟨rfl, nd2, rfl⟩
      go_wp2_with fail
      go_ret
      exact ⟨rfl, below_drewN hB10 _⟩
    · have hj1 : ((j + 1 : Nat) : Int) - 1 = (j : Int) := by omega
      rw [hj1]
      clear hj1
      have hB3 := hB2.trans (hb3.mono hB2.size)
      obtain ⟨bb, off, rfl, hbb, d0, d1⟩ := (HV.out.below hB3).get j (by omega)
      have hdr : l.drop j = l.getD j (0, 0) :: l.drop (j + 1) := by
        have hjl : j < l.length := by rw [HN.out]; omega
        rw [List.drop_eq_getElem_cons hjl]
        simp [List.getD, hjl]
      have hx0 := HL.out.getD j
      obtain ⟨x, hx⟩ : ∃ x, x = l.getD j (0, 0) := ⟨_, rfl⟩
      rw [← hx] at d0 d1 hdr hx0
      have HDR := Lib.hid hdr
      clear hx hdr
      obtain ⟨xa, xb⟩ := x
      simp only at d0 d1 hx0
      have hbw := World.block_lt_of_cell? _ _ d0
      have hbb2 : bb < w2.heap.size := by
        obtain ⟨bb2, off2, e2, hlt2, _⟩ := (HV.out.below hB2).get j (by omega)
        injection e2 with e2
        injection e2 with e3 e4
        omega
      obtain ⟨⟨hxa0, hxa1⟩, _, _⟩ := hx0
      have hnm1 := adN_nm (t := xb) hnb hxa0
      have hnm2 := adN_nm (t := xb) hnm1 hxa0
      have hl1 := adN_len xa xb Lb
      have hl2 := adN_len xa xb (adN xa xb Lb)
      have hmem : ∀ n, Mm (adN xa xb (adN xa xb Lb)) n ↔ Vm (l.drop j) n := by
        intro n
        rw [adN_mem hnm1 hxa0, adN_mem hnb hxa0, HM.out n, HDR.out, Vm.cons]
        constructor
        · rintro ((h | h) | h)
          · exact .inr h
          · exact .inl h
          · exact .inl h
        · rintro (h | h)
          · exact .inr h
          · exact .inl (.inl h)
      have HMM := Lib.hid hmem
      have hjm2 : j + 1 ≤ m := hjm
      have hnb1 : Lb.length ≤ 1000000 := by omega
      have hnb2 : (adN xa xb Lb).length ≤ 1000000 := by omega
      have hszw := hb3.size
      have hszwd : w2.heap.size ≤ wr.drew.heap.size := hszw
      have hjl1 : j < m := by omega
      have hjl2 : (j : Int) < (m : Int) := by omega
      clear hmem HM
      have hw2 : IntKind.i64.wrap ((j : Int) - 1) = (j : Int) - 1 := Go.IntWalk.i64_in _ (by omega)
      go_wp2_with fail
      go_region_held3 (fun w' => w'.cell? ⟨bb, off + j * 2, none⟩ = some (.int .u64 xa) ∧ w'.cell? ⟨bb, off + j * 2 + 1, none⟩ = some (.int .u64 xb)) (first | with_reducible exact ⟨d0, d1⟩ | with_reducible exact ⟨e0, e1⟩ | exact ⟨e0, e1⟩ | exact ⟨d0, d1⟩)
        (first | (go_at_call 11; (first | (with_reducible refine (add_any w2.heap.size gb rbb xa xb Lb _ hsb hnb hnb1 hszw hxa0).mono ?_) | (with_reducible refine (add_any w2.heap.size gb rbb xa xb Lb _ hsb.drew hnb hnb1 hszwd hxa0).mono ?_)); rintro e w5 ⟨rb5, rfl, hs5, ho5, hr5⟩; have hB5 : Below w2.heap.size _ w5 := ho5.below hsb.1 (fun b hb => (hsb.rlt b hb).1) (by first | exact hszw | exact hszwd); have e0 := (hB5.cell (p := ⟨bb, off + j * 2, none⟩) hbb2).trans d0; have e1 := (hB5.cell (p := ⟨bb, off + j * 2 + 1, none⟩) hbb2).trans d1))
      all_goals
        have hb5 : Below w2.heap.size w2 w5 := by first | exact hb3.trans hB5 | exact hb3.trans (below_pre hB5)
        have hszw5 := hb5.size
        have hszw5d : w2.heap.size ≤ w5.drew.heap.size := hszw5
        have d0 := e0
        have d1 := e1
        clear e0 e1 ho5 hB5 hsb hb3
        go_wp2_with fail
        go_region_held3 (fun w' => w'.cell? ⟨bb, off + j * 2, none⟩ = some (.int .u64 xa) ∧ w'.cell? ⟨bb, off + j * 2 + 1, none⟩ = some (.int .u64 xb)) (first | with_reducible exact ⟨d0, d1⟩ | with_reducible exact ⟨e0, e1⟩ | exact ⟨e0, e1⟩ | exact ⟨d0, d1⟩)
          (first | (go_at_call 11; (first | (with_reducible refine (add_any w2.heap.size gb rb5 xa xb (adN xa xb Lb) _ hs5 hnm1 hnb2 hszw5 hxa0).mono ?_) | (with_reducible refine (add_any w2.heap.size gb rb5 xa xb (adN xa xb Lb) _ hs5.drew hnm1 hnb2 hszw5d hxa0).mono ?_)); rintro e w6 ⟨rb6, rfl, hs6, ho6, hr6⟩; have hB6 : Below w2.heap.size _ w6 := ho6.below hs5.1 (fun b hb => (hs5.rlt b hb).1) (by first | exact hszw5 | exact hszw5d); have e0 := (hB6.cell (p := ⟨bb, off + j * 2, none⟩) hbb2).trans d0; have e1 := (hB6.cell (p := ⟨bb, off + j * 2 + 1, none⟩) hbb2).trans d1))
        all_goals
          have hb6 : Below w2.heap.size w2 w6 := by first | exact hb5.trans hB6 | exact hb5.trans (below_pre hB6)
          clear d0 d1 e0 e1 ho6 hB6 hs5 hb5
          go_wp2_with fail
          go_roundw
          case rel => exact ⟨j, rb6, _, by omega, rfl, hs6, hb6, hnm2, by omega, HMM⟩
          case measure => simp [intOf] <;> omega
open Go.ChangeShapes Go.WideShapes Go.ChangeAt
set_option maxRecDepth 100000 in
theorem order_lifted (os : Os) (started : os.Started) (H : Type) (enc : TypeId × Value → H) :
    ReturnsInHanded {} Try.checked os 3 .any (Rows.spanOrderSpec.pre6 enc Try.prog Try.f3 Rows.spanOrderRow.domain false) (Rows.spanOrderSpec.post enc Try.prog Try.f3 false true false false) := by
  refine returnsInHanded_of_change (C := Try.checked) own started (by kernel_rfl) Try.func3
    (ChangeSpec.witness6 (enc := enc) (C := Try.checked) false ⟨#[], #[.slice none 0 0], []⟩ 8 (by kernel_rfl) (by kernel_rfl) (by kernel_rfl) (by kernel_rfl)) ?_
  intro W base args ds gs before hval0 hW hcnd _
  have hval : ∀ (j : Nat) t v, Try.f3.params[j]? = some t → args[j]? = some v → Value.okWide Try.prog W .any base t v := hval0
  have hW' := hW
  obtain ⟨p, q, hA0, hV, rfl, hfz, hnd⟩ := hW
  have hA : DataW.TrodAll enc Try.prog W 0 (fun _ => true) true Try.f3.params.toList args.toList ds p := hA0
  rw [Try.params3] at hA hval
  obtain ⟨v0, vs0, d0, ds0, p0, q0, hargs, rfl, rfl, h0, r0⟩ := trodAll_cons hA
  obtain ⟨rfl, rfl, rfl⟩ := trodAll_nil r0
  obtain rfl : args = #[v0] := by cases args; simp_all
  obtain ⟨rfl, rfl⟩ := trodVars_none hV
  obtain ⟨A0, len0, cap0, rfl⟩ := okWide_slice Try.underlying22 (hval 0 22 v0 rfl rfl)
  have k0 := h0
  have lt0 : ∀ x ∈ p0, x.block < W.heap.size := by obtain ⟨m, hm⟩ := k0; exact DataW.trod_lt m _ _ _ hm
  obtain ⟨R0, hR0, hO0⟩ := rdp_of k0
  clear hA0 hval0
  refine (order_walk _ _ W hR0 hO0).mono fun e W' ⟨he, bel⟩ => ?_
  subst he
  exact ⟨_, rfl, _, _, _, [], _, [], hW', trodAll_mk1 (shut_bool Try.underlying4 _), (trodAll_cons_mk (Below.trod laidOut (by kernel_rfl) (of_decide_eq_true (by kernel_rfl)) k0 bel lt0) trodAll_mk0), rfl, bel.frame _, fun h => by cases h⟩

theorem order_holds : Rows.SpanOrderSaid :=
  OpenClaim.holds_of_wide 3 Try.f3 rfl rfl rfl rfl rfl rfl rfl ⟨rfl, rfl, rfl, rfl, rfl⟩ rfl rfl rfl rfl rfl (by kernel_rfl) Try.func3 (by kernel_rfl)
    (of_decide_eq_true (by kernel_rfl)) (by unfold Func.isWrapper; first | (rw [if_pos (by decide +kernel)]; kernel_rfl) | (rw [if_neg (by decide +kernel)]; exact ⟨rfl, rfl⟩))
    (fun os started H enc _ => order_lifted os started H enc)
#print axioms order_holds

end Go.Proofs.Ytcmkegkljappfaa
