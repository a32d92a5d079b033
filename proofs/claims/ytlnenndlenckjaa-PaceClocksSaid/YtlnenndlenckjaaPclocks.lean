/-
  PaceClocks: behind any samples the clock tells what the document says, and how long it waits. For every input; no condition.
-/
import Derived.Test.YtlnenndlenckjaaPwait
namespace Go.Proofs.Ytlnenndlenckjaa
open Go.RowKit
set_option linter.unusedVariables false
set_option linter.unusedSimpArgs false


set_option maxHeartbeats 700000 in
set_option maxRecDepth 100000 in
theorem clocks_tail (N : Nat) (A : Option Addr) (n cap : Nat) (L : List (Int × Int)) (tr : Int) (w : World) (hp : Pairs w A N L) (hk : PairsOk L) (hNm : N = 60 ∧ 60 < n ∨ N = n ∧ n ≤ 60) (hnc : n ≤ cap) (hcm : cap ≤ 9223372036854775807) :
    Calls Try.prog 3 #[.slice A n cap, .int .i64 tr] w fun e w' => e = .returned (.bool true) ∧ Below w.heap.size w w' := by
  have HP := Lib.hid hp
  have HK := Lib.hid hk
  have HL := Lib.hid hp.1
  clear hp hk
  rcases hNm with ⟨rfl, hn60⟩ | ⟨rfl, hn60⟩
  · go_enter Try.func3, Try.ntmps3
    go_wp2_with fail
    refine (awake_any _).mono ?_
    rintro e w1 ⟨rfl, hB⟩
    go_wp2_with fail
    refine (newClock_any _).mono ?_
    rintro e w2 ⟨g, rfl, hc, hg, hb⟩
    have hg : w.heap.size ≤ g := Nat.le_trans hB.size hg
    have hB := hB.trans (hb.mono hB.size)
    clear hb
    go_wp2_with fail
    go_loopw [28] (fun i wr => ∃ (k : Nat) (c : Ck), k ≤ 60 ∧ i = .int .i64 k ∧ c = ckAll (L.take k) ∧ Clk wr g c ∧ Below w.heap.size w wr) (fun i _ => 60 - (intOf i).toNat)
    case atStart => exact ⟨0, ck0, Nat.zero_le _, rfl, rfl, hc, hB⟩
    case round =>
      clear hc hB
      obtain ⟨k, c, hkn, rfl, hce, hc, hB⟩ := hrel
      have hco : CkOk c := by rw [hce]; exact ckAll_ok _ (HK.out.take k)
      have HC := Lib.hid hce
      clear hce
      by_cases hlt : k < 60
      · obtain ⟨b, off, rfl, hb, c0, c1⟩ := (HP.out.below hB).2 k hlt
        have hxy := HK.out.getD k
        have hst := ckAll_take L k (by rw [HL.out]; exact hlt)
        obtain ⟨x, hx⟩ : ∃ x, x = (L.getD k (0, 0)).1 := ⟨_, rfl⟩
        obtain ⟨y, hy⟩ : ∃ y, y = (L.getD k (0, 0)).2 := ⟨_, rfl⟩
        rw [← hx] at c0 hxy hst
        rw [← hy] at c1 hxy hst
        rw [← HC.out] at hst
        have HS := Lib.hid hst
        clear hx hy hst
        have hc2 : Clk (wr.alloc (.cells #[.int .u64 x, .int .u64 y] 27)) g c := Blk.alloc hc _
        have hB2 := hB.alloc hB.size (.cells #[.int .u64 x, .int .u64 y] 27)
        go_wp2_with fail
        skip
        refine (sample_any g c x y _ hc2 hco hxy.1.1 hxy.2.1).mono ?_
        rintro e w4 ⟨rfl, hc4, hg4⟩
        have hB4 := hB2.grown hg4 hB2.size (fun b hb => by injection hb with hb; omega)
        clear c0 c1 hc hc2 hg4
        go_wp2_with fail
        go_roundw
        case rel => exact ⟨k + 1, _, by omega, by go_num, HS.out.symm, hc4, hB4⟩
        case measure => simp [intOf]; omega
      · have hkk : L.take k = L := List.take_of_length_le (by rw [HL.out]; omega)
        have hcc : c = ckAll L := by rw [HC.out, hkk]
        have HCC := Lib.hid hcc
        clear hcc hkk
        obtain ⟨wo, rfl⟩ : ∃ wo : World, wo = wr := ⟨_, rfl⟩
        go_wp2_with fail
        refine (rtold_any A 60 cap L _ (HP.out.below hB) HK.out (by omega) hcm).mono ?_
        rintro e w4 ⟨rfl, hb4⟩
        rw [← HCC.out]
        obtain ⟨s, la, le, sm, va⟩ := c
        have hs : 0 ≤ sm ∧ sm ≤ 1099511627776 := ⟨hco.s0, hco.s1⟩
        have hv : 0 ≤ va ∧ va ≤ 1099511627776 := ⟨hco.v0, hco.v1⟩
        have hla : 0 ≤ la ∧ la ≤ 1099511627776 := ⟨hco.l0, hco.l1⟩
        have hc4 : Clk w4 g ⟨s, la, le, sm, va⟩ := Blk.same hc hb4
        have hB4 := hB.trans (hb4.mono hB.size)
        have hc5 : Clk (w4.alloc (.cells #[.int .u64 la, .int .u64 le, .int .u64 sm, .int .u64 va] 29)) g ⟨s, la, le, sm, va⟩ := Blk.alloc hc4 _
        have hO5 := Blk.new w4 29 #[.int .u64 la, .int .u64 le, .int .u64 sm, .int .u64 va]
        have hB5 := hB4.alloc hB4.size (.cells #[.int .u64 la, .int .u64 le, .int .u64 sm, .int .u64 va] 29)
        clear hc hc4 hb4 hB hB4 hco
        go_wp2_with fail
        refine (told_any g s la le sm va _ hc5).mono ?_
        rintro e w6 ⟨rfl, n6, rfl⟩
        have hc6 : Clk ((w4.alloc (.cells #[.int .u64 la, .int .u64 le, .int .u64 sm, .int .u64 va] 29)).drewN n6) g ⟨s, la, le, sm, va⟩ := hc5
        have hO6 : Blk ((w4.alloc (.cells #[.int .u64 la, .int .u64 le, .int .u64 sm, .int .u64 va] 29)).drewN n6) w4.heap.size 29 #[.int .u64 la, .int .u64 le, .int .u64 sm, .int .u64 va] := hO5
        have hB6 := below_drewN hB5 n6
        clear hc5 hO5 hB5
        go_wp2_with fail
        refine (sample_nil 1 1 _).mono ?_
        rintro e w7 ⟨rfl, rfl⟩
        go_wp2_with fail
        refine (told_nil _).mono ?_
        rintro e w8 ⟨rfl, rfl⟩
        generalize (w4.alloc (.cells #[.int .u64 la, .int .u64 le, .int .u64 sm, .int .u64 va] 29)).drewN n6 = w9 at *
        have o0 : w9.cell? ⟨w4.heap.size, 0, none⟩ = some (.int .u64 la) := hO6.cell 0
        have o1 : w9.cell? ⟨w4.heap.size, 1, none⟩ = some (.int .u64 le) := hO6.cell 1
        have o2 : w9.cell? ⟨w4.heap.size, 2, none⟩ = some (.int .u64 sm) := hO6.cell 2
        have o3 : w9.cell? ⟨w4.heap.size, 3, none⟩ = some (.int .u64 va) := hO6.cell 3
        have heq := fun W : World => eq4 W la le sm va
        have hw := fun x : Cls w9.heap.size w9 => wait_any g s la le sm va tr x.w (Cls.blk hc6 (Blk.lt hc6) x) hs hv
        have hrw := fun W : World => rwait_loop la le sm va tr W hs hv
        have hl := fun x : Cls w9.heap.size w9 => clost_any g s la le sm va x.w (Cls.blk hc6 (Blk.lt hc6) x) hs hla
        have hrl := fun W : World => rlost_any la le sm va W hs hla
        generalize waitI sm va tr = X at *
        generalize lostI la sm = Y at *
        go_wp2_with fail
        have Co0 := Cls.cells o0 (World.block_lt_of_cell? _ _ o0)
        have Co1 := Cls.cells o1 (World.block_lt_of_cell? _ _ o1)
        have Co2 := Cls.cells o2 (World.block_lt_of_cell? _ _ o2)
        have Co3 := Cls.cells o3 (World.block_lt_of_cell? _ _ o3)
        refine wp_region_cls (by kernel_rfl) (by kernel_rfl) ?_
        repeat (go_big_quiet_step ((first | (go_at_call 13; with_reducible exact Cls.quietN (hw _)) | (go_at_call 14; with_reducible exact Cls.call (Nat.le_refl _) (hrw _)) | (go_at_call 15; with_reducible exact Cls.quietN (hl _)) | (go_at_call 16; with_reducible exact Cls.call (Nat.le_refl _) (hrl _)) | (go_at_call 13; with_reducible exact Cls.quiet (wait_nil 3 _)) | (go_at_call 15; with_reducible exact Cls.quiet (clost_nil _)))))
        refine wpQuiet_nil ?_
        intro w10 hb10
        have o0 := keepB_cell o0 w10 hb10
        have o1 := keepB_cell o1 w10 hb10
        have o2 := keepB_cell o2 w10 hb10
        have o3 := keepB_cell o3 w10 hb10
        clear Co0 Co1 Co2 Co3
        have hB10 := hB6.trans (hb10.mono hB6.size)
        go_wp2_with fail
        go_ret
        exact ⟨by simp, hB10⟩
  · go_enter Try.func3, Try.ntmps3
    go_wp2_with fail
    refine (awake_any _).mono ?_
    rintro e w1 ⟨rfl, hB⟩
    go_wp2_with fail
    refine (newClock_any _).mono ?_
    rintro e w2 ⟨g, rfl, hc, hg, hb⟩
    have hg : w.heap.size ≤ g := Nat.le_trans hB.size hg
    have hB := hB.trans (hb.mono hB.size)
    clear hb
    go_wp2_with fail
    go_loopw [28] (fun i wr => ∃ (k : Nat) (c : Ck), k ≤ N ∧ i = .int .i64 k ∧ c = ckAll (L.take k) ∧ Clk wr g c ∧ Below w.heap.size w wr) (fun i _ => N - (intOf i).toNat)
    case atStart => exact ⟨0, ck0, Nat.zero_le _, rfl, rfl, hc, hB⟩
    case round =>
      clear hc hB
      obtain ⟨k, c, hkn, rfl, hce, hc, hB⟩ := hrel
      have hco : CkOk c := by rw [hce]; exact ckAll_ok _ (HK.out.take k)
      have HC := Lib.hid hce
      clear hce
      by_cases hlt : k < N
      · obtain ⟨b, off, rfl, hb, c0, c1⟩ := (HP.out.below hB).2 k hlt
        have hxy := HK.out.getD k
        have hst := ckAll_take L k (by rw [HL.out]; exact hlt)
        obtain ⟨x, hx⟩ : ∃ x, x = (L.getD k (0, 0)).1 := ⟨_, rfl⟩
        obtain ⟨y, hy⟩ : ∃ y, y = (L.getD k (0, 0)).2 := ⟨_, rfl⟩
        rw [← hx] at c0 hxy hst
        rw [← hy] at c1 hxy hst
        rw [← HC.out] at hst
        have HS := Lib.hid hst
        clear hx hy hst
        have hc2 : Clk (wr.alloc (.cells #[.int .u64 x, .int .u64 y] 27)) g c := Blk.alloc hc _
        have hB2 := hB.alloc hB.size (.cells #[.int .u64 x, .int .u64 y] 27)
        go_wp2_with fail
        skip
        refine (sample_any g c x y _ hc2 hco hxy.1.1 hxy.2.1).mono ?_
        rintro e w4 ⟨rfl, hc4, hg4⟩
        have hB4 := hB2.grown hg4 hB2.size (fun b hb => by injection hb with hb; omega)
        clear c0 c1 hc hc2 hg4
        go_wp2_with fail
        go_roundw
        case rel => exact ⟨k + 1, _, by omega, by go_num, HS.out.symm, hc4, hB4⟩
        case measure => simp [intOf]; omega
      · have hkk : L.take k = L := List.take_of_length_le (by rw [HL.out]; omega)
        have hcc : c = ckAll L := by rw [HC.out, hkk]
        have HCC := Lib.hid hcc
        clear hcc hkk
        obtain ⟨wo, rfl⟩ : ∃ wo : World, wo = wr := ⟨_, rfl⟩
        go_wp2_with fail
        refine (rtold_any A N cap L _ (HP.out.below hB) HK.out (by omega) hcm).mono ?_
        rintro e w4 ⟨rfl, hb4⟩
        rw [← HCC.out]
        obtain ⟨s, la, le, sm, va⟩ := c
        have hs : 0 ≤ sm ∧ sm ≤ 1099511627776 := ⟨hco.s0, hco.s1⟩
        have hv : 0 ≤ va ∧ va ≤ 1099511627776 := ⟨hco.v0, hco.v1⟩
        have hla : 0 ≤ la ∧ la ≤ 1099511627776 := ⟨hco.l0, hco.l1⟩
        have hc4 : Clk w4 g ⟨s, la, le, sm, va⟩ := Blk.same hc hb4
        have hB4 := hB.trans (hb4.mono hB.size)
        have hc5 : Clk (w4.alloc (.cells #[.int .u64 la, .int .u64 le, .int .u64 sm, .int .u64 va] 29)) g ⟨s, la, le, sm, va⟩ := Blk.alloc hc4 _
        have hO5 := Blk.new w4 29 #[.int .u64 la, .int .u64 le, .int .u64 sm, .int .u64 va]
        have hB5 := hB4.alloc hB4.size (.cells #[.int .u64 la, .int .u64 le, .int .u64 sm, .int .u64 va] 29)
        clear hc hc4 hb4 hB hB4 hco
        go_wp2_with fail
        refine (told_any g s la le sm va _ hc5).mono ?_
        rintro e w6 ⟨rfl, n6, rfl⟩
        have hc6 : Clk ((w4.alloc (.cells #[.int .u64 la, .int .u64 le, .int .u64 sm, .int .u64 va] 29)).drewN n6) g ⟨s, la, le, sm, va⟩ := hc5
        have hO6 : Blk ((w4.alloc (.cells #[.int .u64 la, .int .u64 le, .int .u64 sm, .int .u64 va] 29)).drewN n6) w4.heap.size 29 #[.int .u64 la, .int .u64 le, .int .u64 sm, .int .u64 va] := hO5
        have hB6 := below_drewN hB5 n6
        clear hc5 hO5 hB5
        go_wp2_with fail
        refine (sample_nil 1 1 _).mono ?_
        rintro e w7 ⟨rfl, rfl⟩
        go_wp2_with fail
        refine (told_nil _).mono ?_
        rintro e w8 ⟨rfl, rfl⟩
        generalize (w4.alloc (.cells #[.int .u64 la, .int .u64 le, .int .u64 sm, .int .u64 va] 29)).drewN n6 = w9 at *
        have o0 : w9.cell? ⟨w4.heap.size, 0, none⟩ = some (.int .u64 la) := hO6.cell 0
        have o1 : w9.cell? ⟨w4.heap.size, 1, none⟩ = some (.int .u64 le) := hO6.cell 1
        have o2 : w9.cell? ⟨w4.heap.size, 2, none⟩ = some (.int .u64 sm) := hO6.cell 2
        have o3 : w9.cell? ⟨w4.heap.size, 3, none⟩ = some (.int .u64 va) := hO6.cell 3
        have heq := fun W : World => eq4 W la le sm va
        have hw := fun x : Cls w9.heap.size w9 => wait_any g s la le sm va tr x.w (Cls.blk hc6 (Blk.lt hc6) x) hs hv
        have hrw := fun W : World => rwait_loop la le sm va tr W hs hv
        have hl := fun x : Cls w9.heap.size w9 => clost_any g s la le sm va x.w (Cls.blk hc6 (Blk.lt hc6) x) hs hla
        have hrl := fun W : World => rlost_any la le sm va W hs hla
        generalize waitI sm va tr = X at *
        generalize lostI la sm = Y at *
        go_wp2_with fail
        have Co0 := Cls.cells o0 (World.block_lt_of_cell? _ _ o0)
        have Co1 := Cls.cells o1 (World.block_lt_of_cell? _ _ o1)
        have Co2 := Cls.cells o2 (World.block_lt_of_cell? _ _ o2)
        have Co3 := Cls.cells o3 (World.block_lt_of_cell? _ _ o3)
        refine wp_region_cls (by kernel_rfl) (by kernel_rfl) ?_
        repeat (go_big_quiet_step ((first | (go_at_call 13; with_reducible exact Cls.quietN (hw _)) | (go_at_call 14; with_reducible exact Cls.call (Nat.le_refl _) (hrw _)) | (go_at_call 15; with_reducible exact Cls.quietN (hl _)) | (go_at_call 16; with_reducible exact Cls.call (Nat.le_refl _) (hrl _)) | (go_at_call 13; with_reducible exact Cls.quiet (wait_nil 3 _)) | (go_at_call 15; with_reducible exact Cls.quiet (clost_nil _)))))
        refine wpQuiet_nil ?_
        intro w10 hb10
        have o0 := keepB_cell o0 w10 hb10
        have o1 := keepB_cell o1 w10 hb10
        have o2 := keepB_cell o2 w10 hb10
        have o3 := keepB_cell o3 w10 hb10
        clear Co0 Co1 Co2 Co3
        have hB10 := hB6.trans (hb10.mono hB6.size)
        go_wp2_with fail
        go_ret
        exact ⟨by simp, hB10⟩

theorem clocks_walk (A : Option Addr) (n cap : Nat) (L : List (Int × Int)) (tr : Int) (w : World) (hp : Pairs w A n L) (hk : PairsOk L) (hnc : n ≤ cap) (hcm : cap ≤ maxLen) :
    Calls Try.prog 3 #[.slice A n cap, .int .i64 tr] w fun e w' => e = .returned (.bool true) ∧ Below w.heap.size w w' := by
  have hcm' : cap ≤ 9223372036854775807 := by unfold maxLen at hcm; omega
  by_cases h : 60 < n
  · exact clocks_tail 60 A n cap (L.take 60) tr w (hp.pre (by omega)) (hk.take 60) (.inl ⟨rfl, h⟩) hnc hcm'
  · exact clocks_tail n A n cap L tr w hp hk (.inr ⟨rfl, by omega⟩) hnc hcm'
open Go.ChangeShapes Go.WideShapes Go.ChangeAt
set_option maxRecDepth 100000 in
theorem clocks_lifted (os : Os) (started : os.Started) (H : Type) (enc : TypeId × Value → H) :
    ReturnsInHanded {} Try.checked os 3 .any (Rows.paceClocksSpec.pre6 enc Try.prog Try.f3 Rows.paceClocksRow.domain false) (Rows.paceClocksSpec.post enc Try.prog Try.f3 false true false false) := by
  refine returnsInHanded_of_change (C := Try.checked) own started (by kernel_rfl) Try.func3
    (ChangeSpec.witness6 (enc := enc) (C := Try.checked) false ⟨#[], #[.slice none 0 0, .int .i64 0], []⟩ 8 (by kernel_rfl) (by kernel_rfl) (by kernel_rfl) (by kernel_rfl)) ?_
  intro W base args ds gs before hval0 hW hcnd _
  have hval : ∀ (j : Nat) t v, Try.f3.params[j]? = some t → args[j]? = some v → Value.okWide Try.prog W .any base t v := hval0
  have hW' := hW
  obtain ⟨p, q, hA0, hV, rfl, hfz, hnd⟩ := hW
  have hA : DataW.TrodAll enc Try.prog W 0 (fun _ => true) true Try.f3.params.toList args.toList ds p := hA0
  rw [Try.params3] at hA hval
  obtain ⟨v0, vs0, d0, ds0, p0, q0, hargs, rfl, rfl, h0, r0⟩ := trodAll_cons hA
  obtain ⟨v1, vs1, d1, ds1, p1, q1, rfl, rfl, rfl, h1, r1⟩ := trodAll_cons r0
  obtain ⟨rfl, rfl, rfl⟩ := trodAll_nil r1
  obtain rfl : args = #[v0, v1] := by cases args; simp_all
  obtain ⟨rfl, rfl⟩ := trodVars_none hV
  obtain ⟨A0, len0, cap0, rfl⟩ := okWide_slice Try.underlying22 (hval 0 22 v0 rfl rfl)
  have k0 := h0
  have lt0 : ∀ x ∈ p0, x.block < W.heap.size := by obtain ⟨m, hm⟩ := k0; exact DataW.trod_lt m _ _ _ hm
  obtain ⟨n0, c0, L0, hR0, hK0⟩ := pairs_of h0
  obtain ⟨a1, rfl, rfl, rfl, w1⟩ := open_int Try.underlying3 (hval 1 3 v1 rfl rfl) h1
  clear hA0 hval0
  refine (clocks_walk _ _ _ L0 a1 W hR0 hK0 n0 c0).mono fun e W' ⟨he, bel⟩ => ?_
  subst he
  exact ⟨_, rfl, _, _, _, [], _, [], hW', trodAll_mk1 (shut_bool Try.underlying4 _), (trodAll_cons_mk (Below.trod laidOut (by kernel_rfl) (of_decide_eq_true (by kernel_rfl)) k0 bel lt0) (trodAll_cons_mk (shut_int Try.underlying3 w1) trodAll_mk0)), rfl, bel.frame _, fun h => by cases h⟩

theorem clocks_holds : Rows.PaceClocksSaid :=
  OpenClaim.holds_of_wide 3 Try.f3 rfl rfl rfl rfl rfl rfl rfl ⟨rfl, rfl, rfl, rfl, rfl⟩ rfl rfl rfl rfl rfl (by kernel_rfl) Try.func3 (by kernel_rfl)
    (of_decide_eq_true (by kernel_rfl)) (by unfold Func.isWrapper; first | (rw [if_pos (by decide +kernel)]; kernel_rfl) | (rw [if_neg (by decide +kernel)]; exact ⟨rfl, rfl⟩))
    (fun os started H enc _ => clocks_lifted os started H enc)
#print axioms clocks_holds

end Go.Proofs.Ytlnenndlenckjaa
