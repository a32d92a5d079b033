/-
  DeleteFunc at the closure of let: the walk. No condition.
-/
import Derived.Test.YtiaabbflchdcbaaSdel
namespace Go.Proofs.Ytiaabbflchdcbaa
open Go.RowKit
set_option linter.unusedVariables false
set_option linter.unusedSimpArgs false

theorem zero_lot : (Try.prog.info? 84).map (fun i => (i.zero, i.size)) = some (some (.agg (lotC z32 0)), 33) := by kernel_rfl
theorem lr_spare {w : World} {B g n c : Nat} {l : List Lot} (h : LR w B (.slice (some ⟨g, 0, none⟩) n c) l) : n = l.length ∧ n ≤ c ∧ c ≤ 9223372036854775807 := by
  obtain ⟨cur, hb, rfl, hnc, hs, htk, hB, hcm⟩ := lr_blk h
  exact ⟨rfl, hnc, by unfold maxLen at hcm; omega⟩
theorem elem79 : Try.prog.elem 79 = 84 := by simp [Program.elem, Try.underlying79]
theorem szL (W : World) : (sizeOf 84).run Try.prog W = .ok 33 W := by
  obtain ⟨i, hi, hs⟩ := Option.map_eq_some_iff.1 info84
  simp [sizeOf, typeInfo, hi, hs]
theorem cutL_from (b n c q : Nat) (h1 : q ≤ n) (h2 : q < c) (W : World) : (Instr.slice 79 (.slice (some ⟨b, 0, none⟩) n c) (some (.int .i64 (q : Int))) none none).run Try.prog W = .ok (.slice (some ⟨b, q * 33, none⟩) (n - q) (c - q)) W := by
  have ht : Try.prog.underlying 79 = some (.slice (Try.prog.elem 79)) := by simp [Program.elem, Try.underlying79]
  rw [run_slice_l W 79 _ _ _ ht .i64 _ (by omega) (by omega), elem79, szL]
  have : ¬ c = q := by omega
  simp [sliced, Addr.add, this, Result.andThen]
  all_goals omega
theorem cutL_to (b n c q : Nat) (h1 : q ≤ c) (W : World) : (Instr.slice 79 (.slice (some ⟨b, 0, none⟩) n c) none (some (.int .i64 (q : Int))) none).run Try.prog W = .ok (.slice (some ⟨b, 0, none⟩) q c) W := by
  have ht : Try.prog.underlying 79 = some (.slice (Try.prog.elem 79)) := by simp [Program.elem, Try.underlying79]
  rw [run_slice_h W 79 _ _ _ ht .i64 _ (by omega) (by omega), elem79, szL]
  simp [Result.andThen, sliced, Addr.add]
set_option maxHeartbeats 4000000 in
set_option maxRecDepth 100000 in
theorem del_func (b c B xb i : Nat) (l : List Lot) (w : World) (hR : LR w B (.slice (some ⟨b, 0, none⟩) l.length c) l) (hok : ∀ x ∈ l, LotOk x) (hnd : l.Nodup) (x : Lot) (hxi : l[i]? = some x) (hx : Blk w xb 84 (lotC x.1 x.2)) (hne : xb ≠ b) :
    Calls Try.prog 42 #[.slice (some ⟨b, 0, none⟩) l.length c, .func (.func 43) #[] #[.pointer (some ⟨xb, 0, none⟩)]] w fun e w' =>
      e = .returned (.slice (some ⟨b, 0, none⟩) (l.length - 1) c) ∧ LR w' B (.slice (some ⟨b, 0, none⟩) (l.length - 1) c) (l.take i ++ l.drop (i + 1)) ∧ w.grownBy w' (some b) := by
  obtain ⟨-, hlc, hcm⟩ := lr_spare hR
  obtain ⟨hi, hie⟩ := List.getElem?_eq_some_iff.1 hxi
  have hix := idx_any b c B xb i l w hR hok hnd hi (by rw [hie]; exact hx)
  have hoki : LotOk x := by rw [← hie]; exact hok _ (List.getElem_mem hi)
  obtain ⟨N, hN⟩ : ∃ N, N = l.length := ⟨_, rfl⟩
  rw [← hN] at hR hlc hix ⊢
  have hiN : i < N := by omega
  have HN := Lib.hid hN
  have hdm : ((i : Int) == -1) = false := by simp
  have hbB : some xb ≠ some b := by simpa using hne
  have HI := Lib.hid hi
  have HXI := Lib.hid hxi
  clear hN hi hie hxi
  go_enter Try.func42, Try.ntmps42
  go_wp2_with fail
  refine hix.mono ?_
  clear hix
  rintro e w1 ⟨rfl, hb1⟩
  have hR1 : LR w1 B (.slice (some ⟨b, 0, none⟩) N c) l := own_same hR hb1
  have hG1 : w.grownBy w1 (some b) := grown_below hb1 _
  clear hb1
  go_wp2_with fail
  go_loopw [5, 6] (fun s5 s6 wr => ∃ (q : Nat), i ≤ q ∧ q + 1 ≤ N ∧ s5 = .int .i64 q ∧ s6 = .int .i64 ((q : Int) + 1) ∧ LR wr B (.slice (some ⟨b, 0, none⟩) N c) (sh l i q) ∧ w.grownBy wr (some b)) (fun s5 s6 _ => N - (intOf s5).toNat)
  case atStart => exact ⟨i, Nat.le_refl _, hiN, rfl, rfl, by rw [sh_zero HI.out]; exact hR1, hG1⟩
  case round =>
    clear hR1 hG1
    obtain ⟨q, hiq, hqN, rfl, rfl, hRr, hG⟩ := hrel
    have hxr := hx.grown hG hbB
    by_cases hlt : q + 1 < N
    · have hl1 : q + 1 < l.length := by rw [← HN.out]; exact hlt
      have hls : (sh l i q).length = l.length := sh_len hiq (by omega)
      have hokS : ∀ x ∈ sh l i q, LotOk x := fun x hx => hok x (sh_mem hx)
      have hsn := sh_next hiq hl1
      have hq1 : q + 1 < (sh l i q).length := by rw [hls]; exact hl1
      have hel : (sh l i q)[q + 1] = l[q + 1] := by rw [List.getElem?_eq_getElem hq1, List.getElem?_eq_getElem hl1] at hsn; injection hsn
      have hrg := lr_range hRr hokS (q + 1) hq1
      rw [hel] at hrg
      have hokq := hok _ (List.getElem_mem hl1)
      have hlen := lot_len _ hokq
      have hdk : (decide (l[q + 1].1 = x.1) && decide (l[q + 1].2 = x.2)) = false := by
        rw [Bool.eq_false_iff]
        intro h
        simp only [Bool.and_eq_true, decide_eq_true_eq] at h
        have := nodup_ix (x := x) hnd (by rw [List.getElem?_eq_getElem hl1, show l[q + 1] = x from Prod.ext h.1 h.2]) HXI.out
        omega
      have hcon := fun W (hX : Blk W xb 84 (lotC x.1 x.2)) => del_any l[q + 1].1 x.1 l[q + 1].2 x.2 xb W hX hokq.1 hoki.1 hokq.2 hoki.2
      rw [hdk] at hcon
      clear hdk
      have hstep := sh_step hiq hl1
      obtain ⟨y, hy⟩ : ∃ y, y = l[q + 1] := ⟨_, rfl⟩
      rw [← hy] at hrg hokq hlen hcon hstep
      have hys := lot_size (g := y.2) hokq.1
      have hyt : (lotC y.1 y.2).toList.toArray = lotC y.1 y.2 := by simp
      have hV := Blk.new wr 84 (lotC y.1 y.2)
      have hba : Below wr.heap.size wr (wr.alloc (.cells (lotC y.1 y.2) 84)) := (Below.refl _ _).alloc (Nat.le_refl _) _
      have hxa := hxr.same hba
      have hRa : LR (wr.alloc (.cells (lotC y.1 y.2) 84)) B (.slice (some ⟨b, 0, none⟩) N c) (sh l i q) := own_same hRr hba
      have hth : ∀ W, LR W B (.slice (some ⟨b, 0, none⟩) N c) (sh l i q) → W.there b (q * 33) (lotC y.1 y.2).size := fun W h => by
        obtain ⟨cur, hb, hn, hnc, hs, -⟩ := lr_blk h
        exact there_blk hb (by rw [hys, hs]; omega)
      have HLT := Lib.hid hlt
      have HQ := Lib.hid hiq
      have HSTEP := Lib.hid hstep
      clear hls hsn hel hy hl1 hiq hstep
      go_upto_region 8 with (first | (refine wpList_load_mid rfl 84 (.tmp 24) rfl b ((q + 1) * 33) rfl (lotC y.1 y.2).toList _ hrg Try.underlying84 rfl (by rw [info84, hlen]) ?_; rw [hyt]) | (refine wpList_store_new rfl 84 (.tmp 7) (.tmp 25) rfl 84 _ (lotC y.1 y.2) rfl rfl (by rw [info84, hys]) (by rw [hys]; rfl) (lot_one _ _) ?_) | fail)
      refine wp_world (fun wz => LR wz B (.slice (some ⟨b, 0, none⟩) N c) (sh l i q) ∧ Blk wz wr.heap.size 84 (lotC y.1 y.2) ∧ Blk wz xb 84 (lotC x.1 x.2) ∧ Below wr.heap.size wr wz) ⟨hRa, hV, hxa, hba⟩ ?_
      clear hRa hV hxa hba hRr hxr hrg
      rintro wz ⟨hRz, hVz, hxz, hbz⟩
      go_wp2_with (first | (refine wpList_load_row rfl 84 (.tmp 7) rfl wr.heap.size rfl 84 (lotC y.1 y.2) (0, 0) _ hVz Try.underlying84 rfl (by rw [info84, hys]) ?_) | (go_at_call 43; refine (hcon wz hxz).mono ?_; rintro e w3 ⟨rfl, hb3⟩; have hR3 : LR w3 B (.slice (some ⟨b, 0, none⟩) N c) (sh l i q) := own_same hRz hb3; have hV3 := hVz.same hb3; have hG3 : w.grownBy w3 (some b) := (hG.trans (grown_below hbz _)).trans (grown_below hb3 _)) | (refine wpList_load_row rfl 84 (.tmp 7) rfl wr.heap.size rfl 84 (lotC y.1 y.2) (0, 0) _ hV3 Try.underlying84 rfl (by rw [info84, hys]) ?_) | (refine wpList_store_mid rfl 84 (.tmp 33) (.tmp 32) rfl b (q * 33) (lotC y.1 y.2) rfl rfl (hth w3 hR3) (by rw [info84, hys]) (lot_one _ _) ?_; have hR4 := lr_set hR3 hokS q (by omega) y hokq; rw [HSTEP.out] at hR4; have hG4 := hG3.trans (grown_setCells b (lotC y.1 y.2).toList (q * 33) w3)) | fail)
      go_roundw
      case rel => exact ⟨q + 1, Nat.le_succ_of_le HQ.out, by omega, by go_num, by go_num, hR4, hG4⟩
      case measure => simp [intOf]; omega
    · have hq1 : q + 1 = l.length := by rw [← HN.out]; omega
      have hls : (sh l i q).length = l.length := sh_len hiq (by omega)
      have hokS : ∀ x ∈ sh l i q, LotOk x := fun x hx => hok x (sh_mem hx)
      have hqc : q < c := by omega
      have hsl : ∀ W, (Instr.slice 79 (.slice (some ⟨b, 0, none⟩) N c) (some (.int .i64 (q : Int))) none none).run Try.prog W = .ok (.slice (some ⟨b, q * 33, none⟩) 1 (c - q)) W := fun W => by rw [cutL_from b N c q (by omega) hqc W, show N - q = 1 by omega]
      have hst := cutL_to b N c q (by omega)
      obtain ⟨cur, hb, hn, hnc, hs, htk, hB, hcm2⟩ := lr_blk hRr
      have hb' : Blk wr b 84 cur.toList.toArray := hb
      have hcl : cur.toList.length = c * 33 := by rw [Array.length_toList]; exact hs
      obtain ⟨iL, hiL, hzL⟩ := Option.map_eq_some_iff.1 zero_lot
      simp only [Prod.mk.injEq] at hzL
      obtain ⟨hz0, hz1⟩ := hzL
      have hz33 : (Value.agg (lotC z32 0)).cells.size = 33 := lot_size t32_zero
      have hRq := lr_cut hRr hokS q (by omega)
      rw [sh_end hiq hq1] at hRq
      have hNq : N - 1 = q := by omega
      have hdl : decide ((q : Int) + 1 < (N : Int)) = false := decide_eq_false (by omega)
      have HNQ := Lib.hid hNq
      have HLT := Lib.hid hlt
      clear hlt hNq hq1 hls hn hnc hs htk hB
      go_wp2_with (first | (refine wpList_clear_w rfl (.tmp 38) 79 rfl 84 iL (.agg (lotC z32 0)) Try.underlying79 hiL hz0 (fun v hv => (Array.all_eq_true_iff_forall_mem.1 (lot_one z32 0)) v (by simpa [Value.cells] using hv)) b (q * 33) 1 (c - q) cur.toList 84 rfl hb' (by decide) (by rw [hz33, hcl]; omega) ?_; intro w4 hb4 hg4; have hR4 := lr_cells hRq hb' hb4 (by rw [spl_len (by rw [hcl]; simp [Builtin.zeroCells, hz33]; omega)]) (by unfold spl; rw [List.append_assoc, List.take_left' (by rw [List.length_take, hcl]; omega)]); have hG4 := hG.trans hg4) | fail)
      go_ret
      rw [HNQ.out]
      exact ⟨rfl, hR4, hG4⟩

end Go.Proofs.Ytiaabbflchdcbaa
