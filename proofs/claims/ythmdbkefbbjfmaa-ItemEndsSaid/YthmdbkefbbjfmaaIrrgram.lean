/-
  A datagram read back: what ReadGram of the reference does; it is what package item's does.
-/
import Derived.Test.YthmdbkefbbjfmaaIrtake
namespace Go.Proofs.Ythmdbkefbbjfmaa
open Go.RowKit
set_option linter.unusedVariables false
set_option linter.unusedSimpArgs false


def rgramS (l : List Int) : Option (Int × Int × Int × Int × List Int) :=
  match takeL 4 l with
  | some ([k, al, G, O], pr :: r) => if k = 1 ∧ r.length ≤ 2048 then some (al, G, O, pr, r) else none
  | _ => none

set_option maxHeartbeats 4000000 in
set_option maxRecDepth 100000 in
theorem rrdgram_no (V : Value) (l : List Int) (w : World) (hr : Rd w .u8 V l) (hk : BytesOk l) (hl : l.length ≤ 1000000) (hn : rgramS l = none) :
    Calls Try.prog 22 #[V] w fun e w' => e = .returned (.tuple #[.int .u64 0, .agg #[.int .u64 0, .int .u64 0, .int .u8 0, .bool false, .slice none 0 0], .int .i64 4]) ∧ Below w.heap.size w w' := by
  have HNN := Lib.hid hn
  clear hn
  have hZ := Blk.new w 29 #[.int .u64 0, .int .u64 0, .int .u8 0, .bool false, .slice none 0 0]
  have hB0 := (Below.refl w.heap.size w).alloc (Nat.le_refl _) (.cells #[.int .u64 0, .int .u64 0, .int .u8 0, .bool false, .slice none 0 0] 29)
  have hV0 := hr.alloc (.cells #[.int .u64 0, .int .u64 0, .int .u8 0, .bool false, .slice none 0 0] 29)
  obtain ⟨A, cap, rfl⟩ := hr.form
  have HV := Lib.hid hV0
  clear hr hV0
  go_enter Try.func22, Try.ntmps22
  go_wp2_with fail
  refine (show Calls Try.prog 35 #[_, .int .i64 4] _ _ from rtakeN_any (.slice A l.length cap) l 4 _ HV.out hk hl (by decide)).mono ?_
  rintro e w1 (⟨hn, rfl, hb1⟩ | ⟨q, r, v1, v2, hq, rfl, ho, hr2, hro, hb1⟩)
  · have hZ1 := hZ.same hb1
    have hB1 := hB0.trans (hb1.mono hB0.size)
    have hm1 : w.heap.size < w1.heap.size := hZ1.lt
    have z0 := hZ1.frozen 0
    have z1 := hZ1.frozen 1
    have z2 := hZ1.frozen 2
    have z3 := hZ1.frozen 3
    have z4 := hZ1.frozen 4
    have y0 : w1.cell? ⟨w.heap.size, 0, none⟩ = some (.int .u64 0) := hZ1.cell 0
    have y1 : w1.cell? ⟨w.heap.size, 1, none⟩ = some (.int .u64 0) := hZ1.cell 1
    have y2 : w1.cell? ⟨w.heap.size, 2, none⟩ = some (.int .u8 0) := hZ1.cell 2
    have y3 : w1.cell? ⟨w.heap.size, 3, none⟩ = some (.bool false) := hZ1.cell 3
    have y4 : w1.cell? ⟨w.heap.size, 4, none⟩ = some (.slice none 0 0) := hZ1.cell 4
    clear hn hb1 hZ hB0
    go_wp2_with fail
    refine bodyPost_ret (v := .tuple #[.int .u64 0, .agg #[.int .u64 0, .int .u64 0, .int .u8 0, .bool false, .slice none 0 0], .int .i64 4]) (by simp [results, Try.results22, go_sem, y0, y1, y2, y3, y4]) rfl ⟨rfl, ?_⟩
    exact ((((hB1.setCell (Nat.le_refl _) _).setCell (Nat.le_refl _) _).setCell (Nat.le_refl _) _).setCell (Nat.le_refl _) _).setCell (Nat.le_refl _) _
  · have hZ1 := hZ.same hb1
    have hB1 := hB0.trans (hb1.mono hB0.size)
    have hm1 : w.heap.size < w1.heap.size := hZ1.lt
    have z0 := hZ1.frozen 0
    have z1 := hZ1.frozen 1
    have z2 := hZ1.frozen 2
    have z3 := hZ1.frozen 3
    have z4 := hZ1.frozen 4
    have y0 : w1.cell? ⟨w.heap.size, 0, none⟩ = some (.int .u64 0) := hZ1.cell 0
    have y1 : w1.cell? ⟨w.heap.size, 1, none⟩ = some (.int .u64 0) := hZ1.cell 1
    have y2 : w1.cell? ⟨w.heap.size, 2, none⟩ = some (.int .u8 0) := hZ1.cell 2
    have y3 : w1.cell? ⟨w.heap.size, 3, none⟩ = some (.bool false) := hZ1.cell 3
    have y4 : w1.cell? ⟨w.heap.size, 4, none⟩ = some (.slice none 0 0) := hZ1.cell 4
    obtain ⟨_, _, hq4, hqb⟩ := takeL_ok hq hk
    obtain ⟨k, al, G, O, rfl⟩ : ∃ k al G O, q = [k, al, G, O] := by
      match q, hq4 with
      | [a, b, c, d], _ => exact ⟨a, b, c, d, rfl⟩
    have hobase := own_base (base' := w.heap.size + 1) ho (by simp)
    obtain ⟨g, cq, rfl, _, hgl⟩ := ho.form (by simp)
    have hgne : w.heap.size + 1 ≤ g := (hobase.lt g rfl).1
    have x0 : w1.cell? ⟨g, 0, none⟩ = some (.int .u64 k) := ho.cellAt 0 (by simp)
    have x1 : w1.cell? ⟨g, 1, none⟩ = some (.int .u64 al) := ho.cellAt 1 (by simp)
    have x2 : w1.cell? ⟨g, 2, none⟩ = some (.int .u64 G) := ho.cellAt 2 (by simp)
    have x3 : w1.cell? ⟨g, 3, none⟩ = some (.int .u64 O) := ho.cellAt 3 (by simp)
    obtain ⟨A2, c2, rfl⟩ := hr2.form
    have hcq : (4 : Int) ≤ 4 := Int.le_refl _
    clear hro
    have hcase : k ≠ 1 ∨ r = [] ∨ 2049 < r.length := by
      have h := HNN.out
      unfold rgramS at h
      rw [hq] at h
      match r, h with
      | [], _ => exact .inr (.inl rfl)
      | pr :: r, h =>
        by_cases h1 : k = 1
        · by_cases h2 : r.length ≤ 2048
          · simp [h1, h2] at h
          · exact .inr (.inr (by simp; omega))
        · exact .inl h1
    clear hq hb1 hZ hB0 hqb hq4 hobase ho
    by_cases g1 : k = 1
    · have g1' : (k != 1) = false := by simpa using g1
      rcases hcase with h | h | h
      · exact absurd g1 h
      · subst h
        clear g1
        go_wp2_with fail
        refine bodyPost_ret (v := .tuple #[.int .u64 0, .agg #[.int .u64 0, .int .u64 0, .int .u8 0, .bool false, .slice none 0 0], .int .i64 4]) (by simp [results, Try.results22, go_sem, y0, y1, y2, y3, y4]) rfl ⟨rfl, ?_⟩
        exact ((((hB1.setCell (Nat.le_refl _) _).setCell (Nat.le_refl _) _).setCell (Nat.le_refl _) _).setCell (Nat.le_refl _) _).setCell (Nat.le_refl _) _
      · have h2 : ((r.length : Int) == 0) = false := beq_eq_false_iff_ne.2 (by omega)
        have h3 : (2049 : Int) < (r.length : Int) := by omega
        clear g1
        go_wp2_with fail
        refine bodyPost_ret (v := .tuple #[.int .u64 0, .agg #[.int .u64 0, .int .u64 0, .int .u8 0, .bool false, .slice none 0 0], .int .i64 4]) (by simp [results, Try.results22, go_sem, y0, y1, y2, y3, y4]) rfl ⟨rfl, ?_⟩
        exact ((((hB1.setCell (Nat.le_refl _) _).setCell (Nat.le_refl _) _).setCell (Nat.le_refl _) _).setCell (Nat.le_refl _) _).setCell (Nat.le_refl _) _
    · have g1' : (k != 1) = true := by simpa using g1
      clear hcase g1
      go_wp2_with fail
      refine bodyPost_ret (v := .tuple #[.int .u64 0, .agg #[.int .u64 0, .int .u64 0, .int .u8 0, .bool false, .slice none 0 0], .int .i64 4]) (by simp [results, Try.results22, go_sem, y0, y1, y2, y3, y4]) rfl ⟨rfl, ?_⟩
      exact ((((hB1.setCell (Nat.le_refl _) _).setCell (Nat.le_refl _) _).setCell (Nat.le_refl _) _).setCell (Nat.le_refl _) _).setCell (Nat.le_refl _) _

set_option maxHeartbeats 4000000 in
set_option maxRecDepth 100000 in
theorem rrdgram_yes (V : Value) (l : List Int) (al G O pr : Int) (rest : List Int) (w : World) (hr : Rd w .u8 V l) (hk : BytesOk l) (hl : l.length ≤ 1000000) (hn : takeL 4 l = some ([1, al, G, O], pr :: rest)) (hs : rest.length ≤ 2048) :
    Calls Try.prog 22 #[V] w fun e w' => ∃ V', e = .returned (.tuple #[.int .u64 al, .agg #[.int .u64 G, .int .u64 O, .int .u8 pr, .bool true, V'], .int .i64 0]) ∧ Rd w' .u8 V' rest ∧ Below w.heap.size w w' := by
  have HNN := Lib.hid hn
  clear hn
  have hZ := Blk.new w 29 #[.int .u64 0, .int .u64 0, .int .u8 0, .bool false, .slice none 0 0]
  have hB0 := (Below.refl w.heap.size w).alloc (Nat.le_refl _) (.cells #[.int .u64 0, .int .u64 0, .int .u8 0, .bool false, .slice none 0 0] 29)
  have hV0 := hr.alloc (.cells #[.int .u64 0, .int .u64 0, .int .u8 0, .bool false, .slice none 0 0] 29)
  obtain ⟨A, cap, rfl⟩ := hr.form
  have HV := Lib.hid hV0
  clear hr hV0
  go_enter Try.func22, Try.ntmps22
  go_wp2_with fail
  refine (show Calls Try.prog 35 #[_, .int .i64 4] _ _ from rtakeN_any (.slice A l.length cap) l 4 _ HV.out hk hl (by decide)).mono ?_
  rintro e w1 (⟨hn, rfl, hb1⟩ | ⟨q, r, v1, v2, hq, rfl, ho, hr2, hro, hb1⟩)
  · rw [HNN.out] at hn
    cases hn
  · have hZ1 := hZ.same hb1
    have hB1 := hB0.trans (hb1.mono hB0.size)
    have hm1 : w.heap.size < w1.heap.size := hZ1.lt
    have z0 := hZ1.frozen 0
    have z1 := hZ1.frozen 1
    have z2 := hZ1.frozen 2
    have z3 := hZ1.frozen 3
    have z4 := hZ1.frozen 4
    have y0 : w1.cell? ⟨w.heap.size, 0, none⟩ = some (.int .u64 0) := hZ1.cell 0
    have y1 : w1.cell? ⟨w.heap.size, 1, none⟩ = some (.int .u64 0) := hZ1.cell 1
    have y2 : w1.cell? ⟨w.heap.size, 2, none⟩ = some (.int .u8 0) := hZ1.cell 2
    have y3 : w1.cell? ⟨w.heap.size, 3, none⟩ = some (.bool false) := hZ1.cell 3
    have y4 : w1.cell? ⟨w.heap.size, 4, none⟩ = some (.slice none 0 0) := hZ1.cell 4
    have hqq := hq
    rw [HNN.out] at hqq
    simp only [Option.some.injEq, Prod.mk.injEq] at hqq
    obtain ⟨rfl, rfl⟩ := hqq
    have hobase := own_base (base' := w.heap.size + 1) ho (by simp)
    obtain ⟨g, cq, rfl, _, hgl⟩ := ho.form (by simp)
    have hgne : w.heap.size + 1 ≤ g := (hobase.lt g rfl).1
    have hgn1 : g ≠ w.heap.size := by omega
    have hgn2 : w.heap.size ≠ g := by omega
    have x0 : w1.cell? ⟨g, 0, none⟩ = some (.int .u64 1) := ho.cellAt 0 (by simp)
    have x1 : w1.cell? ⟨g, 1, none⟩ = some (.int .u64 al) := ho.cellAt 1 (by simp)
    have x2 : w1.cell? ⟨g, 2, none⟩ = some (.int .u64 G) := ho.cellAt 2 (by simp)
    have x3 : w1.cell? ⟨g, 3, none⟩ = some (.int .u64 O) := ho.cellAt 3 (by simp)
    obtain ⟨A2, c2, rfl⟩ := hr2.form
    obtain ⟨bb, off, rfl, hbl, hx⟩ := hr2.at_ 0 (by simp)
    rw [Nat.add_zero] at hx
    have hx2 : w1.cell? ⟨bb, off, none⟩ = some (.int .u8 pr) := hx
    clear hx
    have hbge : w.heap.size + 1 ≤ bb := ((own_base (base' := w.heap.size + 1) (hro (by decide)) (by simp)).lt bb rfl).1
    have hbn1 : bb ≠ w.heap.size := by omega
    have hbn2 : w.heap.size ≠ bb := fun h => hbn1 h.symm
    clear hro
    have h2a : ((rest.length : Int) + 1 == 0) = false := beq_eq_false_iff_ne.2 (by omega)
    have h2b : (((rest.length + 1 : Nat) : Int) == 0) = false := beq_eq_false_iff_ne.2 (by omega)
    have h3a : ¬ (2049 : Int) < (rest.length : Int) + 1 := by omega
    have h3b : ((rest.length + 1 : Nat) : Int) ≤ (2049 : Int) := by omega
    have hcap := hr2.rdv.2.2
    have hcap2 : rest.length + 1 ≤ c2 ∧ c2 ≤ 9223372036854775807 := by unfold maxLen at hcap; simp at hcap; omega
    have hS := hr2.suf (m := 1) (by simp)
    simp only [List.length_cons, Nat.add_sub_cancel, List.drop_succ_cons, List.drop_zero] at hS
    clear hq hb1 hZ hB0 hobase ho hr2 hcap
    by_cases hc2 : c2 = 1
    · have hE := fun h : rest = [] => (by rw [h]; exact Rd.emp w1 .u8 (some ⟨bb, off, none⟩) 0 (by decide) : Rd w1 .u8 (.slice (some ⟨bb, off, none⟩) 0 0) rest)
      have hr0 : rest = [] := List.eq_nil_of_length_eq_zero (by omega)
      have HT := Lib.hid (hE hr0)
      subst hr0
      subst hc2
      clear hE
      go_wp2_with fail
      go_region_held3 (fun w' => w'.cell? ⟨g, 1, none⟩ = some (.int .u64 al) ∧ w'.cell? ⟨g, 2, none⟩ = some (.int .u64 G) ∧ w'.cell? ⟨g, 3, none⟩ = some (.int .u64 O) ∧ w'.cell? ⟨bb, off, none⟩ = some (.int .u8 pr)) (first | go_keep | exact ⟨t1, t2, t3, t4⟩ | (refine ⟨?_, ?_, ?_, ?_⟩ <;> go_keep))
        (first
          | (go_at_call 20; (refine (copy_any _ [] _ (by exact HT.out) (by simp)).mono ?_); rintro e wT ⟨vT, rfl, hoT, hbT⟩; have t1 := (hbT.cell (p := ⟨g, 1, none⟩) (by exact hgl)).trans (show World.cell? _ _ = some (.int .u64 al) from x1); have t2 := (hbT.cell (p := ⟨g, 2, none⟩) (by exact hgl)).trans (show World.cell? _ _ = some (.int .u64 G) from x2); have t3 := (hbT.cell (p := ⟨g, 3, none⟩) (by exact hgl)).trans (show World.cell? _ _ = some (.int .u64 O) from x3); have t4 := (hbT.cell (p := ⟨bb, off, none⟩) (by exact hbl)).trans (show World.cell? _ _ = some (.int .u8 pr) from hx2); have hZT : Blk wT w.heap.size 29 #[.int .u64 0, .int .u64 0, .int .u8 0, .bool false, .slice none 0 0] := (by refine Blk.same ?_ hbT; exact hZ1); have hBT : Below w.heap.size w wT := (by refine Below.trans ?_ (hbT.mono ?_); exact below_drewN hB1 1; exact hB1.size); have hsT := hbT.size; have hlT : w.heap.size < wT.heap.size := hZT.lt; have hfar : ∀ q, q < w1.heap.size → vT.ownBlock ≠ some q := (fun q hq he => by have h1 := (hoT.lt q he).1; have h2 : w1.heap.size ≤ q := h1; omega); have zt0 := hZT.frozen 0; have zt1 := hZT.frozen 1; have zt2 := hZT.frozen 2; have zt3 := hZT.frozen 3; have zt4 := hZT.frozen 4; have yt0 : wT.cell? ⟨w.heap.size, 0, none⟩ = some (.int .u64 0) := hZT.cell 0; have yt1 : wT.cell? ⟨w.heap.size, 1, none⟩ = some (.int .u64 0) := hZT.cell 1; have yt2 : wT.cell? ⟨w.heap.size, 2, none⟩ = some (.int .u8 0) := hZT.cell 2; have yt3 : wT.cell? ⟨w.heap.size, 3, none⟩ = some (.bool false) := hZT.cell 3; have yt4 : wT.cell? ⟨w.heap.size, 4, none⟩ = some (.slice none 0 0) := hZT.cell 4; obtain ⟨AT, kT, rfl⟩ := (rd_of_own (k := .u8) hoT).form))
      all_goals go_wp2_with fail
      all_goals refine bodyPost_ret (v := .tuple #[.int .u64 al, .agg #[.int .u64 G, .int .u64 O, .int .u8 pr, .bool true, (.slice AT 0 kT)], .int .i64 0]) (by simp [results, Try.results22, go_sem, yt0, yt1, yt2, yt3, yt4]) rfl ⟨_, rfl, ?_, ?_⟩
      · have h0 : ∀ i, (Value.slice AT 0 kT).ownBlock ≠ some (⟨w.heap.size, i, none⟩ : Addr).block := fun i => hfar _ hm1
        exact rd_of_own (k := .u8) (l := []) (own_far (own_far (own_far (own_far (own_far hoT (h0 _) _) (h0 _) _) (h0 _) _) (h0 _) _) (h0 _) _)
      · exact (((((hBT.setCell (Nat.le_refl _) _).setCell (Nat.le_refl _) _).setCell (Nat.le_refl _) _).setCell (Nat.le_refl _) _).setCell (Nat.le_refl _) _)
    · skip
      have HT := Lib.hid hS
      have hci : (1 : Int) < (c2 : Int) := by omega
      have hi1 : (1 : Int) ≤ (rest.length : Int) + 1 := by omega
      have hi2 : (rest.length : Int) + 1 ≤ (c2 : Int) := by omega
      have hi3 : (1 : Int) ≤ (c2 : Int) := by omega
      have hi4 : 1 < c2 := by omega
      have hi5 : ((rest.length + 1 : Nat) : Int) ≤ (c2 : Int) := by omega
      have hi6 : (1 : Int) ≤ ((rest.length + 1 : Nat) : Int) := by omega
      go_wp2_with fail
      go_region_held3 (fun w' => w'.cell? ⟨g, 1, none⟩ = some (.int .u64 al) ∧ w'.cell? ⟨g, 2, none⟩ = some (.int .u64 G) ∧ w'.cell? ⟨g, 3, none⟩ = some (.int .u64 O) ∧ w'.cell? ⟨bb, off, none⟩ = some (.int .u8 pr)) (first | go_keep | exact ⟨t1, t2, t3, t4⟩ | (refine ⟨?_, ?_, ?_, ?_⟩ <;> go_keep))
        (first
          | (go_at_call 20; (refine (copy_any _ rest _ (by exact HT.out) (by omega)).mono ?_); rintro e wT ⟨vT, rfl, hoT, hbT⟩; have t1 := (hbT.cell (p := ⟨g, 1, none⟩) (by exact hgl)).trans (show World.cell? _ _ = some (.int .u64 al) from x1); have t2 := (hbT.cell (p := ⟨g, 2, none⟩) (by exact hgl)).trans (show World.cell? _ _ = some (.int .u64 G) from x2); have t3 := (hbT.cell (p := ⟨g, 3, none⟩) (by exact hgl)).trans (show World.cell? _ _ = some (.int .u64 O) from x3); have t4 := (hbT.cell (p := ⟨bb, off, none⟩) (by exact hbl)).trans (show World.cell? _ _ = some (.int .u8 pr) from hx2); have hZT : Blk wT w.heap.size 29 #[.int .u64 0, .int .u64 0, .int .u8 0, .bool false, .slice none 0 0] := (by refine Blk.same ?_ hbT; exact hZ1); have hBT : Below w.heap.size w wT := (by refine Below.trans ?_ (hbT.mono ?_); exact below_drewN hB1 1; exact hB1.size); have hsT := hbT.size; have hlT : w.heap.size < wT.heap.size := hZT.lt; have hfar : ∀ q, q < w1.heap.size → vT.ownBlock ≠ some q := (fun q hq he => by have h1 := (hoT.lt q he).1; have h2 : w1.heap.size ≤ q := h1; omega); have zt0 := hZT.frozen 0; have zt1 := hZT.frozen 1; have zt2 := hZT.frozen 2; have zt3 := hZT.frozen 3; have zt4 := hZT.frozen 4; have yt0 : wT.cell? ⟨w.heap.size, 0, none⟩ = some (.int .u64 0) := hZT.cell 0; have yt1 : wT.cell? ⟨w.heap.size, 1, none⟩ = some (.int .u64 0) := hZT.cell 1; have yt2 : wT.cell? ⟨w.heap.size, 2, none⟩ = some (.int .u8 0) := hZT.cell 2; have yt3 : wT.cell? ⟨w.heap.size, 3, none⟩ = some (.bool false) := hZT.cell 3; have yt4 : wT.cell? ⟨w.heap.size, 4, none⟩ = some (.slice none 0 0) := hZT.cell 4; obtain ⟨AT, kT, rfl⟩ := (rd_of_own (k := .u8) hoT).form))
      all_goals go_wp2_with fail
      all_goals refine bodyPost_ret (v := .tuple #[.int .u64 al, .agg #[.int .u64 G, .int .u64 O, .int .u8 pr, .bool true, (.slice AT rest.length kT)], .int .i64 0]) (by simp [results, Try.results22, go_sem, yt0, yt1, yt2, yt3, yt4]) rfl ⟨_, rfl, ?_, ?_⟩
      · have h0 : ∀ i, (Value.slice AT rest.length kT).ownBlock ≠ some (⟨w.heap.size, i, none⟩ : Addr).block := fun i => hfar _ hm1
        exact rd_of_own (k := .u8) (l := rest) (own_far (own_far (own_far (own_far (own_far hoT (h0 _) _) (h0 _) _) (h0 _) _) (h0 _) _) (h0 _) _)
      · exact (((((hBT.setCell (Nat.le_refl _) _).setCell (Nat.le_refl _) _).setCell (Nat.le_refl _) _).setCell (Nat.le_refl _) _).setCell (Nat.le_refl _) _)

end Go.Proofs.Ythmdbkefbbjfmaa
