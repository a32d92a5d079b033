/-
  slices.Insert of one range into a row of the call's own. No condition.
-/
import Derived.Test.YtcmkegkljappfaaSbuf
import Derived.Laws.Externs
import Derived.Deep.RegionLaw
namespace Go.Proofs.Ytcmkegkljappfaa
open Go.RowKit
set_option linter.unusedVariables false
set_option linter.unusedSimpArgs false
open Go.Lib
theorem infoR : (Try.prog.info? 30).map (fun i => (i.zero, i.size, i.bytes)) = some (some (.agg #[.int .u64 0, .int .u64 0]), 2, 16) := by kernel_rfl
theorem sizeR (w : World) : (Go.sizeOf 30).run Try.prog w = .ok 2 w := by
  obtain ⟨i, hi, h0, h1, h2⟩ := info_parts infoR
  simp [Go.sizeOf, typeInfo, hi, h1]
theorem sizeI : (Try.prog.info? 30).map (·.size) = some 2 := by
  obtain ⟨i, hi, h0, h1, h2⟩ := info_parts infoR
  simp [hi, h1]
/-- A row of the call's own, laid open. -/
theorem own_open {w : World} {B n cap : Nat} {A : Option Addr} {xs : List Value} (h : w.ownsRow B 30 2 (.slice A n cap) n xs) (hn : 0 < n) :
    ∃ g cur, A = some ⟨g, 0, none⟩ ∧ B ≤ g ∧ Blk w g 30 (List.toArray cur) ∧ n ≤ cap ∧ cap ≤ maxLen ∧ cur.length = cap * 2 ∧ cur.take (n * 2) = xs := by
  rcases h.2 with ⟨h', h0⟩ | ⟨g, cap', cur, h', hb, hg, h1, h2, h3, h4⟩
  · omega
  · simp only [Value.slice.injEq, true_and] at h'
    obtain ⟨rfl, rfl⟩ := h'
    exact ⟨g, cur.toList, rfl, hb, by simpa [Blk] using hg, h1, h2, by simpa using h3, h4⟩
theorem own_shut {w : World} {B g n cap : Nat} {cur xs : List Value} (hB : B ≤ g) (hg : Blk w g 30 cur.toArray) (hn : n ≤ cap) (hm : cap ≤ maxLen) (hl : cur.length = cap * 2) (hx : cur.take (n * 2) = xs) :
    w.ownsRow B 30 2 (.slice (some ⟨g, 0, none⟩) n cap) n xs := by
  refine ⟨by rw [← hx]; simp; omega, .inr ⟨g, cap, cur.toArray, rfl, hB, hg, hn, hm, by simpa using hl, by simpa using hx⟩⟩
theorem spl_take {cur cs : List Value} {o : Nat} (h : o ≤ cur.length) : (spl cur o cs).take (o + cs.length) = cur.take o ++ cs := by
  unfold spl
  have e : o + cs.length = (cur.take o ++ cs).length := by simp; omega
  rw [e, List.take_left]
theorem spl_before {cur cs : List Value} {o k : Nat} (hk : k ≤ o) (h : o ≤ cur.length) : (spl cur o cs).take k = cur.take k := by
  unfold spl
  rw [List.append_assoc, List.take_append_of_le_length (by simp; omega), List.take_take]
  congr 1
  omega
theorem spl_getE {cur cs : List Value} {o k : Nat} (hk : k < o) (h : o ≤ cur.length) : (spl cur o cs)[k]? = cur[k]? := by
  unfold spl
  rw [List.append_assoc, List.getElem?_append_left (by simp; omega), List.getElem?_take]
  simp [hk]
theorem pcs_drop (l : List (Int × Int)) (k : Nat) : pcs (l.drop k) = (pcs l).drop (k * 2) := by
  induction l generalizing k with
  | nil => simp [pcs]
  | cons x r ih =>
    cases k with
    | zero => simp [pcs]
    | succ k =>
      rw [show (k + 1) * 2 = k * 2 + 2 by omega, show pcs (x :: r) = .int .u64 x.1 :: .int .u64 x.2 :: pcs r from rfl]
      simpa using ih k
theorem pcs_eq {cur : List Value} {L : List (Int × Int)} {n : Nat} (h : cur.take (n * 2) = pcs L) {k : Nat} (hk : k ≤ n) : cur.take (k * 2) = pcs (L.take k) := by
  rw [pcs_take, ← h, List.take_take]
  congr 1
  omega
/-- The cells from the k-th element on, as copy reads them. -/
theorem src_at {w : World} {g k n : Nat} {cur : List Value} {L : List (Int × Int)} (hg : Blk w g 30 cur.toArray) (h : cur.take (n * 2) = pcs L) (j : Nat) (v : Value) (hj : (pcs (L.drop k))[j]? = some v) :
    w.cell? ((⟨g, k * 2, none⟩ : Addr).add j) = some v := by
  rw [addr_add, hg.cell]
  rw [pcs_drop, List.getElem?_drop, ← h, List.getElem?_take] at hj
  split at hj
  · simpa using hj
  · cases hj
theorem src_one {w : World} {vb : Nat} {f t : Int} (hv : Blk w vb 30 #[.int .u64 f, .int .u64 t]) (j : Nat) (v : Value) (hj : (pcs [(f, t)])[j]? = some v) : w.cell? ((⟨vb, 0, none⟩ : Addr).add j) = some v := by
  rw [addr_add, hv.cell]
  simpa [pcs] using hj
theorem rdv_one {w : World} {vb : Nat} {f t : Int} (hv : Blk w vb 30 #[.int .u64 f, .int .u64 t]) : RdV w 2 (some ⟨vb, 0, none⟩) 1 (pcs [(f, t)]) :=
  ⟨rfl, fun k hk => ⟨vb, 0, rfl, hv.lt, fun j hj => by
    obtain rfl : k = 0 := by omega
    rw [hv.cell]
    match j, hj with
    | 0, _ => rfl
    | 1, _ => rfl⟩⟩
theorem grown_pre {w w' : World} {r : Option Nat} (h : w.drew.grownBy w' r) : w.grownBy w' r := ⟨h.os, h.tape, h.output, h.size, h.block⟩
theorem spl_two {cur c D : List Value} {a : Nat} (hc : c.length = 2) (h : a + 2 ≤ cur.length) : (spl (spl cur (a + 2) D) a c).take (a + 2 + D.length) = cur.take a ++ c ++ D := by
  have e1 : (spl cur (a + 2) D).take a = cur.take a := spl_before (by omega) h
  have e2 : (spl cur (a + 2) D).drop (a + 2) = D ++ cur.drop (a + 2 + D.length) := by
    unfold spl
    rw [List.append_assoc, List.drop_append_of_le_length (by simp; omega), List.drop_take, Nat.sub_self]
    simp
  rw [show spl (spl cur (a + 2) D) a c = (spl cur (a + 2) D).take a ++ c ++ (spl cur (a + 2) D).drop (a + c.length) from rfl, e1, hc, e2, ← List.append_assoc]
  have e3 : a + 2 + D.length = (cur.take a ++ c ++ D).length := by simp; omega
  rw [e3, List.take_left]
theorem below_refl_alloc (w : World) (cells2 : List Value) : Below w.heap.size w (w.alloc (.cells cells2.toArray 30)).drew := below_drewN ((Below.refl _ _).alloc (Nat.le_refl _) _) 1
/-- The model's own: two slices in two blocks do not overlap. -/
theorem over_no {w : World} {vb g o : Nat} {f t : Int} {cur : List Value} (hv : Blk w vb 30 #[.int .u64 f, .int .u64 t]) (hg : Blk w g 30 cur.toArray) (hne : vb ≠ g) (hc : cur.length ≠ 0) (lb cb : Nat) :
    (callFunc 36 #[.slice (some ⟨vb, 0, none⟩) 1 1, .slice (some ⟨g, o, none⟩) lb cb]).run Try.prog w = .ok (.value (.bool false)) w := by
  rw [run_callFunc_extern Try.func36 (by kernel_rfl) (by kernel_rfl) (by kernel_rfl) (e := Extern.SlicesOverlaps.overlaps #[22, 22] #[4]) (by kernel_rfl),
    Lib.run_overlaps_apart w 22 4 30 Try.underlying22 2 sizeR ⟨vb, 0, none⟩ ⟨g, o, none⟩ 1 1 lb cb hne 30 30 2 cur.length (by unfold Blk at hv; simp [World.shape?, hv]) (by unfold Blk at hg; simp [World.shape?, hg]) hc (hv.frozen 0) (hv.frozen 2)]
  rfl
set_option maxHeartbeats 4000000 in
set_option maxRecDepth 100000 in
theorem ins_end (B i n cap vb : Nat) (A : Option Addr) (f t : Int) (L : List (Int × Int)) (w : World) (hown : w.ownsRow B 30 2 (.slice A n cap) n (pcs L)) (hB : B ≤ w.heap.size) (hn : n ≤ 1000000000) (hv : Blk w vb 30 #[.int .u64 f, .int .u64 t]) (hne : (Value.slice A n cap).ownBlock ≠ some vb) (hi' : i = n) :
    Calls Try.prog 35 #[.slice A n cap, .int .i64 i, .slice (some ⟨vb, 0, none⟩) 1 1] w fun e w' => ∃ v', e = .returned v' ∧ w'.ownsRow B 30 2 v' (n + 1) (pcs (L.take i ++ (f, t) :: L.drop i)) ∧ w.grownBy w' (Value.slice A n cap).ownBlock ∧ (v'.ownBlock = (Value.slice A n cap).ownBlock ∨ ∃ b, v'.ownBlock = some b ∧ w.heap.size ≤ b) := by
  obtain ⟨i0, hi, hz0, hz1, hz2⟩ := info_parts infoR
  have hlen : L.length = n := by have := hown.1; rw [pcs_len] at this; omega
  subst hi'
  have e1 : L.take i ++ (f, t) :: L.drop i = L ++ [(f, t)] := by rw [List.take_of_length_le (by omega), List.drop_eq_nil_of_le (by omega)]
  rw [e1, pcs_app]
  clear e1 hlen
  have hA : A = none → i = 0 ∧ cap = 0 := by
    rintro rfl
    rcases hown.2 with ⟨h', h0⟩ | ⟨g, cap', cur, h', _⟩
    · simp only [Value.slice.injEq] at h'
      exact ⟨h0, h'.2.2⟩
    · simp at h'
  have hic : i ≤ cap ∧ cap ≤ maxLen := by
    rcases hown.2 with ⟨h', h0⟩ | ⟨g, cap', cur, h', _, _, h1, h2, _⟩
    · simp only [Value.slice.injEq] at h'
      unfold maxLen
      omega
    · simp only [Value.slice.injEq] at h'
      obtain ⟨_, _, rfl⟩ := h'
      exact ⟨h1, h2⟩
  obtain ⟨hic, hcm⟩ := hic
  have hcm' : cap ≤ 9223372036854775807 := by unfold maxLen at hcm; omega
  clear hcm
  rcases A with _ | ad
  · obtain ⟨rfl, rfl⟩ := hA rfl
    clear hA
    go_enter Try.func35, Try.ntmps35
    go_wp2_with (at_builtin; refine wpList_append_any _ rfl _ _ 22 rfl B 30 i0 _ 2 16 Try.underlying22 hi hz0 hz1 hz2 rfl (by decide) _ 0 _ rfl hown (some ⟨vb, 0, none⟩) 1 1 (pcs [(f, t)]) rfl (rdv_one hv) (pcs_one _) (by decide) (by decide) hB (by simp) ?_; intro v4 w4 hown4 hgrow4 hat4)
    go_ret
    exact ⟨_, rfl, hown4, hgrow4, hat4.imp id (fun h => ⟨_, h, Nat.le_refl _⟩)⟩
  · clear hA
    by_cases hcap : cap = i
    all_goals
      go_enter Try.func35, Try.ntmps35
      go_wp2_with (at_builtin; refine wpList_append_any _ rfl _ _ 22 rfl B 30 i0 _ 2 16 Try.underlying22 hi hz0 hz1 hz2 rfl (by decide) _ i _ rfl hown (some ⟨vb, 0, none⟩) 1 1 (pcs [(f, t)]) rfl (rdv_one hv) (pcs_one _) (by unfold maxLen; omega) (by omega) hB (by simp) ?_; intro v4 w4 hown4 hgrow4 hat4)
      go_ret
      exact ⟨_, rfl, hown4, hgrow4, hat4.imp id (fun h => ⟨_, h, Nat.le_refl _⟩)⟩
set_option maxHeartbeats 4000000 in
set_option maxRecDepth 100000 in
theorem ins_room (B i n cap vb : Nat) (A : Option Addr) (f t : Int) (L : List (Int × Int)) (w : World) (hown : w.ownsRow B 30 2 (.slice A n cap) n (pcs L)) (hB : B ≤ w.heap.size) (hn : n ≤ 1000000000) (hv : Blk w vb 30 #[.int .u64 f, .int .u64 t]) (hne : (Value.slice A n cap).ownBlock ≠ some vb) (hi' : i < n) (hroom : n + 1 ≤ cap) :
    Calls Try.prog 35 #[.slice A n cap, .int .i64 i, .slice (some ⟨vb, 0, none⟩) 1 1] w fun e w' => ∃ v', e = .returned v' ∧ w'.ownsRow B 30 2 v' (n + 1) (pcs (L.take i ++ (f, t) :: L.drop i)) ∧ w.grownBy w' (Value.slice A n cap).ownBlock ∧ (v'.ownBlock = (Value.slice A n cap).ownBlock ∨ ∃ b, v'.ownBlock = some b ∧ w.heap.size ≤ b) := by
  obtain ⟨i0, hi, hz0, hz1, hz2⟩ := info_parts infoR
  have hlen : L.length = n := by have := hown.1; rw [pcs_len] at this; omega
  obtain ⟨g, cur, rfl, hBg, hg, hnc, hcm, hcl, hcur⟩ := own_open hown (by omega)
  have hcm' : cap ≤ 9223372036854775807 := by unfold maxLen at hcm; omega
  have hvg : vb ≠ g := by rintro rfl; exact hne rfl
  have hov := fun lb cb => over_no (o := (i + 1) * 2) hv hg hvg (by omega) lb cb
  have hw1 : IntKind.i64.wrap ((n : Int) + 1) = (n : Int) + 1 := Go.IntWalk.i64_in _ (by omega)
  have hw2 : IntKind.i64.wrap ((i : Int) + 1) = (i : Int) + 1 := Go.IntWalk.i64_in _ (by omega)
  have hc1 : (n : Int) + 1 ≤ (cap : Int) := by omega
  have hc2 : ¬ (i : Int) = (n : Int) := by omega
  have hdl : (pcs (L.drop i)).length = (n - i) * 2 := by rw [pcs_len, List.length_drop, hlen]
  have hb1 : (0 : Int) ≤ (i : Int) + 1 := by omega
  have hin : i ≤ n := by omega
  have hb2 : ¬ cap = i + 1 := by omega
  have hb4 : ¬ cap = i := by omega
  have hb3 : (i : Int) ≤ (n : Int) + 1 := by omega
  have hb5 : i ≤ n + 1 := by omega
  have htn : ((i : Int) + 1).toNat = i + 1 := by omega
  clear hown hlen hne
  go_enter Try.func35, Try.ntmps35
  go_wp2_with (simp only [hov])
  go_region_law ((refine step_copy_w rfl (.tmp 73) (.tmp 76) 22 22 rfl 30 2 Try.underlying22 sizeI g ((i + 1) * 2) (n - i) (cap - (i + 1)) ⟨g, i * 2, none⟩ (n + 1 - i) (cap - i) cur 30 (pcs (L.drop i)) (by simp [Act.eval, Act.put]) (by simp [Act.eval, Act.put]) (by first | exact hg | exact hg.drew) (by rw [hdl]; simp only [Nat.min_def]; split <;> omega) (fun j v hj => by first | exact src_at hg hcur j v hj | exact src_at hg.drew hcur j v hj) (by rw [hdl]; omega) (pcs_one _) ?_; intro w4 hg4 hgr4))
  all_goals
    have hv4 := hv.grown (grown_pre hgr4) (by simp; exact hvg)
    have hsl : (spl cur ((i + 1) * 2) (pcs (L.drop i))).length = cap * 2 := by rw [spl_len (by rw [hdl]; omega)]; exact hcl
    clear hov hw1 hw2 htn
    go_wp2_with (with_reducible refine wpList_copy_w rfl (.tmp 80) (.tmp 81) 22 22 rfl 30 2 Try.underlying22 sizeI g (i * 2) (n + 1 - i) (cap - i) ⟨vb, 0, none⟩ 1 1 (spl cur ((i + 1) * 2) (pcs (L.drop i))) 30 (pcs [(f, t)]) rfl rfl hg4 (by simp only [Nat.min_def, pcs_len, List.length_singleton]; split <;> omega) (src_one hv4) (by rw [pcs_len, List.length_singleton]; omega) (pcs_one _) ?_; intro w5 hg5 hgr5)
    go_ret
    refine ⟨_, rfl, own_shut hBg hg5 (by omega) hcm (by rw [spl_len (by rw [pcs_len, List.length_singleton]; omega)]; exact hsl) ?_, grown_trans (grown_pre hgr4) hgr5, .inl rfl⟩
    have e := spl_two (cur := cur) (c := pcs [(f, t)]) (D := pcs (L.drop i)) (a := i * 2) rfl (by omega)
    rw [hdl, show i * 2 + 2 = (i + 1) * 2 by omega, show (i + 1) * 2 + (n - i) * 2 = (n + 1) * 2 by omega, pcs_eq hcur (by omega)] at e
    rw [e, pcs_app, List.append_assoc, ← pcs_app]
    rfl
theorem wpList_append_run {P : Program} {w : World} {ops : Array Oper} {rest : List Oper} {o : Oper} {a : Act} {Q : Exit → Act → World → Prop} (hgd : o.guard = none) (d s : Operand) (t t' : TypeId)
    (ho : o.op = .call { callee := .builtin .append, args := #[d, s], argTypes := #[t, t'] }) (v u : Value) (hd : a.eval d = v) (hs : a.eval s = u) {v' : Value} {w' : World}
    (hr : (Builtin.append_ #[t, t'] o.type #[v, u]).run P w = .ok v' w') (h : wpList P ops Q rest (a.put o.dst v') w') : wpList P ops Q (o :: rest) a w :=
  wpList_plain hgd fun _ hK => wp_append_w d s t t' ho v u hd hs hr (hK _ _ h)
/-- append(s[:i], make(S, k)...) where there is no room: a new row. -/
theorem run_make {w : World} {g i k cap : Nat} {cur : List Value} (hg : Blk w g 30 cur.toArray) (hi' : i * 2 ≤ cur.length) (hk : 0 < k) (hroom : cap < i + k) (hbig : i + k ≤ 1000000001) (ty : TypeId) :
    ∃ c2 cells2, (Builtin.append_ #[22, 3] ty #[.slice (some ⟨g, 0, none⟩) i cap, .int .i64 k]).run Try.prog w = .ok (.slice (some ⟨w.heap.size, 0, none⟩) (i + k) c2) (w.drew.alloc (.cells (List.toArray cells2) 30)) ∧
      i + k ≤ c2 ∧ c2 ≤ maxLen ∧ cells2.length = c2 * 2 ∧ cells2.take (i * 2) = cur.take (i * 2) := by
  obtain ⟨i0, hi, hz0, hz1, hz2⟩ := info_parts infoR
  have hold : (Builtin.firstCells i0.size i (.slice (some ⟨g, 0, none⟩) i cap)).run Try.prog w.drew = .ok (cur.take (i * 2)).toArray w.drew := by
    refine run_firstCells_some (P := Try.prog) w.drew i0.size i ⟨g, 0, none⟩ i cap (cur.take (i * 2)) (by rw [hz1]; simp; omega) fun j v hj => ?_
    rw [addr_add, hg.drew.cell]
    rw [List.getElem?_take] at hj
    split at hj
    · simpa using hj
    · cases hj
  have hrun := Lib.run_append_grow_zeros (P := Try.prog) w 22 3 ty 30 i0 _ .i64 .i64 Try.underlying22 Try.underlying3 hi hz0 (some ⟨g, 0, none⟩) i cap (cur.take (i * 2)) hold k hk (by omega) hroom (by omega) (by rw [hz2]; omega) (by rw [hz2]; exact growslice_fits hroom (by omega))
  have hge := grownCap_ge w (i + k) cap 30
  have hle := grownCap_le_maxLen w (i + k) cap 30 (by unfold maxLen; omega)
  refine ⟨grownCap w (i + k) cap 30, ((cur.take (i * 2)).toArray ++ Builtin.zeroCells (Value.agg #[.int .u64 0, .int .u64 0]).cells k ++ Builtin.zeroCells (Value.agg #[.int .u64 0, .int .u64 0]).cells (grownCap w (i + k) cap 30 - (i + k))).toList, by simpa only [Array.toArray_toList] using hrun, hge, hle, ?_, ?_⟩
  · rw [Array.length_toList, Array.size_append, Array.size_append, size_zeroCells, size_zeroCells, show (Value.agg #[.int .u64 0, .int .u64 0]).cells.size = 2 from rfl]
    simp only [List.size_toArray, List.length_take]
    omega
  · simp only [Array.toList_append, List.append_assoc]
    rw [List.take_append_of_le_length (by simp; omega), List.take_take, Nat.min_self]
set_option maxHeartbeats 4000000 in
set_option maxRecDepth 100000 in
theorem ins_grow (B i n cap vb : Nat) (A : Option Addr) (f t : Int) (L : List (Int × Int)) (w : World) (hown : w.ownsRow B 30 2 (.slice A n cap) n (pcs L)) (hB : B ≤ w.heap.size) (hn : n ≤ 1000000000) (hv : Blk w vb 30 #[.int .u64 f, .int .u64 t]) (hne : (Value.slice A n cap).ownBlock ≠ some vb) (hi' : i < n) (hroom : cap < n + 1) :
    Calls Try.prog 35 #[.slice A n cap, .int .i64 i, .slice (some ⟨vb, 0, none⟩) 1 1] w fun e w' => ∃ v', e = .returned v' ∧ w'.ownsRow B 30 2 v' (n + 1) (pcs (L.take i ++ (f, t) :: L.drop i)) ∧ w.grownBy w' (Value.slice A n cap).ownBlock ∧ (v'.ownBlock = (Value.slice A n cap).ownBlock ∨ ∃ b, v'.ownBlock = some b ∧ w.heap.size ≤ b) := by
  obtain ⟨i0, hi, hz0, hz1, hz2⟩ := info_parts infoR
  have hlen : L.length = n := by have := hown.1; rw [pcs_len] at this; omega
  obtain ⟨g, cur, rfl, hBg, hg, hnc, hcm, hcl, hcur⟩ := own_open hown (by omega)
  have hcm' : cap ≤ 9223372036854775807 := by unfold maxLen at hcm; omega
  have hvg : vb ≠ g := by rintro rfl; exact hne rfl
  have hgl := hg.lt
  have hvl := hv.lt
  have hw1 : IntKind.i64.wrap ((n : Int) + 1) = (n : Int) + 1 := Go.IntWalk.i64_in _ (by omega)
  have hw2 : IntKind.i64.wrap ((i : Int) + 1) = (i : Int) + 1 := Go.IntWalk.i64_in _ (by omega)
  obtain ⟨k, hk⟩ : ∃ k : Nat, k = n + 1 - i := ⟨_, rfl⟩
  have hk1 : (n : Int) + 1 - (i : Int) = (k : Int) := by omega
  have hw3 : IntKind.i64.wrap (k : Int) = (k : Int) := Go.IntWalk.i64_in _ (by omega)
  have hik : i + k = n + 1 := by omega
  have hk0 : 0 < k := by omega
  obtain ⟨c2, cells2, hrun, hc2a, hc2b, hc2c, hc2d⟩ : ∃ c2 cells2, (∀ ty, (Builtin.append_ #[22, 3] ty #[.slice (some ⟨g, 0, none⟩) i cap, .int .i64 k]).run Try.prog w = .ok (.slice (some ⟨w.heap.size, 0, none⟩) (n + 1) c2) (w.drew.alloc (.cells (List.toArray cells2) 30))) ∧
      n + 1 ≤ c2 ∧ c2 ≤ maxLen ∧ cells2.length = c2 * 2 ∧ cells2.take (i * 2) = cur.take (i * 2) := by
    obtain ⟨c2, cells2, h1, h2, h3, h4, h5⟩ := run_make hg (i := i) (k := k) (cap := cap) (by omega) hk0 (by omega) (by omega) 22
    rw [hik] at h1 h2
    exact ⟨c2, cells2, fun ty => by
      obtain ⟨c2', cells2', h1', _⟩ := run_make hg (i := i) (k := k) (cap := cap) (by omega) hk0 (by omega) (by omega) ty
      exact h1, h2, h3, h4, h5⟩
  have hc1 : ¬ (n : Int) + 1 ≤ (cap : Int) := by omega
  have hc2 : ¬ (i : Int) = (n : Int) := by omega
  have hc2m : c2 ≤ 9223372036854775807 := by unfold maxLen at hc2b; omega
  have hdl : (pcs (L.drop i)).length = (n - i) * 2 := by rw [pcs_len, List.length_drop, hlen]
  have hb1 : (0 : Int) ≤ (i : Int) + 1 := by omega
  have hin : i ≤ n := by omega
  have hb2 : ¬ c2 = i + 1 := by omega
  have hb4 : ¬ c2 = i := by omega
  have hb6 : ¬ cap = i := by omega
  have hb3 : (i : Int) ≤ (n : Int) + 1 := by omega
  have hb5 : i ≤ n + 1 := by omega
  have htn : ((i : Int) + 1).toNat = i + 1 := by omega
  have hbk := below_refl_alloc w cells2
  have hg2 : Blk (w.alloc (.cells cells2.toArray 30)).drew w.heap.size 30 cells2.toArray := (Blk.new w 30 cells2.toArray).drew
  have hv1 : Blk (w.alloc (.cells cells2.toArray 30)).drew vb 30 #[.int .u64 f, .int .u64 t] := (hv.alloc _).drew
  have hg1 : Blk (w.alloc (.cells cells2.toArray 30)).drew g 30 cur.toArray := (hg.alloc _).drew
  clear hown hlen hne hk
  go_enter Try.func35, Try.ntmps35
  go_wp2_with (first
    | (with_reducible refine wpList_copy_w rfl (.tmp 43) (.tmp 44) 22 22 rfl 30 2 Try.underlying22 sizeI w.heap.size (i * 2) (n + 1 - i) (c2 - i) ⟨vb, 0, none⟩ 1 1 cells2 30 (pcs [(f, t)]) rfl rfl hg2 (by simp only [Nat.min_def, pcs_len, List.length_singleton]; split <;> omega) (src_one hv1) (by rw [pcs_len, List.length_singleton]; omega) (pcs_one _) ?_; intro w4 hg4 hgr4; clear hrun)
    | (at_builtin; refine wpList_append_run rfl (.tmp 34) (.tmp 39) 22 3 rfl _ _ rfl rfl (hrun _) ?_))
  have hgo := hg1.grown hgr4 (by simp; omega)
  have hb4' := hbk.grown hgr4 hbk.size (fun b e => by injection e with e; omega)
  have hsl : (spl cells2 (i * 2) (pcs [(f, t)])).length = c2 * 2 := by rw [spl_len (by rw [pcs_len, List.length_singleton]; omega)]; exact hc2c
  clear hg1 hv1 hg2 hgr4 hbk
  go_region_law ((refine step_copy_w rfl (.tmp 50) (.tmp 53) 22 22 rfl 30 2 Try.underlying22 sizeI w.heap.size ((i + 1) * 2) (n - i) (c2 - (i + 1)) ⟨g, i * 2, none⟩ (n - i) (cap - i) (spl cells2 (i * 2) (pcs [(f, t)])) 30 (pcs (L.drop i)) (by simp [Act.eval, Act.put]) (by simp [Act.eval, Act.put]) (by first | exact hg4 | exact hg4.drew) (by rw [hdl]; simp only [Nat.min_def]; split <;> omega) (fun j v hj => by first | exact src_at hgo hcur j v hj | exact src_at hgo.drew hcur j v hj) (by rw [hdl]; omega) (pcs_one _) ?_; intro w5 hg5 hgr5))
  all_goals
    clear hw1 hw2 htn
    go_wp2_with fail
    go_ret
    refine ⟨_, rfl, own_shut hB hg5 (by omega) hc2b (by rw [spl_len (by rw [hdl]; omega)]; exact hsl) ?_, grown_below (hb4'.grown (grown_pre hgr5) hb4'.size (fun b e => by injection e with e; omega)) _, .inr ⟨_, rfl, Nat.le_refl _⟩⟩
    have e := spl_take (cur := spl cells2 (i * 2) (pcs [(f, t)])) (cs := pcs (L.drop i)) (o := (i + 1) * 2) (by omega)
    have e2 := spl_take (cur := cells2) (cs := pcs [(f, t)]) (o := i * 2) (by omega)
    rw [pcs_len, List.length_singleton, show i * 2 + 1 * 2 = (i + 1) * 2 by omega, hc2d, pcs_eq hcur (by omega)] at e2
    rw [hdl, show (i + 1) * 2 + (n - i) * 2 = (n + 1) * 2 by omega, e2] at e
    rw [e, pcs_app, List.append_assoc, ← pcs_app]
    rfl
set_option maxHeartbeats 4000000 in
set_option maxRecDepth 100000 in
theorem ins_any (B i n cap vb : Nat) (A : Option Addr) (f t : Int) (L : List (Int × Int)) (w : World) (hown : w.ownsRow B 30 2 (.slice A n cap) n (pcs L)) (hB : B ≤ w.heap.size) (hn : n ≤ 1000000000) (hv : Blk w vb 30 #[.int .u64 f, .int .u64 t]) (hne : (Value.slice A n cap).ownBlock ≠ some vb) (hi' : i ≤ n) :
    Calls Try.prog 35 #[.slice A n cap, .int .i64 i, .slice (some ⟨vb, 0, none⟩) 1 1] w fun e w' => ∃ v', e = .returned v' ∧ w'.ownsRow B 30 2 v' (n + 1) (pcs (L.take i ++ (f, t) :: L.drop i)) ∧ w.grownBy w' (Value.slice A n cap).ownBlock ∧ (v'.ownBlock = (Value.slice A n cap).ownBlock ∨ ∃ b, v'.ownBlock = some b ∧ w.heap.size ≤ b) := by
  rcases Nat.lt_or_eq_of_le hi' with h | h
  · rcases Nat.lt_or_ge cap (n + 1) with h2 | h2
    · exact ins_grow B i n cap vb A f t L w hown hB hn hv hne h h2
    · exact ins_room B i n cap vb A f t L w hown hB hn hv hne h h2
  · exact ins_end B i n cap vb A f t L w hown hB hn hv hne h

end Go.Proofs.Ytcmkegkljappfaa
