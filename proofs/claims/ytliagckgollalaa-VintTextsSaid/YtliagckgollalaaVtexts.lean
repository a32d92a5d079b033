/-
  VintTexts: texts one behind the other are read one by one, to the end. For every input; no condition.
-/
import Derived.Test.YtliagckgollalaaVforms
import Derived.Test.YtliagckgollalaaVtxt
import Derived.Test.YtliagckgollalaaOpen
namespace Go.Proofs.Ytliagckgollalaa
open Go.RowKit
set_option linter.unusedVariables false
set_option linter.unusedSimpArgs false


/-- Texts, each short; their bytes one behind the other. -/
def Short (ts : List (List Int)) : Prop := ∀ x ∈ ts, x.length ≤ 200 ∧ BytesOk x
def joinT (ts : List (List Int)) : List Int := ts.flatMap txtB
theorem joinT_snoc (ts : List (List Int)) (x : List Int) : joinT (ts ++ [x]) = joinT ts ++ txtB x := by simp [joinT]
theorem txtB_len (x : List Int) (h : x.length ≤ 200) : (txtB x).length ≤ 208 := by
  have hv := vsz_len x (by omega)
  have := vform_len (x.length : Int) (vsz x.length) (vsz_in _ hv)
  have h8 : vsz (x.length : Int) ≤ 8 := by rcases vsz_in _ hv with h | h | h | h <;> omega
  unfold txtB
  rw [List.length_append]
  omega
theorem txtB_ok (x : List Int) (h : x.length ≤ 200) (hk : BytesOk x) : BytesOk (txtB x) := by
  have hv := vsz_len x (by omega)
  unfold txtB
  exact (vform_ok _ _ (by omega) (vsz_in _ hv) hv (Nat.le_refl _)).append hk
theorem joinT_len (ts : List (List Int)) (h : Short ts) : (joinT ts).length ≤ 208 * ts.length := by
  induction ts with
  | nil => simp [joinT]
  | cons p r ih =>
    have := ih (fun q hq => h q (by simp [hq]))
    have hl := txtB_len p (h p (by simp)).1
    rw [show joinT (p :: r) = txtB p ++ joinT r from rfl, List.length_append, List.length_cons]
    omega
theorem joinT_ok (ts : List (List Int)) (h : Short ts) : BytesOk (joinT ts) := by
  induction ts with
  | nil => intro x hx; simp [joinT] at hx
  | cons p r ih =>
    rw [show joinT (p :: r) = txtB p ++ joinT r from rfl]
    exact (txtB_ok p (h p (by simp)).1 (h p (by simp)).2).append (ih (fun q hq => h q (by simp [hq])))
theorem Short.drop {ts : List (List Int)} (h : Short ts) (j : Nat) : Short (ts.drop j) := fun p hp => h p (List.mem_of_mem_drop hp)
theorem Short.take {ts : List (List Int)} (h : Short ts) (j : Nat) : Short (ts.take j) := fun p hp => h p (List.mem_of_mem_take hp)
theorem Short.getD {ts : List (List Int)} (h : Short ts) {j : Nat} (hj : j < ts.length) : (ts.getD j []).length ≤ 200 ∧ BytesOk (ts.getD j []) := by
  have := h ts[j] (List.getElem_mem hj)
  simpa [List.getD, hj] using this
theorem vtext_txt (x r : List Int) (most : Int) (h : x.length ≤ 200) : vtext (txtB x ++ r) most = if most < 0 ∨ most < x.length then ([], [], 3) else (x, r, 0) := by
  have hv := vsz_len x (by omega)
  have ht : vtake (txtB x ++ r) = some ((x.length : Int), x ++ r) := by
    unfold txtB
    rw [List.append_assoc]
    exact vtake_form _ _ _ (by omega) (vsz_in _ hv) hv (Nat.le_refl _)
  rw [vtext_some most ht]
  by_cases hc : most < 0 ∨ most < x.length
  · rw [if_pos hc, if_pos hc]
  · rw [if_neg hc, if_neg hc, if_neg (by simp; omega)]
    simp
theorem joinT_drop (ts : List (List Int)) {j : Nat} (hj : j < ts.length) : joinT (ts.drop j) = txtB (ts.getD j []) ++ joinT (ts.drop (j + 1)) := by
  have e : ts.getD j [] = ts[j] := by simp [List.getD, hj]
  rw [e, List.drop_eq_getElem_cons hj]
  rfl
theorem joinT_take (ts : List (List Int)) {j : Nat} (hj : j < ts.length) : joinT (ts.take (j + 1)) = joinT (ts.take j) ++ txtB (ts.getD j []) := by
  rw [List.take_succ_eq_append_getElem hj, joinT_snoc]
  simp [List.getD, hj]

/-- A slice of slices of bytes that reads as a list of lists. -/
def Rows2 (w : World) (A : Option Addr) (n : Nat) (ls : List (List Int)) : Prop :=
  ls.length = n ∧ ∀ k, k < n → ∃ b off v, A = some ⟨b, off, none⟩ ∧ b < w.heap.size ∧ w.cell? ⟨b, off + k, none⟩ = some v ∧ Rd w .u8 v (ls.getD k []) ∧ BytesOk (ls.getD k [])
theorem Rows2.below {w w' : World} {A : Option Addr} {n : Nat} {ls : List (List Int)} (h : Rows2 w A n ls) (hb : Below w.heap.size w w') : Rows2 w' A n ls :=
  ⟨h.1, fun k hk => by
    obtain ⟨b, off, v, e, hlt, hc, hr, hk⟩ := h.2 k hk
    exact ⟨b, off, v, e, Nat.lt_of_lt_of_le hlt hb.size, (hb.cell (p := ⟨b, _, none⟩) hlt).trans hc, hr.below hb, hk⟩⟩
open Go.ChangeShapes Go.WideShapes Go.ChangeAt Go.Deep in
theorem rows_of {H : Type} {enc : TypeId × Value → H} {W : World} {A : Option Addr} {n c : Nat} {d : DataW H} {p : List MemPlace}
    (h : DataW.Trod enc Try.prog W 0 (fun _ => true) true 51 (.slice A n c) d p) : n ≤ c ∧ c ≤ maxLen ∧ ∃ ls, Rows2 W A n ls := by
  obtain ⟨fuel, hf⟩ := h
  obtain ⟨h1, h2, _, G, hs, hk⟩ := open_elems (C := 1) Try.underlying51 (by kernel_rfl) (by decide) hf
  have key : ∀ k, k < n → ∃ l, Rd W .u8 (G k 0) l ∧ BytesOk l := by
    intro k hkn
    obtain ⟨m, y, hy⟩ := hk k hkn
    simp only [List.range_one, List.map_cons, List.map_nil] at hy
    rcases open_slice Try.underlying23 hy with ⟨e, _⟩ | ⟨a, len, cap, m', n', D, Pl, e, _⟩
    · simp only [List.cons.injEq, and_true] at e
      rw [e]
      exact ⟨[], Rd.nil _ _, fun x hx => by simp at hx⟩
    · simp only [List.cons.injEq, and_true] at e
      rw [e] at hy ⊢
      exact bytes_of ⟨m, hy⟩
  have gen : ∀ n, (∀ k, k < n → ∃ l, Rd W .u8 (G k 0) l ∧ BytesOk l) → ∃ ls : List (List Int), ls.length = n ∧ ∀ k, k < n → Rd W .u8 (G k 0) (ls.getD k []) ∧ BytesOk (ls.getD k []) := by
    intro n
    induction n with
    | zero => exact fun _ => ⟨[], rfl, fun k hk => absurd hk (by omega)⟩
    | succ n ih =>
      intro hh
      obtain ⟨ls, hl, hg⟩ := ih (fun k hk => hh k (by omega))
      obtain ⟨l, hl1, hl2⟩ := hh n (by omega)
      refine ⟨ls ++ [l], by simp [hl], fun k hk => ?_⟩
      by_cases hkn : k < n
      · have := hg k hkn
        simpa [List.getD, List.getElem?_append_left (show k < ls.length by omega)] using this
      · obtain rfl : k = n := by omega
        simpa [List.getD, List.getElem?_append_right (show ls.length ≤ k by omega), hl] using ⟨hl1, hl2⟩
  obtain ⟨ls, hl, hg⟩ := gen n key
  refine ⟨h1, h2, ls, hl, fun k hkn => ?_⟩
  obtain ⟨b, off, e, hlt, hc⟩ := hs k hkn
  exact ⟨b, off, _, e, hlt, by simpa using hc 0 (by decide), (hg k hkn).1, (hg k hkn).2⟩

set_option maxHeartbeats 800000 in
set_option maxRecDepth 100000 in
theorem texts_tail (N : Nat) (A : Option Addr) (n cap : Nat) (m : Int) (ls ts : List (List Int)) (w : World) (hr : Rows2 w A n ls) (hm : 0 ≤ m ∧ m ≤ 255) (hN : N ≤ n) (hN20 : N ≤ 20) (hNm : N = 20 ∧ 20 < n ∨ N = n ∧ n ≤ 20) (hnc : n ≤ cap) (hcm : cap ≤ 9223372036854775807)
    (hts : ts = (ls.take N).map (List.take 200)) :
    Calls Try.prog 7 #[.slice A n cap, .int .u8 m] w fun e w' => e = .returned (.bool true) ∧ Below w.heap.size w w' := by
  obtain ⟨i0, hi, hz0, hz1, hz2⟩ := info_parts infoB
  have hlsn : ls.length = n := hr.1
  have htn : ts.length = N := by rw [hts]; simp; omega
  have hget : ∀ k, k < N → (ls.getD k []).take 200 = ts.getD k [] := fun k hk => by
    rw [hts]; simp [List.getD, hk, hlsn, show k < n by omega]
  have hsh : Short ts := fun x hx => by
    rw [hts] at hx
    obtain ⟨y, hy, rfl⟩ := List.mem_map.1 hx
    obtain ⟨k, hk, rfl⟩ := List.getElem_of_mem (List.mem_of_mem_take hy)
    obtain ⟨_, _, _, _, _, _, _, hok⟩ := hr.2 k (by omega)
    refine ⟨by simp; omega, BytesOk.take ?_ 200⟩
    simpa [List.getD, hk] using hok
  have HR := Lib.hid hr
  have HS := Lib.hid hsh
  have HG := Lib.hid hget
  have HT := Lib.hid htn
  clear hr hsh hget htn hts hlsn
  rcases hNm with ⟨rfl, hn20⟩ | ⟨rfl, hn20⟩
  · go_enter Try.func7, Try.ntmps7
    go_wp2_with fail
    refine (awake_any _).mono ?_
    rintro e w1 ⟨rfl, hB⟩
    go_wp2_with fail
    go_loopw [5, 25] (fun p5 i wr => ∃ (pv : Value) (k : Nat), pv = p5 ∧ k ≤ 20 ∧ i = .int .i64 k ∧ wr.ownsRow w.heap.size 5 1 pv (joinT (ts.take k)).length ((joinT (ts.take k)).map (Value.int .u8)) ∧ Below w.heap.size w wr) (fun _ i _ => 20 - (intOf i).toNat)
    case atStart => exact ⟨_, 0, rfl, Nat.zero_le _, rfl, World.ownsRow_nil _ _ _ _, hB⟩
    case round =>
      obtain ⟨pv, k, rfl, hkN, rfl, hop, hB⟩ := hrel
      by_cases hlt : k < 20
      · obtain ⟨b, off, v, rfl, hb, hc, hrd, hok⟩ := (HR.out.below hB).2 k (by omega)
        obtain ⟨Av, capv, rfl⟩ := hrd.form
        have hgk := HG.out k hlt
        have hshk := HS.out.getD (show k < ts.length by rw [HT.out]; exact hlt)
        have hjt := joinT_take ts (show k < ts.length by rw [HT.out]; exact hlt)
        have hjl := joinT_len _ (HS.out.take k)
        have htl : (ts.take k).length ≤ 20 := by rw [List.length_take]; omega
        obtain ⟨x, hx⟩ : ∃ x, x = ts.getD k [] := ⟨_, rfl⟩
        rw [← hx] at hgk hshk hjt
        obtain ⟨J, hJ⟩ : ∃ J, J = joinT (ts.take k) := ⟨_, rfl⟩
        rw [← hJ] at hop hjt hjl
        obtain ⟨y, hy⟩ : ∃ y, y = ls.getD k [] := ⟨_, rfl⟩
        rw [← hy] at hrd hgk hok hc
        have HX := Lib.hid hgk
        have HJ := Lib.hid hjt
        have HY := Lib.hid hrd
        clear hx hJ hy hgk hjt hrd hok
        go_wp2_with fail
        refine (show Calls Try.prog 9 #[_, .int .i64 200] wr _ from cut_any _ y 200 wr HY.out (by omega)).mono ?_
        rintro e w2 ⟨v2, rfl, ho2, hb2⟩
        rw [HX.out] at ho2
        have hr2 := rd_of_own ho2
        clear ho2
        go_wp2_with fail
        refine (txt_any _ x _ hr2 (by omega)).mono ?_
        rintro e w3 ⟨v3, rfl, ho3, hb3⟩
        have hop3 := own_same (own_same hop hb2) hb3
        have hB3 := (hB.trans (hb2.mono hB.size)).trans (hb3.mono (by have := hB.size; have := hb2.size; omega))
        have hq8 := txtB_len x hshk.1
        obtain ⟨q, hq⟩ : ∃ q, q = txtB x := ⟨_, rfl⟩
        rw [← hq] at ho3 hq8 HJ
        have r3 := rd_of_own ho3
        obtain ⟨A3, cap3, rfl⟩ := r3.form
        have H3 := Lib.hid r3.rdv
        clear hq r3 ho3 hop hb2 hb3 hr2
        go_wp2_with (at_builtin; refine wpList_append_any _ rfl _ _ 23 rfl w.heap.size 5 i0 _ 1 1 Try.underlying23 hi hz0 hz1 hz2 rfl (by decide) pv J.length _ rfl hop3 A3 q.length cap3 _ rfl H3.out.2.2.2.2 (oneInts _ _) (by unfold maxLen; omega) (by omega) hB3.size H3.out.2.1 ?_; intro v4 w4 hown4 hgrow4 hat4)
        have hB4 := hB3.grown hgrow4 hB3.size (fun b hb => (hop3.lt b hb).1)
        go_roundw
        case rel => exact ⟨_, k + 1, rfl, by omega, by go_num, by rw [HJ.out, List.length_append, List.map_append]; exact hown4, hB4⟩
        case measure => simp [intOf]; omega
      · have htk : ts.take k = ts.drop 0 := by rw [List.take_of_length_le (by rw [HT.out]; omega)]; rfl
        rw [htk] at hop
        have rp' := rd_of_own hop
        clear hop htk
        obtain ⟨wo, rfl⟩ : ∃ wo : World, wo = wr := ⟨_, rfl⟩
        go_wp2_with fail
        go_loopw [5, 37] (fun pv i w2 => ∃ j : Nat, j ≤ 20 ∧ i = .int .i64 j ∧ Rd w2 .u8 pv (joinT (ts.drop j)) ∧ Below w.heap.size w w2) (fun _ i _ => 20 - (intOf i).toNat)
        case atStart => exact ⟨0, Nat.zero_le _, rfl, rp', hB⟩
        case round =>
          clear hB rp'
          obtain ⟨j, hj, rfl, rp, hB⟩ := hrel
          have kd := joinT_ok _ (HS.out.drop j)
          have ld := joinT_len _ (HS.out.drop j)
          rw [List.length_drop, HT.out] at ld
          by_cases hlt2 : j < 20
          · obtain ⟨b, off, v, rfl, hb, hc, hrd, hok⟩ := (HR.out.below hB).2 j (by omega)
            obtain ⟨Av, capv, rfl⟩ := hrd.form
            have hgk := HG.out j hlt2
            have hjt : j < ts.length := by rw [HT.out]; exact hlt2
            have hshk := HS.out.getD hjt
            have hjd := joinT_drop ts hjt
            obtain ⟨x, hx⟩ : ∃ x, x = ts.getD j [] := ⟨_, rfl⟩
            rw [← hx] at hgk hshk hjd
            have hv1 := fun most => vtext_txt x (joinT (ts.drop (j + 1))) most hshk.1
            rw [← hjd] at hv1
            have hv2 := hv1 200
            rw [if_neg (by omega)] at hv2
            have hv3 := hv1 m
            obtain ⟨J, hJ⟩ : ∃ J, J = joinT (ts.drop j) := ⟨_, rfl⟩
            rw [← hJ] at rp kd ld hv2 hv3
            obtain ⟨J2, hJ2⟩ : ∃ J2, J2 = joinT (ts.drop (j + 1)) := ⟨_, rfl⟩
            rw [← hJ2] at hv2 hv3
            obtain ⟨y, hy⟩ : ∃ y, y = ls.getD j [] := ⟨_, rfl⟩
            rw [← hy] at hrd hgk hok hc
            obtain ⟨Ap, capp, rfl⟩ := rp.form
            have HX := Lib.hid hgk
            have HY := Lib.hid hrd
            have H2 := Lib.hid hv2
            have HJ2 := Lib.hid hJ2
            have RP := Lib.hid rp
            clear hx hJ hJ2 hy hgk hrd hok hv1 hv2 hjd hjt rp
            have nl : J.length ≤ 1099511627776 := by omega
            by_cases hxm : (x.length : Int) ≤ m
            · have hdm : decide ((x.length : Int) ≤ m) = true := by simp; omega
              rw [if_neg (by omega)] at hv3
              have H3 := Lib.hid hv3
              clear hv3
              go_wp2_with fail
              refine (show Calls Try.prog 9 #[_, .int .i64 200] _ _ from cut_any _ y 200 _ HY.out (by omega)).mono ?_
              rintro e w2 ⟨v2, rfl, ho2, hb2⟩
              rw [HX.out] at ho2
              have r2 := rd_of_own ho2
              have rp2 := RP.out.below hb2
              have hB2 := hB.trans (hb2.mono hB.size)
              clear ho2 hb2
              obtain ⟨A2, cap2, rfl⟩ := r2.form
              go_wp2_with fail
              refine (text_all _ J m _ rp2 kd nl (by omega)).mono ?_
              rintro e w3 ⟨v3, v3b, rfl, _, _, hb3⟩
              rw [H3.out]
              have r2 := r2.below hb3
              have rp2 := rp2.below hb3
              have hB2 := hB2.trans (hb3.mono hB2.size)
              clear hb3
              go_wp2_with fail
              refine (show Calls Try.prog 21 #[_, .int .i64 200] _ _ from text_all _ J 200 _ rp2 kd nl (by omega)).mono ?_
              rintro e w4 ⟨v4, v5, rfl, r4, r5, hb4⟩
              rw [H2.out] at r4 r5 ⊢
              have r2 := r2.below hb4
              have hB2 := hB2.trans (hb4.mono hB2.size)
              clear hb4
              go_wp2_with fail
              refine (same_yes _ _ _ _ r4 r2).mono ?_
              rintro e w5 ⟨rfl, rfl⟩
              go_wp2_with fail
              go_roundw
              case rel => exact ⟨j + 1, by omega, by go_num, by rw [← HJ2.out]; exact r5, hB2⟩
              case measure => simp [intOf]; omega
            · have hdm : decide ((x.length : Int) ≤ m) = false := by simp; omega
              rw [if_pos (by omega)] at hv3
              have H3 := Lib.hid hv3
              clear hv3
              go_wp2_with fail
              refine (show Calls Try.prog 9 #[_, .int .i64 200] _ _ from cut_any _ y 200 _ HY.out (by omega)).mono ?_
              rintro e w2 ⟨v2, rfl, ho2, hb2⟩
              rw [HX.out] at ho2
              have r2 := rd_of_own ho2
              have rp2 := RP.out.below hb2
              have hB2 := hB.trans (hb2.mono hB.size)
              clear ho2 hb2
              obtain ⟨A2, cap2, rfl⟩ := r2.form
              go_wp2_with fail
              refine (text_all _ J m _ rp2 kd nl (by omega)).mono ?_
              rintro e w3 ⟨v3, v3b, rfl, _, _, hb3⟩
              rw [H3.out]
              have r2 := r2.below hb3
              have rp2 := rp2.below hb3
              have hB2 := hB2.trans (hb3.mono hB2.size)
              clear hb3
              go_wp2_with fail
              refine (show Calls Try.prog 21 #[_, .int .i64 200] _ _ from text_all _ J 200 _ rp2 kd nl (by omega)).mono ?_
              rintro e w4 ⟨v4, v5, rfl, r4, r5, hb4⟩
              rw [H2.out] at r4 r5 ⊢
              have r2 := r2.below hb4
              have hB2 := hB2.trans (hb4.mono hB2.size)
              clear hb4
              go_wp2_with fail
              refine (same_yes _ _ _ _ r4 r2).mono ?_
              rintro e w5 ⟨rfl, rfl⟩
              go_wp2_with fail
              go_roundw
              case rel => exact ⟨j + 1, by omega, by go_num, by rw [← HJ2.out]; exact r5, hB2⟩
              case measure => simp [intOf]; omega
          · have hd : ts.drop j = [] := List.drop_of_length_le (by rw [HT.out]; omega)
            rw [hd] at rp
            obtain ⟨Ap, capp, rfl⟩ := rp.form
            clear kd ld hd rp
            go_wp2_with fail
            go_ret
            exact ⟨by simp [joinT], hB⟩
  · go_enter Try.func7, Try.ntmps7
    go_wp2_with fail
    refine (awake_any _).mono ?_
    rintro e w1 ⟨rfl, hB⟩
    go_wp2_with fail
    go_loopw [5, 25] (fun p5 i wr => ∃ (pv : Value) (k : Nat), pv = p5 ∧ k ≤ N ∧ i = .int .i64 k ∧ wr.ownsRow w.heap.size 5 1 pv (joinT (ts.take k)).length ((joinT (ts.take k)).map (Value.int .u8)) ∧ Below w.heap.size w wr) (fun _ i _ => N - (intOf i).toNat)
    case atStart => exact ⟨_, 0, rfl, Nat.zero_le _, rfl, World.ownsRow_nil _ _ _ _, hB⟩
    case round =>
      obtain ⟨pv, k, rfl, hkN, rfl, hop, hB⟩ := hrel
      by_cases hlt : k < N
      · obtain ⟨b, off, v, rfl, hb, hc, hrd, hok⟩ := (HR.out.below hB).2 k (by omega)
        obtain ⟨Av, capv, rfl⟩ := hrd.form
        have hgk := HG.out k hlt
        have hshk := HS.out.getD (show k < ts.length by rw [HT.out]; exact hlt)
        have hjt := joinT_take ts (show k < ts.length by rw [HT.out]; exact hlt)
        have hjl := joinT_len _ (HS.out.take k)
        have htl : (ts.take k).length ≤ 20 := by rw [List.length_take]; omega
        obtain ⟨x, hx⟩ : ∃ x, x = ts.getD k [] := ⟨_, rfl⟩
        rw [← hx] at hgk hshk hjt
        obtain ⟨J, hJ⟩ : ∃ J, J = joinT (ts.take k) := ⟨_, rfl⟩
        rw [← hJ] at hop hjt hjl
        obtain ⟨y, hy⟩ : ∃ y, y = ls.getD k [] := ⟨_, rfl⟩
        rw [← hy] at hrd hgk hok hc
        have HX := Lib.hid hgk
        have HJ := Lib.hid hjt
        have HY := Lib.hid hrd
        clear hx hJ hy hgk hjt hrd hok
        go_wp2_with fail
        refine (show Calls Try.prog 9 #[_, .int .i64 200] wr _ from cut_any _ y 200 wr HY.out (by omega)).mono ?_
        rintro e w2 ⟨v2, rfl, ho2, hb2⟩
        rw [HX.out] at ho2
        have hr2 := rd_of_own ho2
        clear ho2
        go_wp2_with fail
        refine (txt_any _ x _ hr2 (by omega)).mono ?_
        rintro e w3 ⟨v3, rfl, ho3, hb3⟩
        have hop3 := own_same (own_same hop hb2) hb3
        have hB3 := (hB.trans (hb2.mono hB.size)).trans (hb3.mono (by have := hB.size; have := hb2.size; omega))
        have hq8 := txtB_len x hshk.1
        obtain ⟨q, hq⟩ : ∃ q, q = txtB x := ⟨_, rfl⟩
        rw [← hq] at ho3 hq8 HJ
        have r3 := rd_of_own ho3
        obtain ⟨A3, cap3, rfl⟩ := r3.form
        have H3 := Lib.hid r3.rdv
        clear hq r3 ho3 hop hb2 hb3 hr2
        go_wp2_with (at_builtin; refine wpList_append_any _ rfl _ _ 23 rfl w.heap.size 5 i0 _ 1 1 Try.underlying23 hi hz0 hz1 hz2 rfl (by decide) pv J.length _ rfl hop3 A3 q.length cap3 _ rfl H3.out.2.2.2.2 (oneInts _ _) (by unfold maxLen; omega) (by omega) hB3.size H3.out.2.1 ?_; intro v4 w4 hown4 hgrow4 hat4)
        have hB4 := hB3.grown hgrow4 hB3.size (fun b hb => (hop3.lt b hb).1)
        go_roundw
        case rel => exact ⟨_, k + 1, rfl, by omega, by go_num, by rw [HJ.out, List.length_append, List.map_append]; exact hown4, hB4⟩
        case measure => simp [intOf]; omega
      · have htk : ts.take k = ts.drop 0 := by rw [List.take_of_length_le (by rw [HT.out]; omega)]; rfl
        rw [htk] at hop
        have rp' := rd_of_own hop
        clear hop htk
        obtain ⟨wo, rfl⟩ : ∃ wo : World, wo = wr := ⟨_, rfl⟩
        go_wp2_with fail
        go_loopw [5, 37] (fun pv i w2 => ∃ j : Nat, j ≤ N ∧ i = .int .i64 j ∧ Rd w2 .u8 pv (joinT (ts.drop j)) ∧ Below w.heap.size w w2) (fun _ i _ => N - (intOf i).toNat)
        case atStart => exact ⟨0, Nat.zero_le _, rfl, rp', hB⟩
        case round =>
          clear hB rp'
          obtain ⟨j, hj, rfl, rp, hB⟩ := hrel
          have kd := joinT_ok _ (HS.out.drop j)
          have ld := joinT_len _ (HS.out.drop j)
          rw [List.length_drop, HT.out] at ld
          by_cases hlt2 : j < N
          · obtain ⟨b, off, v, rfl, hb, hc, hrd, hok⟩ := (HR.out.below hB).2 j (by omega)
            obtain ⟨Av, capv, rfl⟩ := hrd.form
            have hgk := HG.out j hlt2
            have hjt : j < ts.length := by rw [HT.out]; exact hlt2
            have hshk := HS.out.getD hjt
            have hjd := joinT_drop ts hjt
            obtain ⟨x, hx⟩ : ∃ x, x = ts.getD j [] := ⟨_, rfl⟩
            rw [← hx] at hgk hshk hjd
            have hv1 := fun most => vtext_txt x (joinT (ts.drop (j + 1))) most hshk.1
            rw [← hjd] at hv1
            have hv2 := hv1 200
            rw [if_neg (by omega)] at hv2
            have hv3 := hv1 m
            obtain ⟨J, hJ⟩ : ∃ J, J = joinT (ts.drop j) := ⟨_, rfl⟩
            rw [← hJ] at rp kd ld hv2 hv3
            obtain ⟨J2, hJ2⟩ : ∃ J2, J2 = joinT (ts.drop (j + 1)) := ⟨_, rfl⟩
            rw [← hJ2] at hv2 hv3
            obtain ⟨y, hy⟩ : ∃ y, y = ls.getD j [] := ⟨_, rfl⟩
            rw [← hy] at hrd hgk hok hc
            obtain ⟨Ap, capp, rfl⟩ := rp.form
            have HX := Lib.hid hgk
            have HY := Lib.hid hrd
            have H2 := Lib.hid hv2
            have HJ2 := Lib.hid hJ2
            have RP := Lib.hid rp
            clear hx hJ hJ2 hy hgk hrd hok hv1 hv2 hjd hjt rp
            have nl : J.length ≤ 1099511627776 := by omega
            by_cases hxm : (x.length : Int) ≤ m
            · have hdm : decide ((x.length : Int) ≤ m) = true := by simp; omega
              rw [if_neg (by omega)] at hv3
              have H3 := Lib.hid hv3
              clear hv3
              go_wp2_with fail
              refine (show Calls Try.prog 9 #[_, .int .i64 200] _ _ from cut_any _ y 200 _ HY.out (by omega)).mono ?_
              rintro e w2 ⟨v2, rfl, ho2, hb2⟩
              rw [HX.out] at ho2
              have r2 := rd_of_own ho2
              have rp2 := RP.out.below hb2
              have hB2 := hB.trans (hb2.mono hB.size)
              clear ho2 hb2
              obtain ⟨A2, cap2, rfl⟩ := r2.form
              go_wp2_with fail
              refine (text_all _ J m _ rp2 kd nl (by omega)).mono ?_
              rintro e w3 ⟨v3, v3b, rfl, _, _, hb3⟩
              rw [H3.out]
              have r2 := r2.below hb3
              have rp2 := rp2.below hb3
              have hB2 := hB2.trans (hb3.mono hB2.size)
              clear hb3
              go_wp2_with fail
              refine (show Calls Try.prog 21 #[_, .int .i64 200] _ _ from text_all _ J 200 _ rp2 kd nl (by omega)).mono ?_
              rintro e w4 ⟨v4, v5, rfl, r4, r5, hb4⟩
              rw [H2.out] at r4 r5 ⊢
              have r2 := r2.below hb4
              have hB2 := hB2.trans (hb4.mono hB2.size)
              clear hb4
              go_wp2_with fail
              refine (same_yes _ _ _ _ r4 r2).mono ?_
              rintro e w5 ⟨rfl, rfl⟩
              go_wp2_with fail
              go_roundw
              case rel => exact ⟨j + 1, by omega, by go_num, by rw [← HJ2.out]; exact r5, hB2⟩
              case measure => simp [intOf]; omega
            · have hdm : decide ((x.length : Int) ≤ m) = false := by simp; omega
              rw [if_pos (by omega)] at hv3
              have H3 := Lib.hid hv3
              clear hv3
              go_wp2_with fail
              refine (show Calls Try.prog 9 #[_, .int .i64 200] _ _ from cut_any _ y 200 _ HY.out (by omega)).mono ?_
              rintro e w2 ⟨v2, rfl, ho2, hb2⟩
              rw [HX.out] at ho2
              have r2 := rd_of_own ho2
              have rp2 := RP.out.below hb2
              have hB2 := hB.trans (hb2.mono hB.size)
              clear ho2 hb2
              obtain ⟨A2, cap2, rfl⟩ := r2.form
              go_wp2_with fail
              refine (text_all _ J m _ rp2 kd nl (by omega)).mono ?_
              rintro e w3 ⟨v3, v3b, rfl, _, _, hb3⟩
              rw [H3.out]
              have r2 := r2.below hb3
              have rp2 := rp2.below hb3
              have hB2 := hB2.trans (hb3.mono hB2.size)
              clear hb3
              go_wp2_with fail
              refine (show Calls Try.prog 21 #[_, .int .i64 200] _ _ from text_all _ J 200 _ rp2 kd nl (by omega)).mono ?_
              rintro e w4 ⟨v4, v5, rfl, r4, r5, hb4⟩
              rw [H2.out] at r4 r5 ⊢
              have r2 := r2.below hb4
              have hB2 := hB2.trans (hb4.mono hB2.size)
              clear hb4
              go_wp2_with fail
              refine (same_yes _ _ _ _ r4 r2).mono ?_
              rintro e w5 ⟨rfl, rfl⟩
              go_wp2_with fail
              go_roundw
              case rel => exact ⟨j + 1, by omega, by go_num, by rw [← HJ2.out]; exact r5, hB2⟩
              case measure => simp [intOf]; omega
          · have hd : ts.drop j = [] := List.drop_of_length_le (by rw [HT.out]; omega)
            rw [hd] at rp
            obtain ⟨Ap, capp, rfl⟩ := rp.form
            clear kd ld hd rp
            go_wp2_with fail
            go_ret
            exact ⟨by simp [joinT], hB⟩

theorem texts_walk (m : Int) (A : Option Addr) (n cap : Nat) (ls : List (List Int)) (w : World) (hr : Rows2 w A n ls) (hm : 0 ≤ m ∧ m ≤ 255) (hnc : n ≤ cap) (hcm : cap ≤ maxLen) :
    Calls Try.prog 7 #[.slice A n cap, .int .u8 m] w fun e w' => e = .returned (.bool true) ∧ Below w.heap.size w w' := by
  unfold maxLen at hcm
  by_cases h : 20 < n
  · exact texts_tail 20 A n cap m ls _ w hr hm (by omega) (by omega) (.inl ⟨rfl, h⟩) hnc (by omega) rfl
  · exact texts_tail n A n cap m ls _ w hr hm (by omega) (by omega) (.inr ⟨rfl, by omega⟩) hnc (by omega) rfl

open Go.ChangeShapes Go.WideShapes Go.ChangeAt
set_option maxRecDepth 100000 in
theorem texts_lifted (os : Os) (started : os.Started) (H : Type) (enc : TypeId × Value → H) :
    ReturnsInHanded {} Try.checked os 7 .any (Rows.vintTextsSpec.pre6 enc Try.prog Try.f7 Rows.vintTextsRow.domain false) (Rows.vintTextsSpec.post enc Try.prog Try.f7 false true false false) := by
  refine returnsInHanded_of_change (C := Try.checked) own started (by kernel_rfl) Try.func7
    (ChangeSpec.witness6 (enc := enc) (C := Try.checked) false ⟨#[], #[.slice none 0 0, .int .u8 0], []⟩ 8 (by kernel_rfl) (by kernel_rfl) (by kernel_rfl) (by kernel_rfl)) ?_
  intro W base args ds gs before hval0 hW hcnd _
  have hval : ∀ (j : Nat) t v, Try.f7.params[j]? = some t → args[j]? = some v → Value.okWide Try.prog W .any base t v := hval0
  have hW' := hW
  obtain ⟨p, q, hA0, hV, rfl, hfz, hnd⟩ := hW
  have hA : DataW.TrodAll enc Try.prog W 0 (fun _ => true) true Try.f7.params.toList args.toList ds p := hA0
  rw [Try.params7] at hA hval
  obtain ⟨v0, vs0, d0, ds0, p0, q0, hargs, rfl, rfl, h0, r0⟩ := trodAll_cons hA
  obtain ⟨v1, vs1, d1, ds1, p1, q1, rfl, rfl, rfl, h1, r1⟩ := trodAll_cons r0
  obtain ⟨rfl, rfl, rfl⟩ := trodAll_nil r1
  obtain rfl : args = #[v0, v1] := by cases args; simp_all
  obtain ⟨rfl, rfl⟩ := trodVars_none hV
  obtain ⟨A0, len0, cap0, rfl⟩ := okWide_slice Try.underlying51 (hval 0 51 v0 rfl rfl)
  have k0 := h0
  have lt0 : ∀ x ∈ p0, x.block < W.heap.size := by obtain ⟨m, hm⟩ := k0; exact DataW.trod_lt m _ _ _ hm
  obtain ⟨n0, c0, ls0, hR0⟩ := rows_of h0
  obtain ⟨a1, rfl, rfl, rfl, w1⟩ := open_int Try.underlying5 (hval 1 5 v1 rfl rfl) h1
  clear hA0 hval0
  refine (texts_walk a1 _ _ _ ls0 W hR0 (bounds_u8 w1) n0 c0).mono fun e W' ⟨he, bel⟩ => ?_
  subst he
  exact ⟨_, rfl, _, _, _, [], _, [], hW', trodAll_mk1 (shut_bool Try.underlying4 _), (trodAll_cons_mk (Below.trod laidOut (by kernel_rfl) (of_decide_eq_true (by kernel_rfl)) k0 bel lt0) (trodAll_cons_mk (shut_int Try.underlying5 w1) trodAll_mk0)), rfl, bel.frame _, fun h => by cases h⟩

theorem texts_holds : Rows.VintTextsSaid :=
  OpenClaim.holds_of_wide 7 Try.f7 rfl rfl rfl rfl rfl rfl rfl ⟨rfl, rfl, rfl, rfl, rfl⟩ rfl rfl rfl rfl rfl (by kernel_rfl) Try.func7 (by kernel_rfl)
    (of_decide_eq_true (by kernel_rfl)) (by unfold Func.isWrapper; first | (rw [if_pos (by decide +kernel)]; kernel_rfl) | (rw [if_neg (by decide +kernel)]; exact ⟨rfl, rfl⟩))
    (fun os started H enc _ => texts_lifted os started H enc)
#print axioms texts_holds

end Go.Proofs.Ytliagckgollalaa
