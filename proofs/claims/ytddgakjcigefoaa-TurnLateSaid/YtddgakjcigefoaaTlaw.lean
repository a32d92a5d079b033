/-
  TurnLate: of any group it is told whether it is too late; the newest never is; with a greater window no more are. For every input; no condition.
-/
import Derived.Test.YtddgakjcigefoaaTawake
namespace Go.Proofs.Ytddgakjcigefoaa
open Go.RowKit
set_option linter.unusedVariables false
set_option linter.unusedSimpArgs false


theorem late_mono (l : List Int) (a b : Int) (h : a ≤ b) : (lateL l b).length ≤ (lateL l a).length := by
  unfold lateL
  generalize maxL l = m
  induction l with
  | nil => simp
  | cons x r ih =>
    have hm : staleB x m b 1 = true → staleB x m a 1 = true := by unfold staleB; simp; omega
    simp only [List.filter_cons]
    by_cases hb : staleB x m b 1 = true
    · rw [if_pos hb, if_pos (hm hb)]; simpa using ih
    · rw [if_neg hb]
      by_cases ha : staleB x m a 1 = true
      · rw [if_pos ha]; simp; omega
      · rw [if_neg ha]; exact ih
theorem late_at (l : List Int) (p : Int → Bool) (j : Nat) (hj : j < l.length) (h : p (l.getD j 0) = true) :
    ((l.take j).filter p).length < (l.filter p).length ∧ (l.filter p).getD ((l.take j).filter p).length 0 = l.getD j 0 := by
  have e : l.filter p = (l.take j).filter p ++ (l.getD j 0 :: (l.drop (j + 1)).filter p) := by
    conv => lhs; rw [← List.take_append_drop j l, List.filter_append, List.drop_eq_getElem_cons hj]
    have h' : p l[j] = true := by simpa [List.getD, hj] using h
    rw [List.filter_cons, if_pos h']
    simp [List.getD, hj]
  rw [e]
  exact ⟨by simp, by simp [List.getD]⟩
theorem late_step (l : List Int) (p : Int → Bool) (j : Nat) (hj : j < l.length) : ((l.take (j + 1)).filter p).length = ((l.take j).filter p).length + if p (l.getD j 0) = true then 1 else 0 := by
  rw [take_snocT l j hj, List.filter_append, List.length_append]
  by_cases hc : p (l.getD j 0) = true <;> simp only [List.filter_cons, hc] <;> simp

set_option maxHeartbeats 8000000 in
set_option maxRecDepth 100000 in
theorem late_walk (g n win o : Int) (v : Value) (l : List Int) (w : World) (h0 : 0 ≤ g ∧ g ≤ 18446744073709551615) (h1 : 0 ≤ n ∧ n ≤ 18446744073709551615) (h2 : 0 ≤ win ∧ win ≤ 18446744073709551615) (hl : Rd w .u64 v l) (hk : NumsOk l) :
    Calls Try.prog 3 #[.int .u64 g, .int .u64 n, .int .u64 win, .int .u8 o, v] w fun e w' => e = .returned (.bool true) ∧ Below w.heap.size w w' := by
  obtain ⟨i1, hj, hy0, hy1, hy2⟩ := info_parts infoN
  obtain ⟨A, cap, rfl⟩ := hl.form
  have hlc := hl.rdv.2.2.1
  have hcm := hl.rdv.2.2.2.1
  have hA := hl.rdv.2.1
  have hcm' : cap ≤ 9223372036854775807 := by unfold maxLen at hcm; omega
  have HL := Lib.hid hl
  have kg : NumsOk (l.take 60) := fun x hx => hk x (List.mem_of_mem_take hx)
  obtain ⟨gl, hgl⟩ : ∃ gl, gl = l.take 60 := ⟨_, rfl⟩
  rw [← hgl] at kg
  have hgn : gl.length ≤ 60 := by rw [hgl]; simp; omega
  obtain ⟨m, hm⟩ : ∃ m, m = min l.length 60 := ⟨_, rfl⟩
  have hcase : ((60 : Nat) < l.length ∧ 60 = m) ∨ (l.length ≤ 60 ∧ l.length = m) := by omega
  have hml : m ≤ l.length := by omega
  have hgm : gl.length = m := by rw [hgl]; simp; omega
  have htk : l.take m = gl := by
    rw [hgl]
    rcases hcase with ⟨_, rfl⟩ | ⟨h, rfl⟩
    · rfl
    · rw [List.take_length, List.take_of_length_le h]
  have HG := Lib.hid htk
  have HGM := Lib.hid hgm
  have KG := Lib.hid kg
  clear hl hk hgl htk hm hcm kg
  rcases hcase with ⟨hc, rfl⟩ | ⟨hc, rfl⟩
  · clear hgm
    go_enter Try.func3, Try.ntmps3
    go_wp2_with fail
    refine (awake_any _).mono ?_
    rintro e w1 ⟨rfl, hB⟩
    go_wp2_with fail
    refine (stale_any g n win o _ h0 h1 h2).mono ?_
    rintro e w2 ⟨rfl, rfl⟩
    go_wp2_with fail
    refine (rstale_any g n win o _ h0 h1 h2).mono ?_
    rintro e w2 ⟨rfl, rfl⟩
    have hown0 := World.ownsRow_lit (size := 1) (e := 22) w1 #[] 0 hB.size (by decide) rfl
    have hBa := hB.alloc hB.size (.cells #[] 22)
    have hrd : RdV (w1.alloc (.cells #[] 22)) 1 A 60 (gl.map (Value.int .u64)) := by have hpre := ((HL.out.below hB).alloc (.cells #[] 22)).pre hml; rw [HG.out] at hpre; exact hpre.rdv.2.2.2.2
    go_wp2_with (at_builtin; refine wpList_append_any _ rfl _ _ 23 rfl w.heap.size 22 i1 _ 1 8 Try.underlying23 hj hy0 hy1 hy2 rfl (by decide) (.slice (some ⟨w1.heap.size, 0, none⟩) 0 0) 0 [] rfl hown0 A 60 cap _ rfl hrd (oneInts _ _) (by unfold maxLen; omega) (by omega) hBa.size (fun h => by have := hA h; omega) ?_; intro v2 w2 hown hgrow hat; have hB2 := hBa.grown hgrow hBa.size (fun b hb => by simp [Value.ownBlock] at hb; have := hB.size; omega); have hr : Rd w2 .u64 v2 gl := (rd_of_own (k := .u64) (n := _) (by simpa using hown)); obtain ⟨A2, cap2, rfl⟩ := hr.form; have HR := Lib.hid hr; clear hr)
    clear hown hgrow hat hrd hBa hown0 hB
    have hmx := maxL_ok KG.out
    go_wp2_with fail
    go_loop [11, 40] (fun t i => ∃ k : Nat, k ≤ gl.length ∧ i = .int .i64 k ∧ t = .int .u64 (maxL (gl.take k))) (fun _ i => gl.length - (intOf i).toNat)
    case atStart => exact ⟨0, Nat.zero_le _, rfl, rfl⟩
    case round =>
      obtain ⟨k, hkl, rfl, rfl⟩ := hrel
      by_cases hlt : k < gl.length
      · obtain ⟨b, off, rfl, hb, ck⟩ := HR.out.at_ k hlt
        obtain ⟨x, hx⟩ : ∃ x, x = gl.getD k 0 := ⟨_, rfl⟩
        rw [← hx] at ck
        have hs : maxL (gl.take (k + 1)) = max (maxL (gl.take k)) x := by rw [take_snocT gl k hlt, maxL_snoc, ← hx]
        obtain ⟨mm, hmm⟩ : ∃ mm, mm = maxL (gl.take k) := ⟨_, rfl⟩
        rw [← hmm] at hs ⊢
        have hcase : (mm < x ∧ maxL (gl.take (k + 1)) = x) ∨ (x ≤ mm ∧ maxL (gl.take (k + 1)) = mm) := by omega
        clear hs hmm hx
        rcases hcase with ⟨q1, q2⟩ | ⟨q1, q2⟩
        all_goals
          have H2 := Lib.hid q2
          clear q2
          go_wp2_with fail
          go_round
          case rel => exact ⟨k + 1, by omega, by go_num, by rw [H2.out]⟩
          case measure => simp [intOf]; omega
      · have htop : maxL (gl.take k) = maxL gl := by rw [List.take_of_length_le (by omega)]
        rw [htop]
        clear htop
        go_wp2_with fail
        refine (late_any _ gl win _ HR.out KG.out (by omega) h2).mono ?_
        rintro e w3 ⟨v3, rfl, ho3, hb3⟩
        have hr3 := rd_of_own ho3
        obtain ⟨A3, cap3, rfl⟩ := hr3.form
        have HR3 := Lib.hid hr3
        have HR2 := Lib.hid (HR.out.below hb3)
        have hB3 := hB2.trans (hb3.mono hB2.size)
        have hL60 : (lateL gl win).length ≤ gl.length := List.length_filter_le _ _
        obtain ⟨L, hLL⟩ : ∃ L, L = lateL gl win := ⟨_, rfl⟩
        rw [← hLL] at HR3 hL60 ⊢
        have HLL := Lib.hid hLL
        clear hLL hr3 ho3 hb3
        go_wp2_with fail
        go_loop [14, 53] (fun c i => ∃ (j q : Nat), j ≤ gl.length ∧ i = .int .i64 j ∧ c = .int .i64 q ∧ q = ((gl.take j).filter (fun y => staleB y (maxL gl) win 1)).length ∧ q ≤ j) (fun _ i => gl.length - (intOf i).toNat)
        case atStart => exact ⟨0, 0, Nat.zero_le _, rfl, rfl, rfl, Nat.le_refl _⟩
        case round =>
          obtain ⟨j, q, hjl, rfl, rfl, hq, hqj⟩ := hrel
          have HQ := Lib.hid hq
          clear hq
          by_cases hlt : j < gl.length
          · obtain ⟨b, off, rfl, hb, ck⟩ := HR2.out.at_ j hlt
            have hst := late_step gl (fun y => staleB y (maxL gl) win 1) j hlt
            have hat := late_at gl (fun y => staleB y (maxL gl) win 1) j hlt
            obtain ⟨x, hx⟩ : ∃ x, x = gl.getD j 0 := ⟨_, rfl⟩
            have hxb : 0 ≤ x ∧ x ≤ 18446744073709551615 := by rw [hx]; exact KG.out.getD j
            rw [← hx] at ck hst hat
            clear hx
            by_cases hc : staleB x (maxL gl) win 1 = true
            · obtain ⟨hlt2, hget⟩ := hat hc
              rw [← HQ.out] at hlt2 hget hst
              have hLe : L = gl.filter (fun y => staleB y (maxL gl) win 1) := HLL.out
              rw [← hLe] at hlt2 hget
              obtain ⟨b3, off3, e3, _, c3⟩ := HR3.out.at_ q hlt2
              subst e3
              rw [hget] at c3
              have HST : Hid (q + 1 = ((gl.take (j + 1)).filter (fun y => staleB y (maxL gl) win 1)).length) := by rw [hst, if_pos hc]; rfl
              have hdd : decide (L.length ≤ q) = false := by simp; omega
              have hdn : ¬ L.length ≤ q := by omega
              have hi1 : (q : Int) < (L.length : Int) := by omega
              clear hst hat hget hLe
              go_wp2_with (go_at_call 9; refine (rstale_any x (maxL gl) win 1 _ hxb hmx h2).mono ?_; rintro e w4 ⟨rfl, rfl⟩)
              go_round
              case rel => exact ⟨j + 1, q + 1, by omega, by go_num, by go_num, HST.out, by omega⟩
              case measure => simp [intOf]; omega
            · have hc' : staleB x (maxL gl) win 1 = false := by simpa using hc
              have HST : Hid (q = ((gl.take (j + 1)).filter (fun y => staleB y (maxL gl) win 1)).length) := by rw [hst, if_neg hc]; exact HQ.out
              clear hst hat hc
              go_wp2_with (go_at_call 9; refine (rstale_any x (maxL gl) win 1 _ hxb hmx h2).mono ?_; rintro e w4 ⟨rfl, rfl⟩)
              go_round
              case rel => exact ⟨j + 1, q, by omega, by go_num, rfl, HST.out, by omega⟩
              case measure => simp [intOf]; omega
          · have hqL : q = L.length := by rw [HQ.out, HLL.out, List.take_of_length_le (by omega)]; rfl
            subst hqL
            have hmono := late_mono gl win (max win 1099511627776) (by omega)
            rw [← HLL.out] at hmono
            have hcs : (win < 1099511627776 ∧ max win 1099511627776 = 1099511627776) ∨ (1099511627776 ≤ win ∧ max win 1099511627776 = win) := by omega
            rcases hcs with ⟨q1, q2⟩ | ⟨q1, q2⟩
            all_goals
              rw [q2] at hmono
              clear q2
              go_wp2_with fail
              refine (late_any _ gl _ _ HR2.out KG.out (by omega) (by omega)).mono ?_
              rintro e w5 ⟨v5, rfl, ho5, hb5⟩
              obtain ⟨A5, cap5, rfl⟩ := (rd_of_own ho5).form
              have hmonoI : decide ((lateL gl _).length ≤ L.length) = true := decide_eq_true hmono
              go_wp2_with fail
              go_ret
              exact ⟨by first | (simp; done) | (simp; omega), hB3.trans (hb5.mono hB3.size)⟩
  · clear hgm
    go_enter Try.func3, Try.ntmps3
    go_wp2_with fail
    refine (awake_any _).mono ?_
    rintro e w1 ⟨rfl, hB⟩
    go_wp2_with fail
    refine (stale_any g n win o _ h0 h1 h2).mono ?_
    rintro e w2 ⟨rfl, rfl⟩
    go_wp2_with fail
    refine (rstale_any g n win o _ h0 h1 h2).mono ?_
    rintro e w2 ⟨rfl, rfl⟩
    have hown0 := World.ownsRow_lit (size := 1) (e := 22) w1 #[] 0 hB.size (by decide) rfl
    have hBa := hB.alloc hB.size (.cells #[] 22)
    have hrd : RdV (w1.alloc (.cells #[] 22)) 1 A l.length (gl.map (Value.int .u64)) := by have hpre := ((HL.out.below hB).alloc (.cells #[] 22)).pre hml; rw [HG.out] at hpre; exact hpre.rdv.2.2.2.2
    go_wp2_with (at_builtin; refine wpList_append_any _ rfl _ _ 23 rfl w.heap.size 22 i1 _ 1 8 Try.underlying23 hj hy0 hy1 hy2 rfl (by decide) (.slice (some ⟨w1.heap.size, 0, none⟩) 0 0) 0 [] rfl hown0 A l.length cap _ rfl hrd (oneInts _ _) (by unfold maxLen; omega) (by omega) hBa.size (fun h => by have := hA h; omega) ?_; intro v2 w2 hown hgrow hat; have hB2 := hBa.grown hgrow hBa.size (fun b hb => by simp [Value.ownBlock] at hb; have := hB.size; omega); have hr : Rd w2 .u64 v2 gl := (rd_of_own (k := .u64) (n := _) (by simpa using hown)); obtain ⟨A2, cap2, rfl⟩ := hr.form; have HR := Lib.hid hr; clear hr)
    clear hown hgrow hat hrd hBa hown0 hB
    have hmx := maxL_ok KG.out
    go_wp2_with fail
    go_loop [11, 40] (fun t i => ∃ k : Nat, k ≤ gl.length ∧ i = .int .i64 k ∧ t = .int .u64 (maxL (gl.take k))) (fun _ i => gl.length - (intOf i).toNat)
    case atStart => exact ⟨0, Nat.zero_le _, rfl, rfl⟩
    case round =>
      obtain ⟨k, hkl, rfl, rfl⟩ := hrel
      by_cases hlt : k < gl.length
      · obtain ⟨b, off, rfl, hb, ck⟩ := HR.out.at_ k hlt
        obtain ⟨x, hx⟩ : ∃ x, x = gl.getD k 0 := ⟨_, rfl⟩
        rw [← hx] at ck
        have hs : maxL (gl.take (k + 1)) = max (maxL (gl.take k)) x := by rw [take_snocT gl k hlt, maxL_snoc, ← hx]
        obtain ⟨mm, hmm⟩ : ∃ mm, mm = maxL (gl.take k) := ⟨_, rfl⟩
        rw [← hmm] at hs ⊢
        have hcase : (mm < x ∧ maxL (gl.take (k + 1)) = x) ∨ (x ≤ mm ∧ maxL (gl.take (k + 1)) = mm) := by omega
        clear hs hmm hx
        rcases hcase with ⟨q1, q2⟩ | ⟨q1, q2⟩
        all_goals
          have H2 := Lib.hid q2
          clear q2
          go_wp2_with fail
          go_round
          case rel => exact ⟨k + 1, by omega, by go_num, by rw [H2.out]⟩
          case measure => simp [intOf]; omega
      · have htop : maxL (gl.take k) = maxL gl := by rw [List.take_of_length_le (by omega)]
        rw [htop]
        clear htop
        go_wp2_with fail
        refine (late_any _ gl win _ HR.out KG.out (by omega) h2).mono ?_
        rintro e w3 ⟨v3, rfl, ho3, hb3⟩
        have hr3 := rd_of_own ho3
        obtain ⟨A3, cap3, rfl⟩ := hr3.form
        have HR3 := Lib.hid hr3
        have HR2 := Lib.hid (HR.out.below hb3)
        have hB3 := hB2.trans (hb3.mono hB2.size)
        have hL60 : (lateL gl win).length ≤ gl.length := List.length_filter_le _ _
        obtain ⟨L, hLL⟩ : ∃ L, L = lateL gl win := ⟨_, rfl⟩
        rw [← hLL] at HR3 hL60 ⊢
        have HLL := Lib.hid hLL
        clear hLL hr3 ho3 hb3
        go_wp2_with fail
        go_loop [14, 53] (fun c i => ∃ (j q : Nat), j ≤ gl.length ∧ i = .int .i64 j ∧ c = .int .i64 q ∧ q = ((gl.take j).filter (fun y => staleB y (maxL gl) win 1)).length ∧ q ≤ j) (fun _ i => gl.length - (intOf i).toNat)
        case atStart => exact ⟨0, 0, Nat.zero_le _, rfl, rfl, rfl, Nat.le_refl _⟩
        case round =>
          obtain ⟨j, q, hjl, rfl, rfl, hq, hqj⟩ := hrel
          have HQ := Lib.hid hq
          clear hq
          by_cases hlt : j < gl.length
          · obtain ⟨b, off, rfl, hb, ck⟩ := HR2.out.at_ j hlt
            have hst := late_step gl (fun y => staleB y (maxL gl) win 1) j hlt
            have hat := late_at gl (fun y => staleB y (maxL gl) win 1) j hlt
            obtain ⟨x, hx⟩ : ∃ x, x = gl.getD j 0 := ⟨_, rfl⟩
            have hxb : 0 ≤ x ∧ x ≤ 18446744073709551615 := by rw [hx]; exact KG.out.getD j
            rw [← hx] at ck hst hat
            clear hx
            by_cases hc : staleB x (maxL gl) win 1 = true
            · obtain ⟨hlt2, hget⟩ := hat hc
              rw [← HQ.out] at hlt2 hget hst
              have hLe : L = gl.filter (fun y => staleB y (maxL gl) win 1) := HLL.out
              rw [← hLe] at hlt2 hget
              obtain ⟨b3, off3, e3, _, c3⟩ := HR3.out.at_ q hlt2
              subst e3
              rw [hget] at c3
              have HST : Hid (q + 1 = ((gl.take (j + 1)).filter (fun y => staleB y (maxL gl) win 1)).length) := by rw [hst, if_pos hc]; rfl
              have hdd : decide (L.length ≤ q) = false := by simp; omega
              have hdn : ¬ L.length ≤ q := by omega
              have hi1 : (q : Int) < (L.length : Int) := by omega
              clear hst hat hget hLe
              go_wp2_with (go_at_call 9; refine (rstale_any x (maxL gl) win 1 _ hxb hmx h2).mono ?_; rintro e w4 ⟨rfl, rfl⟩)
              go_round
              case rel => exact ⟨j + 1, q + 1, by omega, by go_num, by go_num, HST.out, by omega⟩
              case measure => simp [intOf]; omega
            · have hc' : staleB x (maxL gl) win 1 = false := by simpa using hc
              have HST : Hid (q = ((gl.take (j + 1)).filter (fun y => staleB y (maxL gl) win 1)).length) := by rw [hst, if_neg hc]; exact HQ.out
              clear hst hat hc
              go_wp2_with (go_at_call 9; refine (rstale_any x (maxL gl) win 1 _ hxb hmx h2).mono ?_; rintro e w4 ⟨rfl, rfl⟩)
              go_round
              case rel => exact ⟨j + 1, q, by omega, by go_num, rfl, HST.out, by omega⟩
              case measure => simp [intOf]; omega
          · have hqL : q = L.length := by rw [HQ.out, HLL.out, List.take_of_length_le (by omega)]; rfl
            subst hqL
            have hmono := late_mono gl win (max win 1099511627776) (by omega)
            rw [← HLL.out] at hmono
            have hcs : (win < 1099511627776 ∧ max win 1099511627776 = 1099511627776) ∨ (1099511627776 ≤ win ∧ max win 1099511627776 = win) := by omega
            rcases hcs with ⟨q1, q2⟩ | ⟨q1, q2⟩
            all_goals
              rw [q2] at hmono
              clear q2
              go_wp2_with fail
              refine (late_any _ gl _ _ HR2.out KG.out (by omega) (by omega)).mono ?_
              rintro e w5 ⟨v5, rfl, ho5, hb5⟩
              obtain ⟨A5, cap5, rfl⟩ := (rd_of_own ho5).form
              have hmonoI : decide ((lateL gl _).length ≤ L.length) = true := decide_eq_true hmono
              go_wp2_with fail
              go_ret
              exact ⟨by first | (simp; done) | (simp; omega), hB3.trans (hb5.mono hB3.size)⟩

open Go.ChangeShapes Go.WideShapes Go.ChangeAt in
theorem nums_of {H : Type} {enc : TypeId × Value → H} {W : World} {A : Option Addr} {len cap : Nat} {d1 : DataW H} {p1 : List MemPlace}
    (h : DataW.Trod enc Try.prog W 0 (fun _ => true) true 23 (.slice A len cap) d1 p1) : ∃ l, Rd W .u64 (.slice A len cap) l ∧ NumsOk l := by
  obtain ⟨fuel, hf⟩ := h
  rcases open_ints Try.underlying23 Try.underlying22 (by kernel_rfl) hf with ⟨hcs, _⟩ | ⟨x, l, c, zs, hcs, _, hl, hm, hz, _, hcell, hwz⟩
  · simp [Value.cells] at hcs
    obtain ⟨rfl, rfl, rfl⟩ := hcs
    exact ⟨[], Rd.nil _ _, fun x hx => by simp at hx⟩
  · simp [Value.cells] at hcs
    obtain ⟨rfl, rfl, rfl⟩ := hcs
    have hz' : zs.length = cap := by simpa using hz
    have hlen : (zs.take len).length = len := by simp; omega
    refine ⟨zs.take len, ⟨some x, cap, by rw [hlen], by omega, hm, fun e => (by cases e), fun i hi => ?_⟩, fun n hn => bounds_u64 (hwz n (List.mem_of_mem_take hn))⟩
    rw [hlen] at hi
    have hc := hcell i (by omega)
    have hsp : x.spot = none := by
      have h0 := World.cell?_spot (hcell 0 (by omega))
      simpa [Addr.add] using h0
    obtain ⟨b, o, s⟩ := x
    simp only at hsp
    subst hsp
    have hlt := World.block_lt_of_cell? W _ hc
    rw [addr_add] at hc hlt
    refine ⟨b, o, rfl, hlt, fun j hj => ?_⟩
    obtain rfl : j = 0 := by omega
    rw [show o + (i * 1 + 0) = o + i by omega, hc]
    simp [List.getD, List.getElem?_take, hi]

open Go.ChangeShapes Go.WideShapes Go.ChangeAt
set_option maxRecDepth 100000 in
theorem late_lifted (os : Os) (started : os.Started) (H : Type) (enc : TypeId × Value → H) :
    ReturnsInHanded {} Try.checked os 3 .any (Rows.turnLateSpec.pre6 enc Try.prog Try.f3 Rows.turnLateRow.domain false) (Rows.turnLateSpec.post enc Try.prog Try.f3 false true false false) := by
  refine returnsInHanded_of_change (C := Try.checked) own started (by kernel_rfl) Try.func3
    (ChangeSpec.witness6 (enc := enc) (C := Try.checked) false ⟨#[], #[.int .u64 0, .int .u64 0, .int .u64 0, .int .u8 0, .slice none 0 0], []⟩ 8 (by kernel_rfl) (by kernel_rfl) (by kernel_rfl) (by kernel_rfl)) ?_
  intro W base args ds gs before hval0 hW hcnd _
  have hval : ∀ (j : Nat) t v, Try.f3.params[j]? = some t → args[j]? = some v → Value.okWide Try.prog W .any base t v := hval0
  have hW' := hW
  obtain ⟨p, q, hA0, hV, rfl, hfz, hnd⟩ := hW
  have hA : DataW.TrodAll enc Try.prog W 0 (fun _ => true) true Try.f3.params.toList args.toList ds p := hA0
  rw [Try.params3] at hA hval
  obtain ⟨v0, vs0, d0, ds0, p0, q0, hargs, rfl, rfl, h0, r0⟩ := trodAll_cons hA
  obtain ⟨v1, vs1, d1, ds1, p1, q1, rfl, rfl, rfl, h1, r1⟩ := trodAll_cons r0
  obtain ⟨v2, vs2, d2, ds2, p2, q2, rfl, rfl, rfl, h2, r2⟩ := trodAll_cons r1
  obtain ⟨v3, vs3, d3, ds3, p3, q3, rfl, rfl, rfl, h3, r3⟩ := trodAll_cons r2
  obtain ⟨v4, vs4, d4, ds4, p4, q4, rfl, rfl, rfl, h4, r4⟩ := trodAll_cons r3
  obtain ⟨rfl, rfl, rfl⟩ := trodAll_nil r4
  obtain rfl : args = #[v0, v1, v2, v3, v4] := by cases args; simp_all
  obtain ⟨rfl, rfl⟩ := trodVars_none hV
  obtain ⟨a0, rfl, rfl, rfl, w0⟩ := open_int Try.underlying22 (hval 0 22 v0 rfl rfl) h0
  obtain ⟨a1, rfl, rfl, rfl, w1⟩ := open_int Try.underlying22 (hval 1 22 v1 rfl rfl) h1
  obtain ⟨a2, rfl, rfl, rfl, w2⟩ := open_int Try.underlying22 (hval 2 22 v2 rfl rfl) h2
  obtain ⟨a3, rfl, rfl, rfl, w3⟩ := open_int Try.underlying5 (hval 3 5 v3 rfl rfl) h3
  obtain ⟨A4, len4, cap4, rfl⟩ := okWide_slice Try.underlying23 (hval 4 23 v4 rfl rfl)
  have k4 := h4
  have lt4 : ∀ x ∈ p4, x.block < W.heap.size := by obtain ⟨m, hm⟩ := k4; exact DataW.trod_lt m _ _ _ hm
  obtain ⟨l4, hR4, hK4⟩ := nums_of h4
  clear hA0 hval0
  refine (late_walk a0 a1 a2 a3 _ l4 W (bounds_u64 w0) (bounds_u64 w1) (bounds_u64 w2) hR4 hK4).mono fun e W' ⟨he, bel⟩ => ?_
  subst he
  exact ⟨_, rfl, _, _, _, [], _, [], hW', trodAll_mk1 (shut_bool Try.underlying4 _), (trodAll_cons_mk (shut_int Try.underlying22 w0) (trodAll_cons_mk (shut_int Try.underlying22 w1) (trodAll_cons_mk (shut_int Try.underlying22 w2) (trodAll_cons_mk (shut_int Try.underlying5 w3) (trodAll_cons_mk (Below.trod laidOut (by kernel_rfl) (of_decide_eq_true (by kernel_rfl)) k4 bel lt4) trodAll_mk0))))), rfl, bel.frame _, fun h => by cases h⟩

theorem late_holds : Rows.TurnLateSaid :=
  OpenClaim.holds_of_wide 3 Try.f3 rfl rfl rfl rfl rfl rfl rfl ⟨rfl, rfl, rfl, rfl, rfl⟩ rfl rfl rfl rfl rfl (by kernel_rfl) Try.func3 (by kernel_rfl)
    (of_decide_eq_true (by kernel_rfl)) (by unfold Func.isWrapper; first | (rw [if_pos (by decide +kernel)]; kernel_rfl) | (rw [if_neg (by decide +kernel)]; exact ⟨rfl, rfl⟩))
    (fun os started H enc _ => late_lifted os started H enc)
#print axioms late_holds

end Go.Proofs.Ytddgakjcigefoaa
