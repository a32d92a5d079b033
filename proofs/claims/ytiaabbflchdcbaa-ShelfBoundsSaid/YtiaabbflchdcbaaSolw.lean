/-
  ShelfOldest: the walk. No condition.
-/
import Derived.Test.YtiaabbflchdcbaaSolp
import Derived.Test.YtiaabbflchdcbaaShaw
import Derived.Deep.CutBlock
namespace Go.Proofs.Ytiaabbflchdcbaa
open Go.RowKit
set_option linter.unusedVariables false
set_option linter.unusedSimpArgs false

theorem infoI : (Try.prog.info? 3).map (fun i => (i.zero, i.size, i.bytes)) = some (some (.int .i64 0), 1, 8) := by kernel_rfl
theorem HS.own {w w' : World} {B sb lb zb tb base n size : Nat} {room : Int} {s : PS} {e : TypeId} {v : Value} {xs : List Value} (h : HS w B sb lb zb tb room s) (ho : w.ownsRow base e size v n xs) (hg : w.grownBy w' v.ownBlock) (h1 : e ≠ 81) (h2 : e ≠ 84) (h3 : e ≠ 5) : HS w' B sb lb zb tb room s := by
  rcases ho.2 with ⟨rfl, _⟩ | ⟨g', cap, cur, rfl, _, hb, _⟩
  · exact h.kept ⟨hg.os, hg.tape, hg.output, hg.size, fun i hi => hg.block i hi (by simp [Value.ownBlock])⟩
  · obtain ⟨lv, E, hE, hS⟩ := h
    exact ⟨lv, E, hE, hS.by_ (show Blk w g' e cur from hb) hg h1 h2 h3⟩
/-- What they cost. -/
def CO (sz : List Int) (i : Nat) : List Int := (FL sz i).map (fun a => (a.2 : Int) + 16)
theorem CO_len (sz : List Int) (i : Nat) : (CO sz i).length = i := by simp [CO, FL_len]
theorem CO_succ (sz : List Int) (i : Nat) : CO sz (i + 1) = CO sz i ++ [((sz.getD i 0).toNat : Int) + 16] := by simp [CO, FL_succ]
theorem CO_get (sz : List Int) {i q : Nat} (h : q < i) : (CO sz i).getD q 0 = (((FL sz i)[q]'(by rw [FL_len]; exact h)).2 : Int) + 16 := by
  simp [CO, List.getD, FL_len, h]
theorem FL_cost {sz : List Int} {i q : Nat} (h : q < i) : lcost ((FL sz i).drop q) = (CO sz i).getD q 0 + lcost ((FL sz i).drop (q + 1)) := by
  rw [lcost_at _ (by rw [FL_len]; exact h), CO_get sz h]
theorem CO_bound {sz : List Int} (hk : BytesOk sz) {i q : Nat} (h : q < i) : 16 ≤ (CO sz i).getD q 0 ∧ (CO sz i).getD q 0 ≤ 271 := by
  rw [CO_get sz h]
  simp only [FL, List.getElem_map, List.getElem_range]
  have h1 : (sz.getD q 0).toNat ≤ 255 := by
    by_cases hq : q < sz.length
    · have := hk (sz[q]) (List.getElem_mem hq)
      simp [List.getD, hq]
      omega
    · simp [List.getD, show sz[q]? = none from List.getElem?_eq_none (by omega)]
  omega
theorem lcost_le {sz : List Int} (hk : BytesOk sz) (i : Nat) : ∀ q, q ≤ i → lcost ((FL sz i).drop (i - q)) ≤ 271 * q
  | 0, _ => by rw [List.drop_eq_nil_of_le (by rw [FL_len]; omega)]; simp [lcost]
  | q + 1, h => by
    have h1 := FL_cost (sz := sz) (i := i) (q := i - (q + 1)) (by omega)
    have h2 := CO_bound hk (i := i) (q := i - (q + 1)) (by omega)
    have h3 := lcost_le hk i q (by omega)
    rw [show i - (q + 1) + 1 = i - q by omega] at h1
    omega
theorem first_le {sz : List Int} {i f j : Nat} {r : Int} (h1 : j = 0 ∨ r < lcost ((FL sz i).drop (j - 1))) (h2 : lcost ((FL sz i).drop f) ≤ r) : j ≤ f := by
  rcases h1 with h1 | h1
  · omega
  · refine Classical.byContradiction fun hn => ?_
    have := lcost_drop_le (FL sz i) (i := f) (j := j - 1) (by omega)
    omega
theorem ok_lcost {r : Int} {L : List (Int × Nat)} {T : List (List Int × Int × Int)} (h : (stO L T).Ok r) : lcost L ≤ r := h.fit
section
variable (B sb lb zb tb nb ob : Nat) (r : Int) (sz : List Int) (i f m : Nat) (T : List (List Int × Int × Int)) (w : World)
theorem old_put (hH : HS w B sb lb zb tb r (stO ((FL sz i).drop f) T)) (hok : (stO ((FL sz i).drop f) T).Ok r) (hf : f ≤ i) (hi : i ≤ 1000) (hm : sz.getD i 0 = m) (hmb : m ≤ 255) (hr : 300 ≤ r ∧ r ≤ 2299) (hv : Rd w .u8 (.slice (some ⟨nb, 0, none⟩) 1 1) [97]) (hd : RdT w (.slice (some ⟨ob, 0, none⟩) m m) (List.replicate m 0)) :
    Calls Try.prog 12 #[.pointer (some ⟨sb, 0, none⟩), .slice (some ⟨nb, 0, none⟩) 1 1, .agg #[.int .u64 i, .int .u64 0, .int .u8 0, .bool false, .slice (some ⟨ob, 0, none⟩) m m]] w fun e w' => e = .returned (.int .i64 0) ∧ ∃ f' T', f' ≤ i ∧ HS w' B sb lb zb tb r (stO ((FL sz (i + 1)).drop f') T') ∧ (stO ((FL sz (i + 1)).drop f') T').Ok r ∧ KX lb zb tb w w' ∧ Below B w w' := by
  have ht : (sz.getD i 0).toNat = m := by rw [hm]; rfl
  obtain ⟨f', T', h1, h2⟩ := FL_step (room := r) (sz := sz) (i := i) (f := f) (T := T) hf (by rw [ht]; omega)
  rw [ht] at h2
  have hk := pput_okP (l := [97]) (g := (i : Int)) (n := 0) (p := 0) (d := List.replicate m 0) hok
  rw [h2] at hk
  refine (put_rep B sb lb zb tb (.slice (some ⟨nb, 0, none⟩) 1 1) r i 0 0 false (some ⟨ob, 0, none⟩) m m 0 [97] (stO ((FL sz i).drop f) T) w hH hok (by omega) hv aw_bytes (by simp) hd (by omega) (by omega) ⟨by omega, by omega⟩ ⟨by omega, by omega⟩ (by omega)).mono ?_
  rw [h2]
  rintro e w' ⟨rfl, h3, h4, h5⟩
  exact ⟨rfl, f', T', h1, h3, hk, h4, h5⟩
theorem old_get (k : Nat) (hH : HS w B sb lb zb tb r (stO ((FL sz i).drop f) T)) (hok : (stO ((FL sz i).drop f) T).Ok r) (hk : k ≤ 1000) (hr : 300 ≤ r ∧ r ≤ 2299) (hv : Rd w .u8 (.slice (some ⟨nb, 0, none⟩) 1 1) [97]) (ok : Bool) (hk2 : ok = decide (f ≤ k ∧ k < i)) :
    Calls Try.prog 13 #[.pointer (some ⟨sb, 0, none⟩), .slice (some ⟨nb, 0, none⟩) 1 1, .agg #[.int .u64 k, .int .u64 0]] w fun e w' => ∃ (g' n' p' : Int) (A : Option Addr) (a c : Nat), e = .returned (.tuple #[.agg #[.int .u64 g', .int .u64 n', .int .u8 p', .bool false, .slice A a c], .bool ok]) ∧ HS w' B sb lb zb tb r (stO ((FL sz i).drop f) T) ∧ Below w.heap.size w w' := by
  have hg := stO_get (sz := sz) (i := i) (f := f) (k := k) (T := T)
  obtain ⟨⟨g', n', p', d', ok'⟩, hgv⟩ : ∃ x, x = getV (pget (stO ((FL sz i).drop f) T) [97] k 0) := ⟨_, rfl⟩
  rw [← hgv] at hg
  simp only at hg
  subst hg
  rw [← hk2] at hgv
  refine (get_any B sb lb zb tb (.slice (some ⟨nb, 0, none⟩) 1 1) r k 0 [97] (stO ((FL sz i).drop f) T) w hH hv aw_bytes (by simp) ⟨by omega, by omega⟩ ⟨by omega, by omega⟩ hok (by omega) g' n' p' d' ok hgv.symm).mono ?_
  rintro e w' ⟨dv, rfl, ho, h3, h4⟩
  obtain ⟨A, c, rfl, _⟩ := sl_of_own ho
  exact ⟨g', n', p', A, _, c, rfl, h3, h4⟩
end
theorem own_ge {w : World} {base n size : Nat} {e : TypeId} {v : Value} {xs : List Value} {b : Nat} (h : w.ownsRow base e size v n xs) (hb : v.ownBlock = some b) : base ≤ b := by
  rcases h.2 with ⟨rfl, _⟩ | ⟨g', cap, cur, rfl, h1, _⟩
  · simp [Value.ownBlock] at hb
  · simp only [Value.ownBlock, Option.some.injEq] at hb; omega
set_option maxHeartbeats 4000000 in
set_option maxRecDepth 100000 in
theorem oldest_walk (r0 : Int) (v : Value) (sz : List Int) (w : World) (h0 : 0 ≤ r0 ∧ r0 ≤ 65535) (hl : Rd w .u8 v sz) (hk : BytesOk sz) :
    Calls Try.prog 4 #[.int .u16 r0, v] w fun e w' => e = .returned (.bool true) ∧ Below w.heap.size w w' := by
  obtain ⟨A, cap, rfl⟩ := hl.form
  have hlm : sz.length ≤ 9223372036854775807 := by have := hl.rdv.2.2; unfold maxLen at this; omega
  have HL := Lib.hid hl
  have HK := Lib.hid hk
  clear hl hk
  have haw := awake_any w
  obtain ⟨i0, hi, hz0, hz1, hz2⟩ := info_parts infoI
  have kc := fun (w : World) (C : Array Value) (n c : Nat) => Lib.run_convert_bytes_const (P := Try.prog) w 30 5 C n c Try.underlying30 Try.underlying5
  go_enter Try.func4, Try.ntmps4
  go_upto_region 4 with (first | (go_at_call 8; (with_reducible refine haw.mono ?_); rintro e w1 ⟨rfl, hb1⟩) | fail)
  clear haw
  generalize hrr : 300 + r0 % 2000 = r
  have hrb : 300 ≤ r ∧ r ≤ 2299 := by omega
  clear hrr
  have hnew := new_ok r w1 (by omega) (by omega)
  go_upto_region 5 with (first | (go_at_call 9; (with_reducible refine hnew.mono ?_); rintro e w2 ⟨sb, lb, zb, tb, rfl, hH, hb2⟩) | fail)
  clear hnew
  obtain ⟨B, hB⟩ : ∃ B, B = w1.heap.size := ⟨_, rfl⟩
  rw [← hB] at hH hb2
  have hwB : w.heap.size ≤ B := by rw [hB]; exact hb1.size
  have hb := hb1.trans (hb2.mono hwB)
  clear hb1 hb2 hB
  go_wp2_with fail
  go_loopg [8, 31] sz.length (fun gk s8 s31 wr => ∃ (i f : Nat) (T : List (List Int × Int × Int)), gk = sz.length - i ∧ i ≤ sz.length ∧ i ≤ 40 ∧ f ≤ i ∧ s31 = .int .i64 i ∧ HS wr B sb lb zb tb r (stO ((FL sz i).drop f) T) ∧ (stO ((FL sz i).drop f) T).Ok r ∧ wr.ownsRow w.heap.size 3 1 s8 i ((CO sz i).map (Value.int .i64)) ∧ Below w.heap.size w wr)
  case atStart => exact ⟨0, 0, [], rfl, Nat.zero_le _, by omega, Nat.le_refl _, rfl, hH, PS.empty_ok (by omega), World.ownsRow_nil _ _ _ _, hb⟩
  case round =>
    clear hH hb
    obtain ⟨i, f, T, hgk, hil, hi40, hfi, rfl, hH, hok, hC, hb⟩ := hrel
    by_cases hlt : i < sz.length
    · obtain ⟨b, off, rfl, hbl, c0⟩ := (HL.out.below hb).at_ i hlt
      by_cases h40 : 40 ≤ i
      · have h40' : (40 : Int) ≤ (i : Int) := by omega
        go_wp2_with fail
        go_ret
        exact ⟨rfl, hb⟩
      · obtain ⟨m, hm⟩ : ∃ m : Nat, sz.getD i 0 = m := ⟨(sz.getD i 0).toNat, by have := HK.out (sz[i]) (List.getElem_mem hlt); simp [List.getD, hlt]; omega⟩
        have hmb : m ≤ 255 := by have := HK.out (sz[i]) (List.getElem_mem hlt); simp [List.getD, hlt] at hm; omega
        rw [hm] at c0
        have HM := Lib.hid hm
        clear hm
        have h40' : (i : Int) < 40 := by omega
        obtain ⟨cA, cc, rfl, _⟩ := sl_of_own hC
        have hv1 := lit_rdf 97 wr
        have hba : Below wr.heap.size wr (wr.alloc (.cells #[.int .u8 97] 5 (1, 2))) := (Below.refl _ _).alloc (Nat.le_refl _) _
        have hH1 := hH.kept hba
        have hC1 := own_same hC hba
        have hb1 := hb.trans (hba.mono hb.size)
        go_upto_if 47 with (first | (go_at_call 16; (with_reducible refine (obj_any i 0 m (wr.alloc (.cells #[.int .u8 97] 5 (1, 2))) (by omega)).mono ?_); rintro e w3 ⟨ob, rfl, ho3, hb3⟩; have hH3 := hH1.kept hb3; have hv3 : Rd w3 .u8 (.slice (some ⟨wr.heap.size, 0, none⟩) 1 1) [97] := (hv1.below hb3).1; have hd3 := rdt_of_own ho3; have hC3 := own_same hC1 hb3; have hb3' := hb1.trans (hb3.mono hb1.size)) | (go_at_call 12; (with_reducible refine (old_put B sb lb zb tb wr.heap.size ob r sz i f m T w3 hH3 hok hfi (by omega) HM.out hmb hrb hv3 hd3).mono ?_); rintro e w4 ⟨rfl, f', T', hf', hH4, hok4, hx4, hb4⟩) | fail)
        have hC4 := own_kx hC3 hH3 hx4 (by decide) (by decide)
        have hb4' := hb3'.trans (hb4.mono hwB)
        clear hH hok hC hb c0 hbl hv1 hba hH1 hC1 hb1 ho3 hb3 hH3 hv3 hd3 hC3 hb3' hx4 hb4
        have hba5 : Below w4.heap.size w4 (w4.alloc (.cells #[.int .i64 ((m : Int) + 16)] 3)) := (Below.refl _ _).alloc (Nat.le_refl _) _
        have hH5 := hH4.kept hba5
        have hC5 := own_same hC4 hba5
        have hb5 := hb4'.trans (hba5.mono hb4'.size)
        have hr5 : Rd (w4.alloc (.cells #[.int .i64 ((m : Int) + 16)] 3)) .i64 (.slice (some ⟨w4.heap.size, 0, none⟩) 1 1) [(m : Int) + 16] := rd_of_own (k := .i64) (l := [(m : Int) + 16]) (base := 0) (World.ownsRow_lit (size := 1) (e := 3) w4 #[.int .i64 ((m : Int) + 16)] 1 (Nat.zero_le _) (by decide) rfl)
        have hrv5 := hr5.rdv.2.2.2.2
        go_upto_region 13 with (first | (at_builtin; refine wpList_append_any _ rfl _ _ 49 rfl w.heap.size 3 i0 _ 1 8 Try.underlying49 hi hz0 hz1 hz2 rfl (by decide) (.slice cA i cc) i _ rfl hC5 (some ⟨w4.heap.size, 0, none⟩) 1 1 _ rfl hrv5 (oneInts _ _) (by unfold maxLen; omega) (by omega) hb5.size (by simp) ?_; intro v6 w6 hown6 hgrow6 hat6) | fail)
        obtain ⟨cA6, cc6, rfl, _⟩ := sl_of_own hown6
        have hC6 : w6.ownsRow w.heap.size 3 1 (.slice cA6 (i + 1) cc6) (i + 1) ((CO sz (i + 1)).map (Value.int .i64)) := by
          rw [CO_succ, HM.out, List.map_append]; exact hown6
        have hH6 := hH5.own hC5 hgrow6 (by decide) (by decide) (by decide)
        have hb6 := hb5.grown hgrow6 hb5.size (fun b hb => own_ge hC5 hb)
        clear hH4 hC4 hb4' hba5 hH5 hC5 hb5 hr5 hrv5 hown6 hgrow6 hat6
        obtain ⟨N, hN⟩ : ∃ N, N = i + 1 := ⟨_, rfl⟩
        rw [← hN] at hC6 hH6 hok4 ⊢
        have hiN : i < N ∧ N ≤ 40 := by omega
        have HN := Lib.hid hN
        clear hN
        have HF := Lib.hid (fun q (h : q < N) => FL_cost (sz := sz) h)
        have HQ := Lib.hid (fun q (h : q < N) => CO_bound HK.out (sz := sz) h)
        go_upto_block 2 with fail
        go_cut [11, 12] (fun s11 s12 wc => ∃ j : Nat, s12 = .int .i64 j ∧ s11 = .int .i64 (lcost ((FL sz N).drop j)) ∧ j ≤ N ∧ (j = 0 ∨ r < lcost ((FL sz N).drop (j - 1))) ∧ wc = w6)
        case first =>
          go_wp2_with fail
          go_loopg [11, 12] N (fun gk s11 s12 wr => ∃ j : Nat, gk = j ∧ j ≤ N ∧ s12 = .int .i64 j ∧ s11 = .int .i64 (lcost ((FL sz N).drop j)) ∧ wr = w6)
          case atStart => exact ⟨N, rfl, Nat.le_refl _, rfl, by rw [List.drop_eq_nil_of_le (by rw [FL_len]; exact Nat.le_refl _)]; rfl, rfl⟩
          case round =>
            obtain ⟨j, hgk2, hjN, rfl, rfl, rfl⟩ := hrel
            by_cases hj : j = 0
            · subst hj
              go_wp2_with fail
              go_meet
              exact ⟨0, rfl, rfl, Nat.zero_le _, .inl rfl, rfl⟩
            · obtain ⟨q, rfl⟩ : ∃ q, j = q + 1 := ⟨j - 1, by omega⟩
              obtain ⟨b2, off2, rfl, hbl2, c2⟩ := (rd_of_own (k := .i64) hC6).at_ q (by rw [CO_len]; omega)
              have hcb := HQ.out q (by omega)
              obtain ⟨cq, hcq⟩ : ∃ cq, cq = (CO sz N).getD q 0 := ⟨_, rfl⟩
              rw [← hcq] at c2 hcb
              have HCQ := Lib.hid hcq
              clear hcq
              obtain ⟨sq, hsq⟩ : ∃ sq, sq = lcost ((FL sz N).drop (q + 1)) := ⟨_, rfl⟩
              have hsb : 0 ≤ sq ∧ sq ≤ 20000 := by
                rw [hsq]
                refine ⟨lcost_pos _, ?_⟩
                have := lcost_le HK.out N (N - (q + 1)) (by omega)
                rw [show N - (N - (q + 1)) = q + 1 by omega] at this
                omega
              rw [← hsq]
              have HSQ := Lib.hid hsq
              clear hsq
              have hq1 : ((q + 1 : Nat) : Int) = (q : Int) + 1 := by omega
              rw [hq1]
              clear hq1
              have hw1 : wrap64 (sq + cq) = sq + cq := by unfold wrap64; omega
              have hw2 : IntKind.i64.wrap (sq + cq) = sq + cq := by rw [IntKind.wrap_i64]; omega
              have hd0 : decide ((0 : Int) < (q : Int) + 1) = true := decide_eq_true (by omega)
              by_cases hle : sq + cq ≤ r
              · have hd1 : decide (sq + cq ≤ r) = true := decide_eq_true hle
                go_wp2_with fail
                go_roundg q
                case measure => omega
                case rel => exact ⟨q, rfl, by omega, rfl, by rw [HF.out q (by omega), ← HSQ.out, ← HCQ.out]; exact congrArg (Value.int .i64) (Int.add_comm _ _), rfl⟩
              · have hd1 : decide (sq + cq ≤ r) = false := decide_eq_false hle
                go_wp2_with fail
                go_meet
                exact ⟨q + 1, rfl, by rw [← HSQ.out], by omega, .inr (by show r < lcost ((FL sz N).drop q); rw [HF.out q (by omega), ← HSQ.out, ← HCQ.out]; omega), rfl⟩
        obtain ⟨j, rfl, rfl, hjN, hjr, rfl⟩ := hcut
        have hjf := first_le hjr (ok_lcost hok4)
        have hus := lcost_drop_le (FL sz N) hjf
        obtain ⟨sj, hsj⟩ : ∃ sj, sj = lcost ((FL sz N).drop j) := ⟨_, rfl⟩
        rw [← hsj] at hus ⊢
        have HSJ := Lib.hid hsj
        have HJR := Lib.hid hjr
        clear hsj hjr HF HQ
        go_wp2_with fail
        go_loopg [79] N (fun gk s79 wr => ∃ k : Nat, gk = N - k ∧ k ≤ N ∧ s79 = .int .i64 k ∧ HS wr B sb lb zb tb r (stO ((FL sz N).drop f') T') ∧ wr.ownsRow w.heap.size 3 1 (.slice cA6 N cc6) N ((CO sz N).map (Value.int .i64)) ∧ Below w.heap.size w wr)
        case atStart => exact ⟨0, rfl, Nat.zero_le _, rfl, hH6, hC6, hb6⟩
        case round =>
          clear hH6 hb6 hC6
          obtain ⟨k, hgk2, hkN, rfl, hH7, hC7, hb7⟩ := hrel
          have hv7 := lit_rdf 97 wr
          have hba7 : Below wr.heap.size wr (wr.alloc (.cells #[.int .u8 97] 5 (1, 2))) := (Below.refl _ _).alloc (Nat.le_refl _) _
          have hH8 := hH7.kept hba7
          have hv8 : Rd (wr.alloc (.cells #[.int .u8 97] 5 (1, 2))) .u8 (.slice (some ⟨wr.heap.size, 0, none⟩) 1 1) [97] := hv7.1
          have hb8 := hb7.trans (hba7.mono hb7.size)
          have hC8 := own_same hC7 hba7
          clear hH7 hv7 hba7 hC7
          by_cases hlt2 : k < N
          · by_cases hfk : f' ≤ k
            · have hget := old_get B sb lb zb tb wr.heap.size r sz N f' T' _ k hH8 hok4 (by omega) hrb hv8 true (by simp [hfk, hlt2])
              have hkj : decide ((k : Int) < (j : Int)) = false := decide_eq_false (by omega)
              go_wp2_with (first | (go_at_call 13; (with_reducible refine hget.mono ?_); clear hget; rintro e w9 ⟨g', n', p', gA, ga, gc, rfl, hH9, hb9⟩) | fail)
              go_roundg (N - (k + 1))
              case measure => omega
              case rel => exact ⟨k + 1, rfl, by omega, by go_num, hH9.kept ((Below.refl _ _).alloc (Nat.le_refl _) _), own_same (own_same hC8 hb9) ((Below.refl _ _).alloc (Nat.le_refl _) _), (hb8.trans (hb9.mono hb8.size)).alloc (Nat.le_trans hb8.size hb9.size) _⟩
            · have hget := old_get B sb lb zb tb wr.heap.size r sz N f' T' _ k hH8 hok4 (by omega) hrb hv8 false (by simp [hfk])
              go_wp2_with (first | (go_at_call 13; (with_reducible refine hget.mono ?_); clear hget; rintro e w9 ⟨g', n', p', gA, ga, gc, rfl, hH9, hb9⟩) | fail)
              go_roundg (N - (k + 1))
              case measure => omega
              case rel => exact ⟨k + 1, rfl, by omega, by go_num, hH9.kept ((Below.refl _ _).alloc (Nat.le_refl _) _), own_same (own_same hC8 hb9) ((Below.refl _ _).alloc (Nat.le_refl _) _), (hb8.trans (hb9.mono hb8.size)).alloc (Nat.le_trans hb8.size hb9.size) _⟩
          · have hget := old_get B sb lb zb tb wr.heap.size r sz N f' T' _ i hH8 hok4 (by omega) hrb hv8 true (by simp [hf', hiN.1])
            have hdu : decide (sj < lcost ((FL sz N).drop f')) = false := decide_eq_false (by omega)
            go_upto_region 25 with (first | (go_at_call 13; (with_reducible refine hget.mono ?_); clear hget; rintro e w9 ⟨g', n', p', gA, ga, gc, rfl, hH9, hb9⟩) | fail)
            refine wp_world (fun wz => HS wz B sb lb zb tb r (stO ((FL sz N).drop f') T') ∧ wz.ownsRow w.heap.size 3 1 (.slice cA6 N cc6) N ((CO sz N).map (Value.int .i64)) ∧ Below w.heap.size w wz) ⟨hH9.kept ((Below.refl _ _).alloc (Nat.le_refl _) _), own_same (own_same hC8 hb9) ((Below.refl _ _).alloc (Nat.le_refl _) _), (hb8.trans (hb9.mono hb8.size)).alloc (Nat.le_trans hb8.size hb9.size) _⟩ ?_
            clear hH8 hv8 hb8 hb7 hH9 hb9 hC8
            rintro wa ⟨hHa, hCa, hba⟩
            have husd := used_any B sb lb zb tb r _ wa hHa
            rw [show (stO ((FL sz N).drop f') T').used = lcost ((FL sz N).drop f') from rfl] at husd
            obtain ⟨uf, huf⟩ : ∃ uf, uf = lcost ((FL sz N).drop f') := ⟨_, rfl⟩
            rw [← huf] at husd hus hdu
            clear huf
            go_wp2_with (first | (go_at_call 15; (with_reducible refine husd.mono ?_); clear husd; rintro e wb ⟨rfl, hHb, hbb⟩) | fail)
            go_roundg (sz.length - N)
            case measure => have := HN.out; omega
            case rel => exact ⟨N, f', T', rfl, by have := HN.out; omega, hiN.2, by omega, by rw [HN.out]; go_num, hHb, hok4, own_same hCa hbb, hba.trans (hbb.mono hba.size)⟩
    · go_wp2_with fail
      go_ret
      exact ⟨rfl, hb⟩

end Go.Proofs.Ytiaabbflchdcbaa
