/-
  What fields of an eye reads.
  What fields of an eye reads.
  What fields of an eye reads.
  What fields of an eye reads.
  What fields of an eye reads.
-/
import Derived.Test.YtjijmbpgfabgcaaDoorZJ
namespace Go.Proofs.YtjijmbpgfabgcaaDoor
open Go.RowKit
set_option linter.unusedVariables false
set_option linter.unusedSimpArgs false

set_option maxHeartbeats 4000000 in
set_option maxRecDepth 100000 in
theorem yf191 (B yb mb : Nat) (kd : Int) (l : List Int) (w : World) (hY : Eye B w yb l) (hM : MB B w mb (M.nil kd)) (hBs : B ≤ w.heap.size) (hk : BytesOk l) (hl : l.length ≤ 1000000) :
    Calls Tryd.prog 52 #[.pointer (some ⟨yb, 0, none⟩), .pointer (some ⟨mb, 0, none⟩), .int .i64 191] w fun e w' => Out (parse (shP 191) (M.nil kd) l) B yb mb e w' ∧ EK B w w' := by
  obtain ⟨o, ho⟩ : ∃ o, o = parse (shP 191) (M.nil kd) l := ⟨_, rfl⟩
  rw [← ho]
  have HO := Lib.hid ho
  clear ho
  have hp0 : parse (shP 191) (M.nil kd) l = parse [105, 97, 116, 112, 111, 115, 103] (M.nil kd) l := rfl
  have hY0 := hY
  have hM0 := hM
  have hK0 := EK.refl hBs
  have hk0 := hk
  have hl0 := hl
  clear hY hM hk hl
  go_enter Tryd.func52, Tryd.ntmps52
  rcases ht1 : vtake l with _ | ⟨v1, r1⟩
  · go_wp2_with fail
    (with_reducible refine (ynum_no B yb l _ hY0 hK0.sz hk0 ht1).mono ?_)
    rintro e wx ⟨rfl, hcx, hsx⟩
    go_wp2_with fail
    exact ⟨rfl, by rw [HO.out, hp0, p105_no ht1]; exact ⟨rfl, mb_blk hM0 hY0 hsx⟩, hK0.trans hcx⟩
  · go_wp2_with fail
    (with_reducible refine (ynum_yes B yb l r1 v1 _ hY0 hK0.sz hk0 hl0 ht1).mono ?_)
    rintro e w1 ⟨rfl, hY1a, hc0, hs0⟩
    have hM1a := mb_keep hM0 hY0 hc0 hs0
    have hK1a := hK0.trans hc0
    have f1_1 := hM1a.frozen 1
    obtain ⟨o1_1, e1_1⟩ := hM1a.old 1 (by decide)
    have hM1 : MB B (w1.setCell ⟨mb, 1, none⟩ (.int .u64 v1)) mb { (M.nil kd) with id := v1 } := mb_set hM1a 1 (.int .u64 v1) (fun _ _ _ => rfl) rfl rfl rfl
    have hY1 := eye_set hY1a hM1a 1 (.int .u64 v1)
    have hK1 := ek_mb hK1a hM1a 1 (.int .u64 v1)
    have hk1 : BytesOk r1 := (vtake_rest hk0 ht1).1
    have hl1 : r1.length ≤ 1000000 := Nat.le_trans (vtake_rest hk0 ht1).2.1 hl0
    have hp1 := hp0.trans (p105_yes ht1)
    clear hM0 hY0 hK0 hc0 hs0 hM1a hY1a hK1a hp0
    rcases ht2 : vtake r1 with _ | ⟨v2, r2⟩
    · go_wp2_with fail
      (with_reducible refine (ynum_no B yb r1 _ hY1 hK1.sz hk1 ht2).mono ?_)
      rintro e wx ⟨rfl, hcx, hsx⟩
      go_wp2_with fail
      exact ⟨rfl, by rw [HO.out, hp1, p97_no ht2]; exact ⟨rfl, mb_blk hM1 hY1 hsx⟩, hK1.trans hcx⟩
    · go_wp2_with fail
      (with_reducible refine (ynum_yes B yb r1 r2 v2 _ hY1 hK1.sz hk1 hl1 ht2).mono ?_)
      rintro e w2 ⟨rfl, hY2a, hc1, hs1⟩
      have hM2a := mb_keep hM1 hY1 hc1 hs1
      have hK2a := hK1.trans hc1
      have f2_2 := hM2a.frozen 2
      obtain ⟨o2_2, e2_2⟩ := hM2a.old 2 (by decide)
      have hM2 : MB B (w2.setCell ⟨mb, 2, none⟩ (.int .u64 v2)) mb { { (M.nil kd) with id := v1 } with al := v2 } := mb_set hM2a 2 (.int .u64 v2) (fun _ _ _ => rfl) rfl rfl rfl
      have hY2 := eye_set hY2a hM2a 2 (.int .u64 v2)
      have hK2 := ek_mb hK2a hM2a 2 (.int .u64 v2)
      have hk2 : BytesOk r2 := (vtake_rest hk1 ht2).1
      have hl2 : r2.length ≤ 1000000 := Nat.le_trans (vtake_rest hk1 ht2).2.1 hl1
      have hp2 := hp1.trans (p97_yes ht2)
      clear hM1 hY1 hK1 hc1 hs1 hM2a hY2a hK2a hp1
      by_cases ht3 : (vtext r2 65536).2.2 = 0
      · go_wp2_with fail
        (with_reducible refine (ytext_yes B yb r2 _ hY2 hK2.sz hk2 hl2 ht3).mono ?_)
        rintro e w3 ⟨t3, rfl, hv3, hY3a, hc2, hs2⟩
        obtain ⟨tA3, tc3, rfl⟩ := hv3.form
        have hM3a := mb_keep hM2 hY2 hc2 hs2
        have hK3a := hK2.trans hc2
        have f3_3 := hM3a.frozen 3
        obtain ⟨o3_3, e3_3⟩ := hM3a.old 3 (by decide)
        have hM3 := mb_setn hM3a (.slice tA3 (vtext r2 65536).1.length tc3) _ hv3
        have hY3 := eye_set hY3a hM3a 3 ((.slice tA3 (vtext r2 65536).1.length tc3))
        have hK3 := ek_mb hK3a hM3a 3 ((.slice tA3 (vtext r2 65536).1.length tc3))
        have hk3 : BytesOk (vtext r2 65536).2.1 := (vtext_rest hk2).1
        have hl3 : (vtext r2 65536).2.1.length ≤ 1000000 := Nat.le_trans (vtext_rest hk2).2.1 hl2
        have hp3 := hp2.trans (p116_yes ht3)
        clear hM2 hY2 hK2 hc2 hs2 hM3a hY3a hK3a hp2
        obtain ⟨d4, hd4⟩ : ∃ d, d = (vtext r2 65536).2.1 := ⟨_, rfl⟩
        rw [← hd4] at hY3 hk3 hl3 hp3
        clear hd4
        rcases d4 with _ | ⟨v4, r4⟩
        · go_wp2_with fail
          (with_reducible refine (yone_no B yb _ hY3 hK3.sz).mono ?_)
          rintro e wx ⟨rfl, hcx, hsx⟩
          go_wp2_with fail
          exact ⟨rfl, by rw [HO.out, hp3, p112_no]; exact ⟨rfl, mb_blk hM3 hY3 hsx⟩, hK3.trans hcx⟩
        · have hlr4 : r4.length ≤ 1000000 := by simp at hl3; omega
          go_wp2_with fail
          (with_reducible refine (yone_yes B yb v4 r4 _ hY3 hK3.sz hlr4).mono ?_)
          rintro e w4 ⟨rfl, hY4a, hc3, hs3⟩
          have hM4a := mb_keep hM3 hY3 hc3 hs3
          have hK4a := hK3.trans hc3
          have f4_4 := hM4a.frozen 4
          obtain ⟨o4_4, e4_4⟩ := hM4a.old 4 (by decide)
          have hM4 : MB B (w4.setCell ⟨mb, 4, none⟩ (.int .u8 v4)) mb { { { { (M.nil kd) with id := v1 } with al := v2 } with nm := (vtext r2 65536).1 } with pr := v4 } := mb_set hM4a 4 (.int .u8 v4) (fun _ _ _ => rfl) rfl rfl rfl
          have hY4 := eye_set hY4a hM4a 4 (.int .u8 v4)
          have hK4 := ek_mb hK4a hM4a 4 (.int .u8 v4)
          have hk4 : BytesOk r4 := (fun y hy => hk3 y (by simp [hy]))
          have hl4 : r4.length ≤ 1000000 := hlr4
          have hp4 := hp3.trans (p112_yes)
          clear hM3 hY3 hK3 hc3 hs3 hM4a hY4a hK4a hp3
          obtain ⟨d5, hd5⟩ : ∃ d, d = r4 := ⟨_, rfl⟩
          rw [← hd5] at hY4 hk4 hl4 hp4
          clear hd5
          rcases d5 with _ | ⟨v5, r5⟩
          · go_wp2_with fail
            (with_reducible refine (yone_no B yb _ hY4 hK4.sz).mono ?_)
            rintro e wx ⟨rfl, hcx, hsx⟩
            go_wp2_with fail
            exact ⟨rfl, by rw [HO.out, hp4, p111_no]; exact ⟨rfl, mb_blk hM4 hY4 hsx⟩, hK4.trans hcx⟩
          · have hlr5 : r5.length ≤ 1000000 := by simp at hl4; omega
            go_wp2_with fail
            (with_reducible refine (yone_yes B yb v5 r5 _ hY4 hK4.sz hlr5).mono ?_)
            rintro e w5 ⟨rfl, hY5a, hc4, hs4⟩
            have hM5a := mb_keep hM4 hY4 hc4 hs4
            have hK5a := hK4.trans hc4
            have f5_5 := hM5a.frozen 5
            obtain ⟨o5_5, e5_5⟩ := hM5a.old 5 (by decide)
            have hM5 : MB B (w5.setCell ⟨mb, 5, none⟩ (.int .u8 v5)) mb { { { { { (M.nil kd) with id := v1 } with al := v2 } with nm := (vtext r2 65536).1 } with pr := v4 } with od := v5 } := mb_set hM5a 5 (.int .u8 v5) (fun _ _ _ => rfl) rfl rfl rfl
            have hY5 := eye_set hY5a hM5a 5 (.int .u8 v5)
            have hK5 := ek_mb hK5a hM5a 5 (.int .u8 v5)
            have hk5 : BytesOk r5 := (fun y hy => hk4 y (by simp [hy]))
            have hl5 : r5.length ≤ 1000000 := hlr5
            have hp5 := hp4.trans (p111_yes)
            clear hM4 hY4 hK4 hc4 hs4 hM5a hY5a hK5a hp4
            rcases ht6 : vtake r5 with _ | ⟨v6, r6⟩
            · go_wp2_with fail
              (with_reducible refine (yplace_no1 B yb r5 _ hY5 hK5.sz hk5 ht6).mono ?_)
              rintro e wx ⟨rfl, hcx, hsx⟩
              go_wp2_with fail
              exact ⟨rfl, by rw [HO.out, hp5, p115_no ht6]; exact ⟨rfl, mb_blk hM5 hY5 hsx⟩, hK5.trans hcx⟩
            · have hkr6 := (vtake_rest hk5 ht6).1
              have hlr6 := Nat.le_trans (vtake_rest hk5 ht6).2.1 hl5
              rcases hu6 : vtake r6 with _ | ⟨u6, s6⟩
              · go_wp2_with fail
                (with_reducible refine (yplace_no2 B yb r5 r6 v6 _ hY5 hK5.sz hk5 hl5 ht6 hkr6 hu6).mono ?_)
                rintro e wx ⟨rfl, hcx, hsx⟩
                go_wp2_with fail
                exact ⟨rfl, by rw [HO.out, hp5, p115_no2 ht6 hu6]; exact ⟨rfl, mb_blk hM5 hY5 hsx⟩, hK5.trans hcx⟩
              · go_wp2_with fail
                (with_reducible refine (yplace_yes B yb r5 r6 s6 v6 u6 _ hY5 hK5.sz hk5 hl5 ht6 hkr6 hlr6 hu6).mono ?_)
                rintro e w6 ⟨rfl, hY6a, hc5, hs5⟩
                have hM6a := mb_keep hM5 hY5 hc5 hs5
                have hK6a := hK5.trans hc5
                have f6_6 := hM6a.frozen 6
                have f6_7 := hM6a.frozen 7
                obtain ⟨o6_6, e6_6⟩ := hM6a.old 6 (by decide)
                obtain ⟨o6_7, e6_7⟩ := hM6a.old 7 (by decide)
                have hM6b : MB B (w6.setCell ⟨mb, 6, none⟩ (.int .u64 v6)) mb { { { { { { (M.nil kd) with id := v1 } with al := v2 } with nm := (vtext r2 65536).1 } with pr := v4 } with od := v5 } with sg := v6 } := mb_set hM6a 6 (.int .u64 v6) (fun _ _ _ => rfl) rfl rfl rfl
                have hY6b := eye_set hY6a hM6a 6 (.int .u64 v6)
                have hK6b := ek_mb hK6a hM6a 6 (.int .u64 v6)
                have hM6 : MB B ((w6.setCell ⟨mb, 6, none⟩ (.int .u64 v6)).setCell ⟨mb, 7, none⟩ (.int .u64 u6)) mb { { { { { { { (M.nil kd) with id := v1 } with al := v2 } with nm := (vtext r2 65536).1 } with pr := v4 } with od := v5 } with sg := v6 } with so := u6 } := mb_set hM6b 7 (.int .u64 u6) (fun _ _ _ => rfl) rfl rfl rfl
                have hY6 := eye_set hY6b hM6b 7 (.int .u64 u6)
                have hK6 := ek_mb hK6b hM6b 7 (.int .u64 u6)
                have hk6 : BytesOk s6 := (vtake_rest hkr6 hu6).1
                have hl6 : s6.length ≤ 1000000 := Nat.le_trans (vtake_rest hkr6 hu6).2.1 hlr6
                have hp6 := hp5.trans (p115_yes ht6 hu6)
                clear hM5 hY5 hK5 hc5 hs5 hM6a hY6a hK6a hp5 hM6b hY6b hK6b
                rcases ht7 : vtake s6 with _ | ⟨v7, r7⟩
                · go_wp2_with fail
                  (with_reducible refine (ynum_no B yb s6 _ hY6 hK6.sz hk6 ht7).mono ?_)
                  rintro e wx ⟨rfl, hcx, hsx⟩
                  go_wp2_with fail
                  exact ⟨rfl, by rw [HO.out, hp6, p103_no ht7]; exact ⟨rfl, mb_blk hM6 hY6 hsx⟩, hK6.trans hcx⟩
                · go_wp2_with fail
                  (with_reducible refine (ynum_yes B yb s6 r7 v7 _ hY6 hK6.sz hk6 hl6 ht7).mono ?_)
                  rintro e w7 ⟨rfl, hY7a, hc6, hs6⟩
                  have hM7a := mb_keep hM6 hY6 hc6 hs6
                  have hK7a := hK6.trans hc6
                  have f7_8 := hM7a.frozen 8
                  obtain ⟨o7_8, e7_8⟩ := hM7a.old 8 (by decide)
                  have hM7 : MB B (w7.setCell ⟨mb, 8, none⟩ (.int .u64 v7)) mb { { { { { { { { (M.nil kd) with id := v1 } with al := v2 } with nm := (vtext r2 65536).1 } with pr := v4 } with od := v5 } with sg := v6 } with so := u6 } with eg := v7 } := mb_set hM7a 8 (.int .u64 v7) (fun _ _ _ => rfl) rfl rfl rfl
                  have hY7 := eye_set hY7a hM7a 8 (.int .u64 v7)
                  have hK7 := ek_mb hK7a hM7a 8 (.int .u64 v7)
                  have hk7 : BytesOk r7 := (vtake_rest hk6 ht7).1
                  have hl7 : r7.length ≤ 1000000 := Nat.le_trans (vtake_rest hk6 ht7).2.1 hl6
                  have hp7 := hp6.trans (p103_yes ht7)
                  clear hM6 hY6 hK6 hc6 hs6 hM7a hY7a hK7a hp6
                  go_wp2_with fail
                  (first | go_end0 | ((try simp only [Exit.inBlock, Exit.then]); refine bodyPost_ret (results_none rfl _ _ _) rfl ?_))
                  exact ⟨by rw [HO.out, hp7, parse_nil]; exact ⟨rfl, hY7, hM7⟩, hK7⟩
      · go_wp2_with fail
        (with_reducible refine (ytext_no B yb r2 _ hY2 hK2.sz hk2 hl2 ht3).mono ?_)
        rintro e wx ⟨rfl, hcx, hsx⟩
        go_wp2_with fail
        exact ⟨rfl, by rw [HO.out, hp2, p116_no ht3]; exact ⟨rfl, mb_blk hM2 hY2 hsx⟩, hK2.trans hcx⟩

end Go.Proofs.YtjijmbpgfabgcaaDoor
namespace Go.Proofs.YtjijmbpgfabgcaaDoor
open Go.RowKit
set_option linter.unusedVariables false
set_option linter.unusedSimpArgs false

set_option maxHeartbeats 4000000 in
set_option maxRecDepth 100000 in
theorem yf289 (B yb mb : Nat) (kd : Int) (l : List Int) (w : World) (hY : Eye B w yb l) (hM : MB B w mb (M.nil kd)) (hBs : B ≤ w.heap.size) (hk : BytesOk l) (hl : l.length ≤ 1000000) :
    Calls Tryd.prog 52 #[.pointer (some ⟨yb, 0, none⟩), .pointer (some ⟨mb, 0, none⟩), .int .i64 289] w fun e w' => Out (parse (shP 289) (M.nil kd) l) B yb mb e w' ∧ EK B w w' := by
  obtain ⟨o, ho⟩ : ∃ o, o = parse (shP 289) (M.nil kd) l := ⟨_, rfl⟩
  rw [← ho]
  have HO := Lib.hid ho
  clear ho
  have hp0 : parse (shP 289) (M.nil kd) l = parse [105, 98, 115] (M.nil kd) l := rfl
  have hY0 := hY
  have hM0 := hM
  have hK0 := EK.refl hBs
  have hk0 := hk
  have hl0 := hl
  clear hY hM hk hl
  go_enter Tryd.func52, Tryd.ntmps52
  rcases ht1 : vtake l with _ | ⟨v1, r1⟩
  · go_wp2_with fail
    (with_reducible refine (ynum_no B yb l _ hY0 hK0.sz hk0 ht1).mono ?_)
    rintro e wx ⟨rfl, hcx, hsx⟩
    go_wp2_with fail
    exact ⟨rfl, by rw [HO.out, hp0, p105_no ht1]; exact ⟨rfl, mb_blk hM0 hY0 hsx⟩, hK0.trans hcx⟩
  · go_wp2_with fail
    (with_reducible refine (ynum_yes B yb l r1 v1 _ hY0 hK0.sz hk0 hl0 ht1).mono ?_)
    rintro e w1 ⟨rfl, hY1a, hc0, hs0⟩
    have hM1a := mb_keep hM0 hY0 hc0 hs0
    have hK1a := hK0.trans hc0
    have f1_1 := hM1a.frozen 1
    obtain ⟨o1_1, e1_1⟩ := hM1a.old 1 (by decide)
    have hM1 : MB B (w1.setCell ⟨mb, 1, none⟩ (.int .u64 v1)) mb { (M.nil kd) with id := v1 } := mb_set hM1a 1 (.int .u64 v1) (fun _ _ _ => rfl) rfl rfl rfl
    have hY1 := eye_set hY1a hM1a 1 (.int .u64 v1)
    have hK1 := ek_mb hK1a hM1a 1 (.int .u64 v1)
    have hk1 : BytesOk r1 := (vtake_rest hk0 ht1).1
    have hl1 : r1.length ≤ 1000000 := Nat.le_trans (vtake_rest hk0 ht1).2.1 hl0
    have hp1 := hp0.trans (p105_yes ht1)
    clear hM0 hY0 hK0 hc0 hs0 hM1a hY1a hK1a hp0
    obtain ⟨d2, hd2⟩ : ∃ d, d = r1 := ⟨_, rfl⟩
    rw [← hd2] at hY1 hk1 hl1 hp1
    clear hd2
    rcases d2 with _ | ⟨v2, r2⟩
    · go_wp2_with fail
      (with_reducible refine (yone_no B yb _ hY1 hK1.sz).mono ?_)
      rintro e wx ⟨rfl, hcx, hsx⟩
      go_wp2_with fail
      exact ⟨rfl, by rw [HO.out, hp1, p98_no]; exact ⟨rfl, mb_blk hM1 hY1 hsx⟩, hK1.trans hcx⟩
    · have hlr2 : r2.length ≤ 1000000 := by simp at hl1; omega
      have hv02 := hk1 v2 (by simp)
      by_cases hle2 : v2 ≤ 1
      · go_wp2_with fail
        (with_reducible refine (yone_yes B yb v2 r2 _ hY1 hK1.sz hlr2).mono ?_)
        rintro e w2 ⟨rfl, hY2a, hc1, hs1⟩
        have hdt2 : decide (v2 ≤ 1) = true := by simpa using hle2
        go_wp2_with fail
        (with_reducible refine (must_yes w2).mono ?_)
        rintro e wx ⟨rfl, rfl⟩
        have heq2 : (v2 == 1) = decide (v2 = 1) := by rfl
        have hM2a := mb_keep hM1 hY1 hc1 hs1
        have hK2a := hK1.trans hc1
        have f2_10 := hM2a.frozen 10
        obtain ⟨o2_10, e2_10⟩ := hM2a.old 10 (by decide)
        have hM2 : MB B (w2.setCell ⟨mb, 10, none⟩ (.bool (decide (v2 = 1)))) mb { { (M.nil kd) with id := v1 } with sm := decide (v2 = 1) } := mb_set hM2a 10 (.bool (decide (v2 = 1))) (fun _ _ _ => rfl) rfl rfl rfl
        have hY2 := eye_set hY2a hM2a 10 (.bool (decide (v2 = 1)))
        have hK2 := ek_mb hK2a hM2a 10 (.bool (decide (v2 = 1)))
        have hk2 : BytesOk r2 := (fun y hy => hk1 y (by simp [hy]))
        have hl2 : r2.length ≤ 1000000 := hlr2
        have hp2 := hp1.trans (p98_yes hle2)
        clear hM1 hY1 hK1 hc1 hs1 hM2a hY2a hK2a hp1
        rcases ht3 : vtake r2 with _ | ⟨v3, r3⟩
        · go_wp2_with fail
          (with_reducible refine (yplace_no1 B yb r2 _ hY2 hK2.sz hk2 ht3).mono ?_)
          rintro e wx ⟨rfl, hcx, hsx⟩
          go_wp2_with fail
          exact ⟨rfl, by rw [HO.out, hp2, p115_no ht3]; exact ⟨rfl, mb_blk hM2 hY2 hsx⟩, hK2.trans hcx⟩
        · have hkr3 := (vtake_rest hk2 ht3).1
          have hlr3 := Nat.le_trans (vtake_rest hk2 ht3).2.1 hl2
          rcases hu3 : vtake r3 with _ | ⟨u3, s3⟩
          · go_wp2_with fail
            (with_reducible refine (yplace_no2 B yb r2 r3 v3 _ hY2 hK2.sz hk2 hl2 ht3 hkr3 hu3).mono ?_)
            rintro e wx ⟨rfl, hcx, hsx⟩
            go_wp2_with fail
            exact ⟨rfl, by rw [HO.out, hp2, p115_no2 ht3 hu3]; exact ⟨rfl, mb_blk hM2 hY2 hsx⟩, hK2.trans hcx⟩
          · go_wp2_with fail
            (with_reducible refine (yplace_yes B yb r2 r3 s3 v3 u3 _ hY2 hK2.sz hk2 hl2 ht3 hkr3 hlr3 hu3).mono ?_)
            rintro e w3 ⟨rfl, hY3a, hc2, hs2⟩
            have hM3a := mb_keep hM2 hY2 hc2 hs2
            have hK3a := hK2.trans hc2
            have f3_6 := hM3a.frozen 6
            have f3_7 := hM3a.frozen 7
            obtain ⟨o3_6, e3_6⟩ := hM3a.old 6 (by decide)
            obtain ⟨o3_7, e3_7⟩ := hM3a.old 7 (by decide)
            have hM3b : MB B (w3.setCell ⟨mb, 6, none⟩ (.int .u64 v3)) mb { { { (M.nil kd) with id := v1 } with sm := decide (v2 = 1) } with sg := v3 } := mb_set hM3a 6 (.int .u64 v3) (fun _ _ _ => rfl) rfl rfl rfl
            have hY3b := eye_set hY3a hM3a 6 (.int .u64 v3)
            have hK3b := ek_mb hK3a hM3a 6 (.int .u64 v3)
            have hM3 : MB B ((w3.setCell ⟨mb, 6, none⟩ (.int .u64 v3)).setCell ⟨mb, 7, none⟩ (.int .u64 u3)) mb { { { { (M.nil kd) with id := v1 } with sm := decide (v2 = 1) } with sg := v3 } with so := u3 } := mb_set hM3b 7 (.int .u64 u3) (fun _ _ _ => rfl) rfl rfl rfl
            have hY3 := eye_set hY3b hM3b 7 (.int .u64 u3)
            have hK3 := ek_mb hK3b hM3b 7 (.int .u64 u3)
            have hk3 : BytesOk s3 := (vtake_rest hkr3 hu3).1
            have hl3 : s3.length ≤ 1000000 := Nat.le_trans (vtake_rest hkr3 hu3).2.1 hlr3
            have hp3 := hp2.trans (p115_yes ht3 hu3)
            clear hM2 hY2 hK2 hc2 hs2 hM3a hY3a hK3a hp2 hM3b hY3b hK3b
            go_wp2_with fail
            (first | go_end0 | ((try simp only [Exit.inBlock, Exit.then]); refine bodyPost_ret (results_none rfl _ _ _) rfl ?_))
            exact ⟨by rw [HO.out, hp3, parse_nil]; exact ⟨rfl, hY3, hM3⟩, hK3⟩
      · go_wp2_with fail
        (with_reducible refine (yone_yes B yb v2 r2 _ hY1 hK1.sz hlr2).mono ?_)
        rintro e w2 ⟨rfl, hY2a, hc1, hs1⟩
        have hdt2 : decide (v2 ≤ 1) = false := by simpa using hle2
        go_wp2_with fail
        (with_reducible refine (must_no w2).mono ?_)
        rintro e wx ⟨rfl, rfl⟩
        go_wp2_with fail
        exact ⟨rfl, by rw [HO.out, hp1, p98_no2 (by omega)]; exact ⟨rfl, mb_blk hM1 hY1 hs1⟩, hK1.trans hc1⟩
set_option maxHeartbeats 4000000 in
set_option maxRecDepth 100000 in
theorem yf1537 (B yb mb : Nat) (kd : Int) (l : List Int) (w : World) (hY : Eye B w yb l) (hM : MB B w mb (M.nil kd)) (hBs : B ≤ w.heap.size) (hk : BytesOk l) (hl : l.length ≤ 1000000) :
    Calls Tryd.prog 52 #[.pointer (some ⟨yb, 0, none⟩), .pointer (some ⟨mb, 0, none⟩), .int .i64 1537] w fun e w' => Out (parse (shP 1537) (M.nil kd) l) B yb mb e w' ∧ EK B w w' := by
  obtain ⟨o, ho⟩ : ∃ o, o = parse (shP 1537) (M.nil kd) l := ⟨_, rfl⟩
  rw [← ho]
  have HO := Lib.hid ho
  clear ho
  have hp0 : parse (shP 1537) (M.nil kd) l = parse [105, 99, 114] (M.nil kd) l := rfl
  have hY0 := hY
  have hM0 := hM
  have hK0 := EK.refl hBs
  have hk0 := hk
  have hl0 := hl
  clear hY hM hk hl
  go_enter Tryd.func52, Tryd.ntmps52
  rcases ht1 : vtake l with _ | ⟨v1, r1⟩
  · go_wp2_with fail
    (with_reducible refine (ynum_no B yb l _ hY0 hK0.sz hk0 ht1).mono ?_)
    rintro e wx ⟨rfl, hcx, hsx⟩
    go_wp2_with fail
    exact ⟨rfl, by rw [HO.out, hp0, p105_no ht1]; exact ⟨rfl, mb_blk hM0 hY0 hsx⟩, hK0.trans hcx⟩
  · go_wp2_with fail
    (with_reducible refine (ynum_yes B yb l r1 v1 _ hY0 hK0.sz hk0 hl0 ht1).mono ?_)
    rintro e w1 ⟨rfl, hY1a, hc0, hs0⟩
    have hM1a := mb_keep hM0 hY0 hc0 hs0
    have hK1a := hK0.trans hc0
    have f1_1 := hM1a.frozen 1
    obtain ⟨o1_1, e1_1⟩ := hM1a.old 1 (by decide)
    have hM1 : MB B (w1.setCell ⟨mb, 1, none⟩ (.int .u64 v1)) mb { (M.nil kd) with id := v1 } := mb_set hM1a 1 (.int .u64 v1) (fun _ _ _ => rfl) rfl rfl rfl
    have hY1 := eye_set hY1a hM1a 1 (.int .u64 v1)
    have hK1 := ek_mb hK1a hM1a 1 (.int .u64 v1)
    have hk1 : BytesOk r1 := (vtake_rest hk0 ht1).1
    have hl1 : r1.length ≤ 1000000 := Nat.le_trans (vtake_rest hk0 ht1).2.1 hl0
    have hp1 := hp0.trans (p105_yes ht1)
    clear hM0 hY0 hK0 hc0 hs0 hM1a hY1a hK1a hp0
    rcases ht2 : vtake r1 with _ | ⟨v2, r2⟩
    · go_wp2_with fail
      (with_reducible refine (ynum_no B yb r1 _ hY1 hK1.sz hk1 ht2).mono ?_)
      rintro e wx ⟨rfl, hcx, hsx⟩
      go_wp2_with fail
      exact ⟨rfl, by rw [HO.out, hp1, p99_no ht2]; exact ⟨rfl, mb_blk hM1 hY1 hsx⟩, hK1.trans hcx⟩
    · go_wp2_with fail
      (with_reducible refine (ynum_yes B yb r1 r2 v2 _ hY1 hK1.sz hk1 hl1 ht2).mono ?_)
      rintro e w2 ⟨rfl, hY2a, hc1, hs1⟩
      have hM2a := mb_keep hM1 hY1 hc1 hs1
      have hK2a := hK1.trans hc1
      have f2_11 := hM2a.frozen 11
      obtain ⟨o2_11, e2_11⟩ := hM2a.old 11 (by decide)
      have hM2 : MB B (w2.setCell ⟨mb, 11, none⟩ (.int .u64 v2)) mb { { (M.nil kd) with id := v1 } with cd := v2 } := mb_set hM2a 11 (.int .u64 v2) (fun _ _ _ => rfl) rfl rfl rfl
      have hY2 := eye_set hY2a hM2a 11 (.int .u64 v2)
      have hK2 := ek_mb hK2a hM2a 11 (.int .u64 v2)
      have hk2 : BytesOk r2 := (vtake_rest hk1 ht2).1
      have hl2 : r2.length ≤ 1000000 := Nat.le_trans (vtake_rest hk1 ht2).2.1 hl1
      have hp2 := hp1.trans (p99_yes ht2)
      clear hM1 hY1 hK1 hc1 hs1 hM2a hY2a hK2a hp1
      by_cases ht3 : (vtext r2 65536).2.2 = 0
      · go_wp2_with fail
        (with_reducible refine (ytext_yes B yb r2 _ hY2 hK2.sz hk2 hl2 ht3).mono ?_)
        rintro e w3 ⟨t3, rfl, hv3, hY3a, hc2, hs2⟩
        obtain ⟨tA3, tc3, rfl⟩ := hv3.form
        have hM3a := mb_keep hM2 hY2 hc2 hs2
        have hK3a := hK2.trans hc2
        have f3_12 := hM3a.frozen 12
        obtain ⟨o3_12, e3_12⟩ := hM3a.old 12 (by decide)
        have hM3 := mb_setr hM3a (.slice tA3 (vtext r2 65536).1.length tc3) _ hv3
        have hY3 := eye_set hY3a hM3a 12 ((.slice tA3 (vtext r2 65536).1.length tc3))
        have hK3 := ek_mb hK3a hM3a 12 ((.slice tA3 (vtext r2 65536).1.length tc3))
        have hk3 : BytesOk (vtext r2 65536).2.1 := (vtext_rest hk2).1
        have hl3 : (vtext r2 65536).2.1.length ≤ 1000000 := Nat.le_trans (vtext_rest hk2).2.1 hl2
        have hp3 := hp2.trans (p114_yes ht3)
        clear hM2 hY2 hK2 hc2 hs2 hM3a hY3a hK3a hp2
        go_wp2_with fail
        (first | go_end0 | ((try simp only [Exit.inBlock, Exit.then]); refine bodyPost_ret (results_none rfl _ _ _) rfl ?_))
        exact ⟨by rw [HO.out, hp3, parse_nil]; exact ⟨rfl, hY3, hM3⟩, hK3⟩
      · go_wp2_with fail
        (with_reducible refine (ytext_no B yb r2 _ hY2 hK2.sz hk2 hl2 ht3).mono ?_)
        rintro e wx ⟨rfl, hcx, hsx⟩
        go_wp2_with fail
        exact ⟨rfl, by rw [HO.out, hp2, p114_no ht3]; exact ⟨rfl, mb_blk hM2 hY2 hsx⟩, hK2.trans hcx⟩
set_option maxHeartbeats 4000000 in
set_option maxRecDepth 100000 in
theorem yf5 (B yb mb : Nat) (kd : Int) (l : List Int) (w : World) (hY : Eye B w yb l) (hM : MB B w mb (M.nil kd)) (hBs : B ≤ w.heap.size) (hk : BytesOk l) (hl : l.length ≤ 1000000) :
    Calls Tryd.prog 52 #[.pointer (some ⟨yb, 0, none⟩), .pointer (some ⟨mb, 0, none⟩), .int .i64 5] w fun e w' => Out (parse (shP 5) (M.nil kd) l) B yb mb e w' ∧ EK B w w' := by
  obtain ⟨o, ho⟩ : ∃ o, o = parse (shP 5) (M.nil kd) l := ⟨_, rfl⟩
  rw [← ho]
  have HO := Lib.hid ho
  clear ho
  have hp0 : parse (shP 5) (M.nil kd) l = parse [105, 116] (M.nil kd) l := rfl
  have hY0 := hY
  have hM0 := hM
  have hK0 := EK.refl hBs
  have hk0 := hk
  have hl0 := hl
  clear hY hM hk hl
  go_enter Tryd.func52, Tryd.ntmps52
  rcases ht1 : vtake l with _ | ⟨v1, r1⟩
  · go_wp2_with fail
    (with_reducible refine (ynum_no B yb l _ hY0 hK0.sz hk0 ht1).mono ?_)
    rintro e wx ⟨rfl, hcx, hsx⟩
    go_wp2_with fail
    exact ⟨rfl, by rw [HO.out, hp0, p105_no ht1]; exact ⟨rfl, mb_blk hM0 hY0 hsx⟩, hK0.trans hcx⟩
  · go_wp2_with fail
    (with_reducible refine (ynum_yes B yb l r1 v1 _ hY0 hK0.sz hk0 hl0 ht1).mono ?_)
    rintro e w1 ⟨rfl, hY1a, hc0, hs0⟩
    have hM1a := mb_keep hM0 hY0 hc0 hs0
    have hK1a := hK0.trans hc0
    have f1_1 := hM1a.frozen 1
    obtain ⟨o1_1, e1_1⟩ := hM1a.old 1 (by decide)
    have hM1 : MB B (w1.setCell ⟨mb, 1, none⟩ (.int .u64 v1)) mb { (M.nil kd) with id := v1 } := mb_set hM1a 1 (.int .u64 v1) (fun _ _ _ => rfl) rfl rfl rfl
    have hY1 := eye_set hY1a hM1a 1 (.int .u64 v1)
    have hK1 := ek_mb hK1a hM1a 1 (.int .u64 v1)
    have hk1 : BytesOk r1 := (vtake_rest hk0 ht1).1
    have hl1 : r1.length ≤ 1000000 := Nat.le_trans (vtake_rest hk0 ht1).2.1 hl0
    have hp1 := hp0.trans (p105_yes ht1)
    clear hM0 hY0 hK0 hc0 hs0 hM1a hY1a hK1a hp0
    by_cases ht2 : (vtext r1 65536).2.2 = 0
    · go_wp2_with fail
      (with_reducible refine (ytext_yes B yb r1 _ hY1 hK1.sz hk1 hl1 ht2).mono ?_)
      rintro e w2 ⟨t2, rfl, hv2, hY2a, hc1, hs1⟩
      obtain ⟨tA2, tc2, rfl⟩ := hv2.form
      have hM2a := mb_keep hM1 hY1 hc1 hs1
      have hK2a := hK1.trans hc1
      have f2_3 := hM2a.frozen 3
      obtain ⟨o2_3, e2_3⟩ := hM2a.old 3 (by decide)
      have hM2 := mb_setn hM2a (.slice tA2 (vtext r1 65536).1.length tc2) _ hv2
      have hY2 := eye_set hY2a hM2a 3 ((.slice tA2 (vtext r1 65536).1.length tc2))
      have hK2 := ek_mb hK2a hM2a 3 ((.slice tA2 (vtext r1 65536).1.length tc2))
      have hk2 : BytesOk (vtext r1 65536).2.1 := (vtext_rest hk1).1
      have hl2 : (vtext r1 65536).2.1.length ≤ 1000000 := Nat.le_trans (vtext_rest hk1).2.1 hl1
      have hp2 := hp1.trans (p116_yes ht2)
      clear hM1 hY1 hK1 hc1 hs1 hM2a hY2a hK2a hp1
      go_wp2_with fail
      (first | go_end0 | ((try simp only [Exit.inBlock, Exit.then]); refine bodyPost_ret (results_none rfl _ _ _) rfl ?_))
      exact ⟨by rw [HO.out, hp2, parse_nil]; exact ⟨rfl, hY2, hM2⟩, hK2⟩
    · go_wp2_with fail
      (with_reducible refine (ytext_no B yb r1 _ hY1 hK1.sz hk1 hl1 ht2).mono ?_)
      rintro e wx ⟨rfl, hcx, hsx⟩
      go_wp2_with fail
      exact ⟨rfl, by rw [HO.out, hp1, p116_no ht2]; exact ⟨rfl, mb_blk hM1 hY1 hsx⟩, hK1.trans hcx⟩

end Go.Proofs.YtjijmbpgfabgcaaDoor
namespace Go.Proofs.YtjijmbpgfabgcaaDoor
open Go.RowKit
set_option linter.unusedVariables false
set_option linter.unusedSimpArgs false

set_option maxHeartbeats 4000000 in
set_option maxRecDepth 100000 in
theorem yf1 (B yb mb : Nat) (kd : Int) (l : List Int) (w : World) (hY : Eye B w yb l) (hM : MB B w mb (M.nil kd)) (hBs : B ≤ w.heap.size) (hk : BytesOk l) (hl : l.length ≤ 1000000) :
    Calls Tryd.prog 52 #[.pointer (some ⟨yb, 0, none⟩), .pointer (some ⟨mb, 0, none⟩), .int .i64 1] w fun e w' => Out (parse (shP 1) (M.nil kd) l) B yb mb e w' ∧ EK B w w' := by
  obtain ⟨o, ho⟩ : ∃ o, o = parse (shP 1) (M.nil kd) l := ⟨_, rfl⟩
  rw [← ho]
  have HO := Lib.hid ho
  clear ho
  have hp0 : parse (shP 1) (M.nil kd) l = parse [105] (M.nil kd) l := rfl
  have hY0 := hY
  have hM0 := hM
  have hK0 := EK.refl hBs
  have hk0 := hk
  have hl0 := hl
  clear hY hM hk hl
  go_enter Tryd.func52, Tryd.ntmps52
  rcases ht1 : vtake l with _ | ⟨v1, r1⟩
  · go_wp2_with fail
    (with_reducible refine (ynum_no B yb l _ hY0 hK0.sz hk0 ht1).mono ?_)
    rintro e wx ⟨rfl, hcx, hsx⟩
    go_wp2_with fail
    exact ⟨rfl, by rw [HO.out, hp0, p105_no ht1]; exact ⟨rfl, mb_blk hM0 hY0 hsx⟩, hK0.trans hcx⟩
  · go_wp2_with fail
    (with_reducible refine (ynum_yes B yb l r1 v1 _ hY0 hK0.sz hk0 hl0 ht1).mono ?_)
    rintro e w1 ⟨rfl, hY1a, hc0, hs0⟩
    have hM1a := mb_keep hM0 hY0 hc0 hs0
    have hK1a := hK0.trans hc0
    have f1_1 := hM1a.frozen 1
    obtain ⟨o1_1, e1_1⟩ := hM1a.old 1 (by decide)
    have hM1 : MB B (w1.setCell ⟨mb, 1, none⟩ (.int .u64 v1)) mb { (M.nil kd) with id := v1 } := mb_set hM1a 1 (.int .u64 v1) (fun _ _ _ => rfl) rfl rfl rfl
    have hY1 := eye_set hY1a hM1a 1 (.int .u64 v1)
    have hK1 := ek_mb hK1a hM1a 1 (.int .u64 v1)
    have hk1 : BytesOk r1 := (vtake_rest hk0 ht1).1
    have hl1 : r1.length ≤ 1000000 := Nat.le_trans (vtake_rest hk0 ht1).2.1 hl0
    have hp1 := hp0.trans (p105_yes ht1)
    clear hM0 hY0 hK0 hc0 hs0 hM1a hY1a hK1a hp0
    go_wp2_with fail
    (first | go_end0 | ((try simp only [Exit.inBlock, Exit.then]); refine bodyPost_ret (results_none rfl _ _ _) rfl ?_))
    exact ⟨by rw [HO.out, hp1, parse_nil]; exact ⟨rfl, hY1, hM1⟩, hK1⟩
set_option maxHeartbeats 4000000 in
set_option maxRecDepth 100000 in
theorem yf4 (B yb mb : Nat) (kd : Int) (l : List Int) (w : World) (hY : Eye B w yb l) (hM : MB B w mb (M.nil kd)) (hBs : B ≤ w.heap.size) (hk : BytesOk l) (hl : l.length ≤ 1000000) :
    Calls Tryd.prog 52 #[.pointer (some ⟨yb, 0, none⟩), .pointer (some ⟨mb, 0, none⟩), .int .i64 4] w fun e w' => Out (parse (shP 4) (M.nil kd) l) B yb mb e w' ∧ EK B w w' := by
  obtain ⟨o, ho⟩ : ∃ o, o = parse (shP 4) (M.nil kd) l := ⟨_, rfl⟩
  rw [← ho]
  have HO := Lib.hid ho
  clear ho
  have hp0 : parse (shP 4) (M.nil kd) l = parse [116] (M.nil kd) l := rfl
  have hY0 := hY
  have hM0 := hM
  have hK0 := EK.refl hBs
  have hk0 := hk
  have hl0 := hl
  clear hY hM hk hl
  go_enter Tryd.func52, Tryd.ntmps52
  by_cases ht1 : (vtext l 65536).2.2 = 0
  · go_wp2_with fail
    (with_reducible refine (ytext_yes B yb l _ hY0 hK0.sz hk0 hl0 ht1).mono ?_)
    rintro e w1 ⟨t1, rfl, hv1, hY1a, hc0, hs0⟩
    obtain ⟨tA1, tc1, rfl⟩ := hv1.form
    have hM1a := mb_keep hM0 hY0 hc0 hs0
    have hK1a := hK0.trans hc0
    have f1_3 := hM1a.frozen 3
    obtain ⟨o1_3, e1_3⟩ := hM1a.old 3 (by decide)
    have hM1 := mb_setn hM1a (.slice tA1 (vtext l 65536).1.length tc1) _ hv1
    have hY1 := eye_set hY1a hM1a 3 ((.slice tA1 (vtext l 65536).1.length tc1))
    have hK1 := ek_mb hK1a hM1a 3 ((.slice tA1 (vtext l 65536).1.length tc1))
    have hk1 : BytesOk (vtext l 65536).2.1 := (vtext_rest hk0).1
    have hl1 : (vtext l 65536).2.1.length ≤ 1000000 := Nat.le_trans (vtext_rest hk0).2.1 hl0
    have hp1 := hp0.trans (p116_yes ht1)
    clear hM0 hY0 hK0 hc0 hs0 hM1a hY1a hK1a hp0
    go_wp2_with fail
    (first | go_end0 | ((try simp only [Exit.inBlock, Exit.then]); refine bodyPost_ret (results_none rfl _ _ _) rfl ?_))
    exact ⟨by rw [HO.out, hp1, parse_nil]; exact ⟨rfl, hY1, hM1⟩, hK1⟩
  · go_wp2_with fail
    (with_reducible refine (ytext_no B yb l _ hY0 hK0.sz hk0 hl0 ht1).mono ?_)
    rintro e wx ⟨rfl, hcx, hsx⟩
    go_wp2_with fail
    exact ⟨rfl, by rw [HO.out, hp0, p116_no ht1]; exact ⟨rfl, mb_blk hM0 hY0 hsx⟩, hK0.trans hcx⟩
set_option maxHeartbeats 4000000 in
set_option maxRecDepth 100000 in
theorem yf0 (B yb mb : Nat) (kd : Int) (l : List Int) (w : World) (hY : Eye B w yb l) (hM : MB B w mb (M.nil kd)) (hBs : B ≤ w.heap.size) (hk : BytesOk l) (hl : l.length ≤ 1000000) :
    Calls Tryd.prog 52 #[.pointer (some ⟨yb, 0, none⟩), .pointer (some ⟨mb, 0, none⟩), .int .i64 0] w fun e w' => Out (parse (shP 0) (M.nil kd) l) B yb mb e w' ∧ EK B w w' := by
  obtain ⟨o, ho⟩ : ∃ o, o = parse (shP 0) (M.nil kd) l := ⟨_, rfl⟩
  rw [← ho]
  have HO := Lib.hid ho
  clear ho
  have hp0 : parse (shP 0) (M.nil kd) l = parse [] (M.nil kd) l := rfl
  have hY0 := hY
  have hM0 := hM
  have hK0 := EK.refl hBs
  have hk0 := hk
  have hl0 := hl
  clear hY hM hk hl
  go_enter Tryd.func52, Tryd.ntmps52
  go_wp2_with fail
  (first | go_end0 | ((try simp only [Exit.inBlock, Exit.then]); refine bodyPost_ret (results_none rfl _ _ _) rfl ?_))
  exact ⟨by rw [HO.out, hp0, parse_nil]; exact ⟨rfl, hY0, hM0⟩, hK0⟩
set_option maxHeartbeats 4000000 in
set_option maxRecDepth 100000 in
theorem yf2048 (B yb mb : Nat) (kd : Int) (l : List Int) (w : World) (hY : Eye B w yb l) (hM : MB B w mb (M.nil kd)) (hBs : B ≤ w.heap.size) (hk : BytesOk l) (hl : l.length ≤ 1000000) :
    Calls Tryd.prog 52 #[.pointer (some ⟨yb, 0, none⟩), .pointer (some ⟨mb, 0, none⟩), .int .i64 2048] w fun e w' => Out (parse (shP 2048) (M.nil kd) l) B yb mb e w' ∧ EK B w w' := by
  obtain ⟨o, ho⟩ : ∃ o, o = parse (shP 2048) (M.nil kd) l := ⟨_, rfl⟩
  rw [← ho]
  have HO := Lib.hid ho
  clear ho
  have hp0 : parse (shP 2048) (M.nil kd) l = parse [110] (M.nil kd) l := rfl
  have hY0 := hY
  have hM0 := hM
  have hK0 := EK.refl hBs
  have hk0 := hk
  have hl0 := hl
  clear hY hM hk hl
  go_enter Tryd.func52, Tryd.ntmps52
  rcases ht1 : vtake l with _ | ⟨v1, r1⟩
  · go_wp2_with fail
    (with_reducible refine (ynum_no B yb l _ hY0 hK0.sz hk0 ht1).mono ?_)
    rintro e wx ⟨rfl, hcx, hsx⟩
    go_wp2_with fail
    exact ⟨rfl, by rw [HO.out, hp0, p110_no ht1]; exact ⟨rfl, mb_blk hM0 hY0 hsx⟩, hK0.trans hcx⟩
  · go_wp2_with fail
    (with_reducible refine (ynum_yes B yb l r1 v1 _ hY0 hK0.sz hk0 hl0 ht1).mono ?_)
    rintro e w1 ⟨rfl, hY1a, hc0, hs0⟩
    have hM1a := mb_keep hM0 hY0 hc0 hs0
    have hK1a := hK0.trans hc0
    have f1_13 := hM1a.frozen 13
    obtain ⟨o1_13, e1_13⟩ := hM1a.old 13 (by decide)
    have hM1 : MB B (w1.setCell ⟨mb, 13, none⟩ (.int .u64 v1)) mb { (M.nil kd) with n := v1 } := mb_set hM1a 13 (.int .u64 v1) (fun _ _ _ => rfl) rfl rfl rfl
    have hY1 := eye_set hY1a hM1a 13 (.int .u64 v1)
    have hK1 := ek_mb hK1a hM1a 13 (.int .u64 v1)
    have hk1 : BytesOk r1 := (vtake_rest hk0 ht1).1
    have hl1 : r1.length ≤ 1000000 := Nat.le_trans (vtake_rest hk0 ht1).2.1 hl0
    have hp1 := hp0.trans (p110_yes ht1)
    clear hM0 hY0 hK0 hc0 hs0 hM1a hY1a hK1a hp0
    go_wp2_with fail
    (first | go_end0 | ((try simp only [Exit.inBlock, Exit.then]); refine bodyPost_ret (results_none rfl _ _ _) rfl ?_))
    exact ⟨by rw [HO.out, hp1, parse_nil]; exact ⟨rfl, hY1, hM1⟩, hK1⟩
set_option maxHeartbeats 4000000 in
set_option maxRecDepth 100000 in
theorem yf6144 (B yb mb : Nat) (kd : Int) (l : List Int) (w : World) (hY : Eye B w yb l) (hM : MB B w mb (M.nil kd)) (hBs : B ≤ w.heap.size) (hk : BytesOk l) (hl : l.length ≤ 1000000) :
    Calls Tryd.prog 52 #[.pointer (some ⟨yb, 0, none⟩), .pointer (some ⟨mb, 0, none⟩), .int .i64 6144] w fun e w' => Out (parse (shP 6144) (M.nil kd) l) B yb mb e w' ∧ EK B w w' := by
  obtain ⟨o, ho⟩ : ∃ o, o = parse (shP 6144) (M.nil kd) l := ⟨_, rfl⟩
  rw [← ho]
  have HO := Lib.hid ho
  clear ho
  have hp0 : parse (shP 6144) (M.nil kd) l = parse [118, 110] (M.nil kd) l := rfl
  have hY0 := hY
  have hM0 := hM
  have hK0 := EK.refl hBs
  have hk0 := hk
  have hl0 := hl
  clear hY hM hk hl
  go_enter Tryd.func52, Tryd.ntmps52
  rcases ht1 : vtake l with _ | ⟨v1, r1⟩
  · go_wp2_with fail
    (with_reducible refine (ynum_no B yb l _ hY0 hK0.sz hk0 ht1).mono ?_)
    rintro e wx ⟨rfl, hcx, hsx⟩
    go_wp2_with fail
    exact ⟨rfl, by rw [HO.out, hp0, p118_no ht1]; exact ⟨rfl, mb_blk hM0 hY0 hsx⟩, hK0.trans hcx⟩
  · go_wp2_with fail
    (with_reducible refine (ynum_yes B yb l r1 v1 _ hY0 hK0.sz hk0 hl0 ht1).mono ?_)
    rintro e w1 ⟨rfl, hY1a, hc0, hs0⟩
    have hM1a := mb_keep hM0 hY0 hc0 hs0
    have hK1a := hK0.trans hc0
    have f1_14 := hM1a.frozen 14
    obtain ⟨o1_14, e1_14⟩ := hM1a.old 14 (by decide)
    have hM1 : MB B (w1.setCell ⟨mb, 14, none⟩ (.int .u64 v1)) mb { (M.nil kd) with ve := v1 } := mb_set hM1a 14 (.int .u64 v1) (fun _ _ _ => rfl) rfl rfl rfl
    have hY1 := eye_set hY1a hM1a 14 (.int .u64 v1)
    have hK1 := ek_mb hK1a hM1a 14 (.int .u64 v1)
    have hk1 : BytesOk r1 := (vtake_rest hk0 ht1).1
    have hl1 : r1.length ≤ 1000000 := Nat.le_trans (vtake_rest hk0 ht1).2.1 hl0
    have hp1 := hp0.trans (p118_yes ht1)
    clear hM0 hY0 hK0 hc0 hs0 hM1a hY1a hK1a hp0
    rcases ht2 : vtake r1 with _ | ⟨v2, r2⟩
    · go_wp2_with fail
      (with_reducible refine (ynum_no B yb r1 _ hY1 hK1.sz hk1 ht2).mono ?_)
      rintro e wx ⟨rfl, hcx, hsx⟩
      go_wp2_with fail
      exact ⟨rfl, by rw [HO.out, hp1, p110_no ht2]; exact ⟨rfl, mb_blk hM1 hY1 hsx⟩, hK1.trans hcx⟩
    · go_wp2_with fail
      (with_reducible refine (ynum_yes B yb r1 r2 v2 _ hY1 hK1.sz hk1 hl1 ht2).mono ?_)
      rintro e w2 ⟨rfl, hY2a, hc1, hs1⟩
      have hM2a := mb_keep hM1 hY1 hc1 hs1
      have hK2a := hK1.trans hc1
      have f2_13 := hM2a.frozen 13
      obtain ⟨o2_13, e2_13⟩ := hM2a.old 13 (by decide)
      have hM2 : MB B (w2.setCell ⟨mb, 13, none⟩ (.int .u64 v2)) mb { { (M.nil kd) with ve := v1 } with n := v2 } := mb_set hM2a 13 (.int .u64 v2) (fun _ _ _ => rfl) rfl rfl rfl
      have hY2 := eye_set hY2a hM2a 13 (.int .u64 v2)
      have hK2 := ek_mb hK2a hM2a 13 (.int .u64 v2)
      have hk2 : BytesOk r2 := (vtake_rest hk1 ht2).1
      have hl2 : r2.length ≤ 1000000 := Nat.le_trans (vtake_rest hk1 ht2).2.1 hl1
      have hp2 := hp1.trans (p110_yes ht2)
      clear hM1 hY1 hK1 hc1 hs1 hM2a hY2a hK2a hp1
      go_wp2_with fail
      (first | go_end0 | ((try simp only [Exit.inBlock, Exit.then]); refine bodyPost_ret (results_none rfl _ _ _) rfl ?_))
      exact ⟨by rw [HO.out, hp2, parse_nil]; exact ⟨rfl, hY2, hM2⟩, hK2⟩

end Go.Proofs.YtjijmbpgfabgcaaDoor
namespace Go.Proofs.YtjijmbpgfabgcaaDoor
open Go.RowKit
set_option linter.unusedVariables false
set_option linter.unusedSimpArgs false

set_option maxHeartbeats 4000000 in
set_option maxRecDepth 100000 in
theorem yf109 (B yb mb : Nat) (kd : Int) (l : List Int) (w : World) (hY : Eye B w yb l) (hM : MB B w mb (M.nil kd)) (hBs : B ≤ w.heap.size) (hk : BytesOk l) (hl : l.length ≤ 1000000) :
    Calls Tryd.prog 52 #[.pointer (some ⟨yb, 0, none⟩), .pointer (some ⟨mb, 0, none⟩), .int .i64 109] w fun e w' => Out (parse (shP 109) (M.nil kd) l) B yb mb e w' ∧ EK B w w' := by
  obtain ⟨o, ho⟩ : ∃ o, o = parse (shP 109) (M.nil kd) l := ⟨_, rfl⟩
  rw [← ho]
  have HO := Lib.hid ho
  clear ho
  have hp0 : parse (shP 109) (M.nil kd) l = parse [105, 116, 112, 115, 101] (M.nil kd) l := rfl
  have hY0 := hY
  have hM0 := hM
  have hK0 := EK.refl hBs
  have hk0 := hk
  have hl0 := hl
  clear hY hM hk hl
  go_enter Tryd.func52, Tryd.ntmps52
  rcases ht1 : vtake l with _ | ⟨v1, r1⟩
  · go_wp2_with fail
    (with_reducible refine (ynum_no B yb l _ hY0 hK0.sz hk0 ht1).mono ?_)
    rintro e wx ⟨rfl, hcx, hsx⟩
    go_wp2_with fail
    exact ⟨rfl, by rw [HO.out, hp0, p105_no ht1]; exact ⟨rfl, mb_blk hM0 hY0 hsx⟩, hK0.trans hcx⟩
  · go_wp2_with fail
    (with_reducible refine (ynum_yes B yb l r1 v1 _ hY0 hK0.sz hk0 hl0 ht1).mono ?_)
    rintro e w1 ⟨rfl, hY1a, hc0, hs0⟩
    have hM1a := mb_keep hM0 hY0 hc0 hs0
    have hK1a := hK0.trans hc0
    have f1_1 := hM1a.frozen 1
    obtain ⟨o1_1, e1_1⟩ := hM1a.old 1 (by decide)
    have hM1 : MB B (w1.setCell ⟨mb, 1, none⟩ (.int .u64 v1)) mb { (M.nil kd) with id := v1 } := mb_set hM1a 1 (.int .u64 v1) (fun _ _ _ => rfl) rfl rfl rfl
    have hY1 := eye_set hY1a hM1a 1 (.int .u64 v1)
    have hK1 := ek_mb hK1a hM1a 1 (.int .u64 v1)
    have hk1 : BytesOk r1 := (vtake_rest hk0 ht1).1
    have hl1 : r1.length ≤ 1000000 := Nat.le_trans (vtake_rest hk0 ht1).2.1 hl0
    have hp1 := hp0.trans (p105_yes ht1)
    clear hM0 hY0 hK0 hc0 hs0 hM1a hY1a hK1a hp0
    by_cases ht2 : (vtext r1 65536).2.2 = 0
    · go_wp2_with fail
      (with_reducible refine (ytext_yes B yb r1 _ hY1 hK1.sz hk1 hl1 ht2).mono ?_)
      rintro e w2 ⟨t2, rfl, hv2, hY2a, hc1, hs1⟩
      obtain ⟨tA2, tc2, rfl⟩ := hv2.form
      have hM2a := mb_keep hM1 hY1 hc1 hs1
      have hK2a := hK1.trans hc1
      have f2_3 := hM2a.frozen 3
      obtain ⟨o2_3, e2_3⟩ := hM2a.old 3 (by decide)
      have hM2 := mb_setn hM2a (.slice tA2 (vtext r1 65536).1.length tc2) _ hv2
      have hY2 := eye_set hY2a hM2a 3 ((.slice tA2 (vtext r1 65536).1.length tc2))
      have hK2 := ek_mb hK2a hM2a 3 ((.slice tA2 (vtext r1 65536).1.length tc2))
      have hk2 : BytesOk (vtext r1 65536).2.1 := (vtext_rest hk1).1
      have hl2 : (vtext r1 65536).2.1.length ≤ 1000000 := Nat.le_trans (vtext_rest hk1).2.1 hl1
      have hp2 := hp1.trans (p116_yes ht2)
      clear hM1 hY1 hK1 hc1 hs1 hM2a hY2a hK2a hp1
      obtain ⟨d3, hd3⟩ : ∃ d, d = (vtext r1 65536).2.1 := ⟨_, rfl⟩
      rw [← hd3] at hY2 hk2 hl2 hp2
      clear hd3
      rcases d3 with _ | ⟨v3, r3⟩
      · go_wp2_with fail
        (with_reducible refine (yone_no B yb _ hY2 hK2.sz).mono ?_)
        rintro e wx ⟨rfl, hcx, hsx⟩
        go_wp2_with fail
        exact ⟨rfl, by rw [HO.out, hp2, p112_no]; exact ⟨rfl, mb_blk hM2 hY2 hsx⟩, hK2.trans hcx⟩
      · have hlr3 : r3.length ≤ 1000000 := by simp at hl2; omega
        go_wp2_with fail
        (with_reducible refine (yone_yes B yb v3 r3 _ hY2 hK2.sz hlr3).mono ?_)
        rintro e w3 ⟨rfl, hY3a, hc2, hs2⟩
        have hM3a := mb_keep hM2 hY2 hc2 hs2
        have hK3a := hK2.trans hc2
        have f3_4 := hM3a.frozen 4
        obtain ⟨o3_4, e3_4⟩ := hM3a.old 4 (by decide)
        have hM3 : MB B (w3.setCell ⟨mb, 4, none⟩ (.int .u8 v3)) mb { { { (M.nil kd) with id := v1 } with nm := (vtext r1 65536).1 } with pr := v3 } := mb_set hM3a 4 (.int .u8 v3) (fun _ _ _ => rfl) rfl rfl rfl
        have hY3 := eye_set hY3a hM3a 4 (.int .u8 v3)
        have hK3 := ek_mb hK3a hM3a 4 (.int .u8 v3)
        have hk3 : BytesOk r3 := (fun y hy => hk2 y (by simp [hy]))
        have hl3 : r3.length ≤ 1000000 := hlr3
        have hp3 := hp2.trans (p112_yes)
        clear hM2 hY2 hK2 hc2 hs2 hM3a hY3a hK3a hp2
        rcases ht4 : vtake r3 with _ | ⟨v4, r4⟩
        · go_wp2_with fail
          (with_reducible refine (yplace_no1 B yb r3 _ hY3 hK3.sz hk3 ht4).mono ?_)
          rintro e wx ⟨rfl, hcx, hsx⟩
          go_wp2_with fail
          exact ⟨rfl, by rw [HO.out, hp3, p115_no ht4]; exact ⟨rfl, mb_blk hM3 hY3 hsx⟩, hK3.trans hcx⟩
        · have hkr4 := (vtake_rest hk3 ht4).1
          have hlr4 := Nat.le_trans (vtake_rest hk3 ht4).2.1 hl3
          rcases hu4 : vtake r4 with _ | ⟨u4, s4⟩
          · go_wp2_with fail
            (with_reducible refine (yplace_no2 B yb r3 r4 v4 _ hY3 hK3.sz hk3 hl3 ht4 hkr4 hu4).mono ?_)
            rintro e wx ⟨rfl, hcx, hsx⟩
            go_wp2_with fail
            exact ⟨rfl, by rw [HO.out, hp3, p115_no2 ht4 hu4]; exact ⟨rfl, mb_blk hM3 hY3 hsx⟩, hK3.trans hcx⟩
          · go_wp2_with fail
            (with_reducible refine (yplace_yes B yb r3 r4 s4 v4 u4 _ hY3 hK3.sz hk3 hl3 ht4 hkr4 hlr4 hu4).mono ?_)
            rintro e w4 ⟨rfl, hY4a, hc3, hs3⟩
            have hM4a := mb_keep hM3 hY3 hc3 hs3
            have hK4a := hK3.trans hc3
            have f4_6 := hM4a.frozen 6
            have f4_7 := hM4a.frozen 7
            obtain ⟨o4_6, e4_6⟩ := hM4a.old 6 (by decide)
            obtain ⟨o4_7, e4_7⟩ := hM4a.old 7 (by decide)
            have hM4b : MB B (w4.setCell ⟨mb, 6, none⟩ (.int .u64 v4)) mb { { { { (M.nil kd) with id := v1 } with nm := (vtext r1 65536).1 } with pr := v3 } with sg := v4 } := mb_set hM4a 6 (.int .u64 v4) (fun _ _ _ => rfl) rfl rfl rfl
            have hY4b := eye_set hY4a hM4a 6 (.int .u64 v4)
            have hK4b := ek_mb hK4a hM4a 6 (.int .u64 v4)
            have hM4 : MB B ((w4.setCell ⟨mb, 6, none⟩ (.int .u64 v4)).setCell ⟨mb, 7, none⟩ (.int .u64 u4)) mb { { { { { (M.nil kd) with id := v1 } with nm := (vtext r1 65536).1 } with pr := v3 } with sg := v4 } with so := u4 } := mb_set hM4b 7 (.int .u64 u4) (fun _ _ _ => rfl) rfl rfl rfl
            have hY4 := eye_set hY4b hM4b 7 (.int .u64 u4)
            have hK4 := ek_mb hK4b hM4b 7 (.int .u64 u4)
            have hk4 : BytesOk s4 := (vtake_rest hkr4 hu4).1
            have hl4 : s4.length ≤ 1000000 := Nat.le_trans (vtake_rest hkr4 hu4).2.1 hlr4
            have hp4 := hp3.trans (p115_yes ht4 hu4)
            clear hM3 hY3 hK3 hc3 hs3 hM4a hY4a hK4a hp3 hM4b hY4b hK4b
            rcases ht5 : vtake s4 with _ | ⟨v5, r5⟩
            · go_wp2_with fail
              (with_reducible refine (yplace_no1 B yb s4 _ hY4 hK4.sz hk4 ht5).mono ?_)
              rintro e wx ⟨rfl, hcx, hsx⟩
              go_wp2_with fail
              exact ⟨rfl, by rw [HO.out, hp4, p101_no ht5]; exact ⟨rfl, mb_blk hM4 hY4 hsx⟩, hK4.trans hcx⟩
            · have hkr5 := (vtake_rest hk4 ht5).1
              have hlr5 := Nat.le_trans (vtake_rest hk4 ht5).2.1 hl4
              rcases hu5 : vtake r5 with _ | ⟨u5, s5⟩
              · go_wp2_with fail
                (with_reducible refine (yplace_no2 B yb s4 r5 v5 _ hY4 hK4.sz hk4 hl4 ht5 hkr5 hu5).mono ?_)
                rintro e wx ⟨rfl, hcx, hsx⟩
                go_wp2_with fail
                exact ⟨rfl, by rw [HO.out, hp4, p101_no2 ht5 hu5]; exact ⟨rfl, mb_blk hM4 hY4 hsx⟩, hK4.trans hcx⟩
              · go_wp2_with fail
                (with_reducible refine (yplace_yes B yb s4 r5 s5 v5 u5 _ hY4 hK4.sz hk4 hl4 ht5 hkr5 hlr5 hu5).mono ?_)
                rintro e w5 ⟨rfl, hY5a, hc4, hs4⟩
                have hM5a := mb_keep hM4 hY4 hc4 hs4
                have hK5a := hK4.trans hc4
                have f5_8 := hM5a.frozen 8
                have f5_9 := hM5a.frozen 9
                obtain ⟨o5_8, e5_8⟩ := hM5a.old 8 (by decide)
                obtain ⟨o5_9, e5_9⟩ := hM5a.old 9 (by decide)
                have hM5b : MB B (w5.setCell ⟨mb, 8, none⟩ (.int .u64 v5)) mb { { { { { { (M.nil kd) with id := v1 } with nm := (vtext r1 65536).1 } with pr := v3 } with sg := v4 } with so := u4 } with eg := v5 } := mb_set hM5a 8 (.int .u64 v5) (fun _ _ _ => rfl) rfl rfl rfl
                have hY5b := eye_set hY5a hM5a 8 (.int .u64 v5)
                have hK5b := ek_mb hK5a hM5a 8 (.int .u64 v5)
                have hM5 : MB B ((w5.setCell ⟨mb, 8, none⟩ (.int .u64 v5)).setCell ⟨mb, 9, none⟩ (.int .u64 u5)) mb { { { { { { { (M.nil kd) with id := v1 } with nm := (vtext r1 65536).1 } with pr := v3 } with sg := v4 } with so := u4 } with eg := v5 } with eo := u5 } := mb_set hM5b 9 (.int .u64 u5) (fun _ _ _ => rfl) rfl rfl rfl
                have hY5 := eye_set hY5b hM5b 9 (.int .u64 u5)
                have hK5 := ek_mb hK5b hM5b 9 (.int .u64 u5)
                have hk5 : BytesOk s5 := (vtake_rest hkr5 hu5).1
                have hl5 : s5.length ≤ 1000000 := Nat.le_trans (vtake_rest hkr5 hu5).2.1 hlr5
                have hp5 := hp4.trans (p101_yes ht5 hu5)
                clear hM4 hY4 hK4 hc4 hs4 hM5a hY5a hK5a hp4 hM5b hY5b hK5b
                go_wp2_with fail
                (first | go_end0 | ((try simp only [Exit.inBlock, Exit.then]); refine bodyPost_ret (results_none rfl _ _ _) rfl ?_))
                exact ⟨by rw [HO.out, hp5, parse_nil]; exact ⟨rfl, hY5, hM5⟩, hK5⟩
    · go_wp2_with fail
      (with_reducible refine (ytext_no B yb r1 _ hY1 hK1.sz hk1 hl1 ht2).mono ?_)
      rintro e wx ⟨rfl, hcx, hsx⟩
      go_wp2_with fail
      exact ⟨rfl, by rw [HO.out, hp1, p116_no ht2]; exact ⟨rfl, mb_blk hM1 hY1 hsx⟩, hK1.trans hcx⟩

end Go.Proofs.YtjijmbpgfabgcaaDoor
namespace Go.Proofs.YtjijmbpgfabgcaaDoor
open Go.RowKit
set_option linter.unusedVariables false
set_option linter.unusedSimpArgs false

set_option maxHeartbeats 4000000 in
set_option maxRecDepth 100000 in
theorem yf10240 (B yb mb : Nat) (kd : Int) (l : List Int) (w : World) (hY : Eye B w yb l) (hM : MB B w mb (M.nil kd)) (hBs : B ≤ w.heap.size) (hk : BytesOk l) (hl : l.length ≤ 1000000) :
    Calls Tryd.prog 52 #[.pointer (some ⟨yb, 0, none⟩), .pointer (some ⟨mb, 0, none⟩), .int .i64 10240] w fun e w' => Out (parse (shP 10240) (M.nil kd) l) B yb mb e w' ∧ EK B w w' := by
  obtain ⟨o, ho⟩ : ∃ o, o = parse (shP 10240) (M.nil kd) l := ⟨_, rfl⟩
  rw [← ho]
  have HO := Lib.hid ho
  clear ho
  have hp0 : parse (shP 10240) (M.nil kd) l = parse [108, 110] (M.nil kd) l := rfl
  have hY0 := hY
  have hM0 := hM
  have hK0 := EK.refl hBs
  have hk0 := hk
  have hl0 := hl
  clear hY hM hk hl
  go_enter Tryd.func52, Tryd.ntmps52
  obtain ⟨iU, hiU, hzU⟩ := Option.map_eq_some_iff.1 infoU64
  simp only [Prod.mk.injEq] at hzU
  obtain ⟨hu0, hu1, hu2⟩ := hzU
  rcases ht1 : vtake l with _ | ⟨v1, r1⟩
  · go_wp2_with fail
    (with_reducible refine (ynum_no B yb l _ hY0 hK0.sz hk0 ht1).mono ?_)
    rintro e wx ⟨rfl, hcx, hsx⟩
    go_wp2_with fail
    exact ⟨rfl, by rw [HO.out, hp0, p108_no ht1]; exact ⟨rfl, mb_blk hM0 hY0 hsx⟩, hK0.trans hcx⟩
  · have hvr := (vtake_rest hk0 ht1).2.2
    by_cases hle : v1 ≤ 8
    · have hdt : decide (v1 ≤ 8) = true := by simpa using hle
      go_wp2_with fail
      (with_reducible refine (ynum_yes B yb l r1 v1 _ hY0 hK0.sz hk0 hl0 ht1).mono ?_)
      rintro e w1 ⟨rfl, hY1, hc0, hs0⟩
      go_wp2_with fail
      (with_reducible refine (must_yes w1).mono ?_)
      rintro e wx ⟨rfl, rfl⟩
      have hM1 := mb_keep hM0 hY0 hc0 hs0
      have hK1 := hK0.trans hc0
      have hk1 := (vtake_rest hk0 ht1).1
      have hl1 := Nat.le_trans (vtake_rest hk0 ht1).2.1 hl0
      have HT := Lib.hid ht1
      clear ht1 hM0 hY0 hK0 hc0 hs0
      go_wp2_with fail
    
      go_loopw [17] (fun (s17 : Value) (wr : World) => ∃ (j : Nat) (a b : List Int), (j : Int) ≤ v1 ∧ s17 = .int .u64 j ∧ Hid (takeN v1.toNat [] r1 = takeN (v1.toNat - j) a b) ∧ a.length = j ∧ Eye B wr yb b ∧ MB B wr mb { M.nil kd with vs := a } ∧ EK B w wr ∧ BytesOk b ∧ b.length ≤ 1000000) (fun s17 _ => v1.toNat - (intOf s17).toNat)
      case atStart => exact ⟨0, [], r1, by omega, rfl, rfl, rfl, hY1, hM1, hK1, hk1, hl1⟩
      case round =>
        obtain ⟨j, a, b, hjv, rfl, HTK, haj, hY, hM, hK, hk, hl⟩ := hrel
        clear hY1 hM1 hK1
        by_cases hlt : (j : Int) < v1
        · have hvj : v1.toNat - j = (v1.toNat - (j + 1)) + 1 := by omega
          rcases htb : vtake b with _ | ⟨x, r2⟩
          · have hno : takeN v1.toNat [] r1 = none := by rw [HTK.out, hvj]; simp [takeN, htb]
            have HNO := Lib.hid hno
            clear hno hvj
            have hMd : MB B wr.drew mb { M.nil kd with vs := a } := hM
            obtain ⟨hmB, nv, rv, vv, hO, k1, k2, k3⟩ := hM
            have c15 : wr.cell? ⟨mb, 15, none⟩ = some vv := hO.cell 15
            have hYd : Eye B wr.drew yb b := hY
            have hsz : B ≤ wr.drew.heap.size := hK.sz
            go_wp2_with fail
            have HMD := Lib.hid hMd
            have HKR := Lib.hid hK
            have HYD := Lib.hid hYd
            have HSZ := Lib.hid hsz
            refine wp_region_held_drew (S := fun w' => w'.cell? ⟨mb, 15, none⟩ = some vv) (by kernel_rfl) (by first | exact c15) (fun _ => ?_)
            refine wpAnyH_take (i := 0) (oi := ({ dst := some 19, op := Op.move (Operand.tmp 1), type := 97, pos := _, after := #[], guard := none } : Oper)) (v := ?_) rfl (by kernel_rfl) (by kernel_rfl) (by kernel_rfl) (fun _ _ _ h => h) (Or.inl ⟨by rfl, ?_⟩) (by first | exact c15) ?_
            rotate_left
            · intro w hSw
              try dsimp only at hSw
              go_simp
              try with_reducible rfl
            try simp only [Act.put, List.setIfInBounds_toArray, List.set_cons_zero, List.set_cons_succ]
            refine wpAnyH_take (i := 1) (oi := ({ dst := some 20, op := Op.move (Operand.tmp 1), type := 97, pos := _, after := #[], guard := none } : Oper)) (v := ?_) rfl (by kernel_rfl) (by kernel_rfl) (by kernel_rfl) (fun _ _ _ h => h) (Or.inl ⟨by rfl, ?_⟩) (by first | exact c15) ?_
            rotate_left
            · intro w hSw
              try dsimp only at hSw
              go_simp
              try with_reducible rfl
            try simp only [Act.put, List.setIfInBounds_toArray, List.set_cons_zero, List.set_cons_succ]
            refine wpAnyH_take (i := 2) (oi := ({ dst := some 21, op := Op.nilCheck (Operand.tmp 20), type := 0, pos := _, after := #[{ on := 1, ground := Ground.data }], guard := none } : Oper)) (v := ?_) rfl (by kernel_rfl) (by kernel_rfl) (by kernel_rfl) (fun _ _ _ h => h) (Or.inl ⟨by rfl, ?_⟩) (by first | exact c15) ?_
            rotate_left
            · intro w hSw
              try dsimp only at hSw
              go_simp
              try with_reducible rfl
            try simp only [Act.put, List.setIfInBounds_toArray, List.set_cons_zero, List.set_cons_succ]
            refine wpAnyH_take (i := 3) (oi := ({ dst := some 22, op := Op.fieldAddr 31 (Operand.tmp 21) 13, type := 0, pos := _, after := #[{ on := 2, ground := Ground.data }], guard := none } : Oper)) (v := ?_) rfl (by kernel_rfl) (by kernel_rfl) (by kernel_rfl) (fun _ _ _ h => h) (Or.inl ⟨by rfl, ?_⟩) (by first | exact c15) ?_
            rotate_left
            · intro w hSw
              try dsimp only at hSw
              go_simp
              try with_reducible rfl
            try simp only [Act.put, List.setIfInBounds_toArray, List.set_cons_zero, List.set_cons_succ]
            refine wpAnyH_take (i := 4) (oi := ({ dst := some 23, op := Op.load 26 (Operand.tmp 22), type := 26, pos := _, after := #[{ on := 3, ground := Ground.data }], guard := none } : Oper)) (v := ?_) rfl (by kernel_rfl) (by kernel_rfl) (by kernel_rfl) (fun _ _ _ h => h) (Or.inl ⟨by rfl, ?_⟩) (by first | exact c15) ?_
            rotate_left
            · intro w hSw
              try dsimp only at hSw
              go_simp
              try with_reducible rfl
            try simp only [Act.put, List.setIfInBounds_toArray, List.set_cons_zero, List.set_cons_succ]
            refine wpAnyH_take (i := 5) (oi := ({ dst := some 24, op := Op.move (Operand.tmp 0), type := 94, pos := _, after := #[], guard := none } : Oper)) (v := ?_) rfl (by kernel_rfl) (by kernel_rfl) (by kernel_rfl) (fun _ _ _ h => h) (Or.inl ⟨by rfl, ?_⟩) (by first | exact c15) ?_
            rotate_left
            · intro w hSw
              try dsimp only at hSw
              go_simp
              try with_reducible rfl
            try simp only [Act.put, List.setIfInBounds_toArray, List.set_cons_zero, List.set_cons_succ]
            refine wpAnyH_ready (rs := [6]) (by kernel_rfl) (by simp) ?_
            refine AllReadyH.cons (o := ({ dst := some 25, op := Op.call { callee := Callee.value (Operand.func 54), args := #[Operand.tmp 24], argTypes := #[94] }, type := 22, pos := _, after := #[{ on := 5, ground := Ground.data }], guard := none } : Oper)) rfl (fun K hK => ?_) AllReadyH.nil
            go_simp
            go_at_call 54
            (with_reducible refine (ynum_no B yb b _ HYD.out HSZ.out hk htb).mono ?_)
            rintro e wx ⟨rfl, hcx, hsx⟩
            simp only []
            exact ⟨rfl, by rw [HO.out, hp0, p108_no3 HT.out hle HNO.out]; exact ⟨rfl, mb_blk HMD.out HYD.out hsx⟩, (HKR.out.trans (EK.same (below_drewN (Below.refl _ _) 1) HKR.out.sz)).trans hcx⟩
          · have hyes : takeN v1.toNat [] r1 = takeN (v1.toNat - (j + 1)) (a ++ [x]) r2 := by rw [HTK.out, hvj]; simp [takeN, htb]
            have HYES := Lib.hid hyes
            clear hyes hvj
            have hYd : Eye B wr.drew yb b := hY
            have hMd : MB B wr.drew mb { M.nil kd with vs := a } := hM
            have hsz : B ≤ wr.drew.heap.size := hK.sz
            have hKd : EK B w wr.drew := hK.trans (EK.same (below_drewN (Below.refl _ _) 1) hK.sz)
            have hM2 := hM
            obtain ⟨hmB, nv, rv, vv, hO, k1, k2, k3⟩ := hM2
            have c15 : wr.cell? ⟨mb, 15, none⟩ = some vv := hO.cell 15
            have haj6 : a.length ≤ 8 := by omega
            have HJA := Lib.hid haj
            clear haj
            have HK1 := Lib.hid k1
            have HK2 := Lib.hid k2
            have HKR := Lib.hid hK
            go_wp2_with fail
            go_region_law (first | (go_simp; go_at_call 54; (with_reducible refine (ynum_yes B yb b r2 x wr.drew hYd hsz hk hl htb).mono ?_); rintro e wD ⟨rfl, hYD, hcD, hsD⟩; have hOD := hsD _ _ _ hO.drew (mb_ne hMd hYd); have hkD := own_blks k3 (fun g cs k => hsD g 22 cs k (by obtain ⟨_, yv, hyq, _⟩ := hY; exact k.ne_ hyq (by decide))); have rvD := rdv_litU wD x; have k3D := own_same hkD ((Below.refl wD.heap.size wD).alloc (Nat.le_refl _) (.cells #[.int .u64 x] 22)); have OD := hOD.alloc (.cells #[.int .u64 x] 22); have d15 : wD.cell? ⟨mb, 15, none⟩ = some vv := hOD.cell 15; have dd15 : (wD.alloc (.cells #[.int .u64 x] 22)).cell? ⟨mb, 15, none⟩ = some vv := OD.cell 15; have szD : B ≤ (wD.alloc (.cells #[.int .u64 x] 22)).heap.size := Nat.le_trans (EK.sz hcD) (by simp); have hbX : Below wD.heap.size wD (wD.alloc (.cells #[.int .u64 x] 22)) := (Below.refl _ _).alloc (Nat.le_refl _) _; have hKX := ((EK.same (below_drewN (Below.refl wr.heap.size wr) 1) HKR.out.sz).trans hcD).trans (EK.same hbX (EK.sz hcD))) | (refine step_append_any _ rfl _ _ 26 rfl B 22 iU _ 1 8 Tryd.underlying26 hiU hu0 hu1 hu2 rfl (by decide) vv a.length _ rfl k3D (some ⟨wD.heap.size, 0, none⟩) 1 1 [.int .u64 x] rfl rvD (oneInts .u64 [x]) (by unfold maxLen; omega) (by omega) szD (fun h => by cases h) ?_; intro v4 w4 hown4 hgrow4 hat4; obtain ⟨A4, c4, rfl, _⟩ := sl_of_own hown4; have O4 := OD.grown hgrow4 (Ne.symm (own_blk_ne k3D OD (by decide))); have e15 : w4.cell? ⟨mb, 15, none⟩ = some vv := O4.cell 15; have f15 := O4.frozen 15))
            all_goals go_wp2_with fail
            all_goals go_roundw
            all_goals first
              | exact ⟨j + 1, a ++ [x], r2, by omega, by go_num, HYES.out, by rw [List.length_append, HJA.out]; rfl, eye_app (hYD.same hbX) OD k3D hgrow4, mb_app hmB OD (HK1.out.ek hKX) (HK2.out.ek hKX) k3D hgrow4 hown4 rfl, ek_app (HKR.out.trans hKX) hmB OD k3D hgrow4, (vtake_rest hk htb).1, Nat.le_trans (vtake_rest hk htb).2.1 hl⟩
              | (simp [intOf]; omega)
        · obtain rfl : v1 = (j : Int) := by omega
          have htk : takeN ((j : Int)).toNat [] r1 = some (a, b) := by rw [HTK.out, show ((j : Int)).toNat - j = 0 by omega]; rfl
          have hp1 : parse (shP 10240) (M.nil kd) l = parse [110] { M.nil kd with vs := a } b := by rw [hp0]; exact p108_yes HT.out hle htk
          have hY1 := hY
          have hM1 := hM
          have hK1 := hK
          have hk1 := hk
          have hl1 := hl
          clear hY hM hK hk hl htk HTK HT hp0
          rcases ht2 : vtake b with _ | ⟨v2, r2⟩
          · go_wp2_with fail
            (with_reducible refine (ynum_no B yb b _ hY1 hK1.sz hk1 ht2).mono ?_)
            rintro e wx ⟨rfl, hcx, hsx⟩
            go_wp2_with fail
            exact ⟨rfl, by rw [HO.out, hp1, p110_no ht2]; exact ⟨rfl, mb_blk hM1 hY1 hsx⟩, hK1.trans hcx⟩
          · go_wp2_with fail
            (with_reducible refine (ynum_yes B yb b r2 v2 _ hY1 hK1.sz hk1 hl1 ht2).mono ?_)
            rintro e w2 ⟨rfl, hY2a, hc1, hs1⟩
            have hM2a := mb_keep hM1 hY1 hc1 hs1
            have hK2a := hK1.trans hc1
            have f2_13 := hM2a.frozen 13
            obtain ⟨o2_13, e2_13⟩ := hM2a.old 13 (by decide)
            have hM2 : MB B (w2.setCell ⟨mb, 13, none⟩ (.int .u64 v2)) mb { { M.nil kd with vs := a } with n := v2 } := mb_set hM2a 13 (.int .u64 v2) (fun _ _ _ => rfl) rfl rfl rfl
            have hY2 := eye_set hY2a hM2a 13 (.int .u64 v2)
            have hK2 := ek_mb hK2a hM2a 13 (.int .u64 v2)
            have hk2 : BytesOk r2 := (vtake_rest hk1 ht2).1
            have hl2 : r2.length ≤ 1000000 := Nat.le_trans (vtake_rest hk1 ht2).2.1 hl1
            have hp2 := hp1.trans (p110_yes ht2)
            clear hM1 hY1 hK1 hc1 hs1 hM2a hY2a hK2a hp1
            go_wp2_with fail
            (first | go_end0 | ((try simp only [Exit.inBlock, Exit.then]); refine bodyPost_ret (results_none rfl _ _ _) rfl ?_))
            exact ⟨by rw [HO.out, hp2, parse_nil]; exact ⟨rfl, hY2, hM2⟩, hK2⟩
    · have hdt : decide (v1 ≤ 8) = false := by simpa using hle
      go_wp2_with fail
      (with_reducible refine (ynum_yes B yb l r1 v1 _ hY0 hK0.sz hk0 hl0 ht1).mono ?_)
      rintro e w1 ⟨rfl, hY1, hc0, hs0⟩
      go_wp2_with fail
      (with_reducible refine (must_no w1).mono ?_)
      rintro e wx ⟨rfl, rfl⟩
      go_wp2_with fail
      exact ⟨rfl, by rw [HO.out, hp0, p108_no2 ht1 (by omega)]; exact ⟨rfl, mb_blk hM0 hY0 hs0⟩, hK0.trans hc0⟩

end Go.Proofs.YtjijmbpgfabgcaaDoor
